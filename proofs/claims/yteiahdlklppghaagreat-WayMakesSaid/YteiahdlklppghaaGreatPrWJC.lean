import Derived.Test.YteiahdlklppghaaGreatPrWJB
namespace Go.Proofs.YteiahdlklppghaaGreat.Ev
open Go Go.RowKit
theorem set_range (m i:Nat) (f:Nat→AV) (v:AV):((List.range m).map f).set i v=(List.range m).map (fun j=>if j=i then v else f j):=by
  apply List.ext_getElem
  · simp
  · intro j h1 h2
    simp [List.getElem_set]
    by_cases h:i=j
    · simp [h]
    · rw [if_neg h,if_neg (Ne.symm h)]
theorem nth_range {m i:Nat} {f:Nat→AV} (h:i < m):nth ((List.range m).map f) i=f i:=by
  rw [nth_lt (by simpa using h)]; simp
def Blobs (l:List AV):Prop:=∀ i,i < l.length→nth l i=.blob (nth l i).toBlob
def clampV (lv:Int):Nat:=(min (max lv 0) 255).toNat
def nextAt (l:List AV) (id:List UInt8) (c i:Nat):AV:=if i≤c then .blob id else if i < l.length then nth l i else nth l (l.length-1)
def nextV (l:List AV) (id:List UInt8) (lv:Int):List AV :=
  if l.length=0 then [] else (List.range (max l.length (clampV lv+2))).map (nextAt l id (clampV lv))
theorem next_l2 (run:Run) (n k0:Nat) (l:List AV) (id last:List UInt8) (c m:Nat) (hm:m≤1000000) (hc:c+2≤m) (hl:l.length≤m) (hlast:nth l (l.length-1)=.blob last) :
    ∀ (j k i:Nat),i+j=c+1→j < k →
      f97_l2 run n k0 k m ((c:Int)+1) (i:Int) id last ((List.range m).map fun x=>if x < i then .blob id else if x < l.length then nth l x else .blob last) =
        some ⟨[.slice ((List.range m).map (nextAt l id c))],[],false⟩:=by
  intro j
  induction j with
  | zero =>
    intro k i hi hk
    obtain ⟨k,rfl⟩:∃ j,k=j+1:=⟨k-1,by omega⟩
    rw [f97_l2_eq,ltI_f (by omega),w64 (x:=(m:Int)-1) (by omega) (by omega),inR_yes (i:=(m:Int)-1) (by omega) (by omega),cond_false,cond_true,set_range,List.drop_zero,List.take_of_length_le (by simp)]
    congr 5
    funext x
    simp only [nextAt]
    by_cases h1:x≤c
    · rw [if_neg (by omega),if_pos (by omega),if_pos h1]
    · rw [if_neg (c:=x≤c) h1]
      by_cases h2:x < l.length
      · rw [if_pos h2,if_pos h2]
        by_cases h3:x=m-1
        · rw [if_pos (by omega),← hlast]; congr 1; omega
        · rw [if_neg (by omega),if_neg (by omega)]
      · rw [if_neg h2,hlast]
        split
        · rfl
        · rw [if_neg (by omega)]
  | succ j ih =>
    intro k i hi hk
    obtain ⟨k,rfl⟩:∃ j,k=j+1:=⟨k-1,by omega⟩
    rw [f97_l2_eq,ltI_t (by omega),inR_nat (by omega),cond_true,cond_true,set_range,w64 (by omega) (by omega),Nat.zero_add,Int.toNat_natCast]
    have ih':=ih k (i+1) (by omega) (by omega)
    have e:((i+1:Nat):Int)=(i:Int)+1:=by omega
    rw [e] at ih'
    rw [← ih']
    congr 2
    funext x
    by_cases h1:x=i
    · rw [if_pos h1,if_pos (by omega)]
    · rw [if_neg h1]
      by_cases h2:x < i
      · rw [if_pos h2,if_pos (show x < i+1 by omega)]
      · rw [if_neg h2,if_neg (show ¬ x < i+1 by omega)]
theorem next_l0 (run:Run) (n:Nat) (l:List AV) (id last:List UInt8) (z:AV) (c m:Nat) (hm:m≤1000000) (hc:c+2≤m) (hl:l.length≤m) (hlast:nth l (l.length-1)=.blob last) (hn:c+1 < n) :
    ∀ (j k i:Nat),i+j=m→j < k →
      f97_l0 run n k l (c:Int) m (m:Int) (i:Int) id last ((List.range m).map fun x=>if x < i then .blob last else z) =
        some ⟨[.slice ((List.range m).map (nextAt l id c))],[],false⟩:=by
  intro j
  induction j with
  | zero =>
    intro k i hi hk
    obtain ⟨k,rfl⟩:∃ j,k=j+1:=⟨k-1,by omega⟩
    rw [Nat.add_zero] at hi
    subst hi
    have hb:boundsOk 0 (l.length:Int) (l.length:Int) (l.length:Int)=true:=by simp [boundsOk]
    rw [f97_l0_eq,ltI_f (by omega),hb,w64 (x:=(c:Int)+1) (by omega) (by omega)]
    simp only [cond_false,cond_true,Bool.and_true]
    rw [← next_l2 run n k l id last c i hm hc hl hlast (c+1) n 0 (by omega) hn]
    congr 1
    rw [Int.toNat_natCast,List.take_length,List.drop_zero,List.take_of_length_le hl]
    simp only [splice]
    apply List.ext_getElem
    · simp; omega
    · intro x h1 h2
      simp only [List.take_zero,List.nil_append,Nat.zero_add,List.getElem_map,List.getElem_range,Nat.not_lt_zero,if_false]
      rw [List.getElem_append]
      by_cases hx:x < l.length
      · rw [dif_pos hx,if_pos hx,nth_lt hx]
      · rw [dif_neg hx,if_neg hx,List.getElem_drop,List.getElem_map,List.getElem_range,if_pos]
        simp at h2
        omega
  | succ j ih =>
    intro k i hi hk
    obtain ⟨k,rfl⟩:∃ j,k=j+1:=⟨k-1,by omega⟩
    rw [f97_l0_eq,ltI_t (by omega),inR_nat (by omega),cond_true,cond_true,set_range,w64 (by omega) (by omega),Nat.zero_add,Int.toNat_natCast]
    have ih':=ih k (i+1) (by omega) (by omega)
    have e:((i+1:Nat):Int)=(i:Int)+1:=by omega
    rw [e] at ih'
    rw [← ih']
    congr 2
    funext x
    by_cases h1:x=i
    · rw [if_pos h1,if_pos (by omega)]
    · rw [if_neg h1]
      by_cases h2:x < i
      · rw [if_pos h2,if_pos (show x < i+1 by omega)]
      · rw [if_neg h2,if_neg (show ¬ x < i+1 by omega)]
theorem clampV_le (lv:Int):clampV lv≤255:=by unfold clampV; omega
theorem next_at (n:Nat) (hn:10000≤n) {l:List AV} (id:List UInt8) (lv:Int) (hl:l.length≤1000) (hb:Blobs l):runE G ext (n+1) 97 [.slice l,.blob id,.int lv]=some ⟨[.slice (nextV l id lv)],[],false⟩:=by
  have hc:=clampV_le lv
  have e1:min (max lv 0) 255=(clampV lv:Int):=by unfold clampV; omega
  rw [f97_run,f97_eq]
  unfold nextV
  by_cases h0:l.length=0
  · rw [eqI_t (by omega),if_pos h0]; rfl
  · rw [eqI_f (by omega),if_neg h0]
    simp only [mn2_eq,mx2_eq,e1]
    rw [w64 (x:=(clampV lv:Int)+2) (by omega) (by omega)]
    have e2:max (l.length:Int) ((clampV lv:Int)+2)=((max l.length (clampV lv+2):Nat):Int):=by omega
    have e3:max l.length (clampV lv+2)≤1000:=by omega
    have e4:clampV lv+2≤max l.length (clampV lv+2):=by omega
    have e5:l.length≤max l.length (clampV lv+2):=by omega
    rw [e2]
    generalize max l.length (clampV lv+2)=m at e3 e4 e5
    rw [Int.toNat_natCast,eqI_t rfl,leI_t (by omega),show Nat.ble (m*32) 140737488355328=true from Nat.ble_eq_true_of_le (by omega),w64 (by omega) (by omega),inR_yes (by omega) (by omega)]
    simp only [cond_false,cond_true,Bool.and_true]
    have e6:((l.length:Int)-1).toNat=l.length-1:=by omega
    rw [e6]
    rw [← next_l0 (runE G ext n) n l id (nth l (l.length-1)).toBlob (.blob (List.replicate 32 0)) (clampV lv) m (by omega) e4 e5 (hb _ (by omega)) (by omega) m n 0 (by omega) (by omega)]
    congr 1
    apply List.ext_getElem <;> simp
theorem next_runs {l:List AV} {id:List UInt8} {lv:Int} (hl:l.length≤1000) (hb:Blobs l):RunsX 97 [.slice l,.blob id,.int lv] ⟨[.slice (nextV l id lv)],[],false⟩ :=
  Evt.succ ((Evt.ge 10000).mono fun n hn=>next_at n hn id lv hl hb)
theorem refNext_l0 (run:Run) (n:Nat) (l:List AV) (id:List UInt8) (c m:Nat) (hm:m≤1000000) (hc:c+2≤m) (hl:l.length≤m) (h0:l.length≠0) (hb:Blobs l) :
    ∀ (j k i:Nat),i+j=m→j < k →
      f80_l0 run n k l (c:Int) (m:Int) ((List.range i).map (nextAt l id c)) (i:Int) id =
        some ⟨[.slice ((List.range m).map (nextAt l id c))],[],true⟩:=by
  intro j
  induction j with
  | zero =>
    intro k i hi hk
    obtain ⟨k,rfl⟩:∃ j,k=j+1:=⟨k-1,by omega⟩
    rw [Nat.add_zero] at hi
    subst hi
    rw [f80_l0_eq,ltI_f (by omega)]
    rfl
  | succ j ih =>
    intro k i hi hk
    obtain ⟨k,rfl⟩:∃ j,k=j+1:=⟨k-1,by omega⟩
    have hbl:Nat.ble ((((List.range i).map (nextAt l id c)).length+1)*32) 140737488355328=true:=Nat.ble_eq_true_of_le (by simp; omega)
    have ih':=ih k (i+1) (by omega) (by omega)
    have e:((i+1:Nat):Int)=(i:Int)+1:=by omega
    rw [e,List.range_succ,List.map_append,List.map_singleton] at ih'
    rw [f80_l0_eq,ltI_t (by omega),hbl,w64 (x:=(i:Int)+1) (by omega) (by omega),w64 (x:=(m:Int)-1) (by omega) (by omega),w64 (x:=(l.length:Int)-1) (by omega) (by omega),inR_yes (i:=(l.length:Int)-1) (by omega) (by omega),show ((l.length:Int)-1).toNat=l.length-1 by omega,Int.toNat_natCast,← hb (l.length-1) (by omega)]
    simp only [cond_true]
    by_cases h1:i≤c
    · rw [leI_t (by omega),ltI_t (by omega),cond_true,cond_true]
      rw [show nextAt l id c i=.blob id by simp [nextAt,h1]] at ih'
      exact ih'
    · rw [leI_f (by omega),cond_false]
      by_cases h2:i < l.length
      · rw [ltI_t (by omega),inR_nat h2,← hb i h2,cond_true,cond_true]
        rw [show nextAt l id c i=nth l i by simp [nextAt,h1,h2]] at ih'
        exact ih'
      · rw [ltI_f (by omega),cond_false]
        rw [show nextAt l id c i=nth l (l.length-1) by simp [nextAt,h1,h2]] at ih'
        exact ih'
theorem refNext_runs {l:List AV} {id:List UInt8} {lv:Int} (hl:l.length≤1000) (hb:Blobs l):RunsX 80 [.slice l,.blob id,.int lv] ⟨[.slice (nextV l id lv)],[],true⟩:=by
  refine Evt.succ ((Evt.ge 10000).mono fun n hn=>?_)
  have hc:=clampV_le lv
  rw [f80_run,f80_eq]
  unfold nextV
  by_cases h0:l.length=0
  · rw [eqI_t (by omega),if_pos h0]; rfl
  · rw [eqI_f (by omega),if_neg h0,cond_false]
    have key:=fun (m:Nat) (h1:m=max l.length (clampV lv+2))=>refNext_l0 (runE G ext n) n l id (clampV lv) m (by omega) (by omega) (by omega) h0 hb m n 0 (by omega) (by omega)
    by_cases h1:lv < 0
    · rw [ltI_t h1,cond_true]
      have ec:clampV lv=0:=by unfold clampV; omega
      rw [ec] at key ⊢
      by_cases h2:2 < l.length
      · rw [ltI_t (by omega),cond_true]
        have:=key l.length (by omega)
        rw [show max l.length (0+2)=l.length by omega]; exact this
      · rw [ltI_f (by omega),cond_false]
        have:=key 2 (by omega)
        rw [show max l.length (0+2)=2 by omega]; exact this
    · rw [ltI_f h1,cond_false]
      by_cases h2:255 < lv
      · rw [ltI_t h2,cond_true]
        have ec:clampV lv=255:=by unfold clampV; omega
        rw [ec] at key ⊢
        by_cases h3:257 < l.length
        · rw [ltI_t (by omega),cond_true]
          have:=key l.length (by omega)
          rw [show max l.length (255+2)=l.length by omega]; exact this
        · rw [ltI_f (by omega),cond_false]
          have:=key 257 (by omega)
          rw [show max l.length (255+2)=257 by omega]; exact this
      · rw [ltI_f h2,cond_false,w64 (by omega) (by omega)]
        have ec:lv=(clampV lv:Int):=by unfold clampV; omega
        by_cases h3:lv+2 < (l.length:Int)
        · rw [ltI_t h3,cond_true]
          have:=key l.length (by omega)
          rw [← ec] at this
          rw [show max l.length (clampV lv+2)=l.length by omega]; exact this
        · rw [ltI_f h3,cond_false]
          have:=key (clampV lv+2) (by omega)
          rw [Int.natCast_add,← ec] at this
          rw [show max l.length (clampV lv+2)=clampV lv+2 by omega]; exact this
theorem first_runs {id:List UInt8}:RunsX 96 [.blob id] ⟨[.slice [.blob id]],[],true⟩:=by
  refine Evt.succ (.of fun n=>?_)
  rw [f96_run,f96_eq]; rfl
theorem nextV_len (l:List AV) (id:List UInt8) (lv:Int):(nextV l id lv).length=if l.length=0 then 0 else max l.length (clampV lv+2):=by
  unfold nextV
  split <;> simp
end Go.Proofs.YteiahdlklppghaaGreat.Ev

namespace Go.Proofs.YteiahdlklppghaaGreat.Ev
open Go Go.RowKit
def shrSt (q i:Nat):List AV:=(List.range 4).map fun j=>if j < i then .int (U (lb q j)) else .int 0
theorem shrSt_len (q i:Nat):(shrSt q i).length=4:=by simp [shrSt]
theorem shrSt_0 (q:Nat):shrSt q 0=[.int 0,.int 0,.int 0,.int 0]:=rfl
theorem shrSt_set (q i:Nat):(shrSt q i).set i (.int (U (lb q i)))=shrSt q (i+1):=by
  unfold shrSt
  rw [set_range]
  congr 1
  funext j
  by_cases h:j=i
  · subst h; rw [if_pos rfl,if_pos (by omega)]
  · rw [if_neg h]
    by_cases h2:j < i
    · rw [if_pos h2,if_pos (by omega)]
    · rw [if_neg h2,if_neg (by omega)]
theorem shrSt_all {q s:Nat} (h:∀ j,s≤j→j < 4→lb q j=0):shrSt q s=limbs q:=by
  have e:∀ j,j < 4→(if j < s then AV.int (U (lb q j)) else .int 0)=.int (U (lb q j)):=by
    intro j hj
    by_cases h1:j < s
    · rw [if_pos h1]
    · rw [if_neg h1,h j (by omega) hj]; rfl
  show [if 0 < s then AV.int (U (lb q 0)) else .int 0,if 1 < s then AV.int (U (lb q 1)) else .int 0,if 2 < s then AV.int (U (lb q 2)) else .int 0,if 3 < s then AV.int (U (lb q 3)) else .int 0]=[_,_,_,_]
  rw [e 0 (by omega),e 1 (by omega),e 2 (by omega),e 3 (by omega)]
theorem shr_runs {a n:Nat} (ha:a < Big) (hn:n < 256):RunsX 85 [.agg (limbs a),.int n] ⟨[.agg (limbs (a / 2^n))],[],false⟩:=by
  refine Evt.succ ((Evt.ge 10).mono fun m hm=>?_)
  rw [f85_run,f85_eq]
  by_cases h0:n=0
  · subst h0
    rw [leI_t (by omega),Nat.pow_zero,Nat.div_one]; rfl
  rw [leI_f (by omega),leI_f (by omega),cond_false,cond_false]
  have e1:IntKind.wrap .i64 (Int.tdiv (n:Int) 64)=((n / 64:Nat):Int):=by
    have:Int.tdiv (n:Int) 64=((n / 64:Nat):Int):=rfl
    rw [this,w64 (by omega) (by omega)]
  have e2:IntKind.wrap .u64 (Int.tmod (n:Int) 64)=((n % 64:Nat):Int):=by
    have:Int.tmod (n:Int) 64=((n % 64:Nat):Int):=rfl
    rw [this,wrap64]; omega
  rw [e1,e2,w64 (x:=4-((n / 64:Nat):Int)) (by omega) (by omega)]
  have step:∀ (i k:Nat) (o4:List AV),i < 4-n / 64→f85_l0 (runE G ext m) m (k+1) ((n / 64:Nat):Int) ((n % 64:Nat):Int) (4-((n / 64:Nat):Int)) (i:Int) (limbs a) o4 (shrSt (a / 2^n) i)=f85_l0 (runE G ext m) m k ((n / 64:Nat):Int) ((n % 64:Nat):Int) (4-((n / 64:Nat):Int)) ((i+1:Nat):Int) (limbs a) o4 (shrSt (a / 2^n) (i+1)):=by
    intro i k o4 hi
    rw [f85_l0_eq,ltI_t (by omega),cond_true,w64 (x:=(i:Int)+((n / 64:Nat):Int)) (by omega) (by omega),show (i:Int)+((n / 64:Nat):Int)=((i+n / 64:Nat):Int) by omega,inR_nat (by omega),cond_true,leI_t (show (0:Int)≤((n % 64:Nat):Int) by omega),cond_true,inR_nat (i:=i) (by omega),cond_true,Int.toNat_natCast,Int.toNat_natCast,Int.toNat_natCast,limbs_fld a (by omega),toInt_i,
      w64 (x:=(i:Int)+1) (by omega) (by omega),show (i:Int)+1=((i+1:Nat):Int) by omega,U_shr,show min (n % 64) 64=n % 64 by omega,w64 (x:=((i+n / 64:Nat):Int)+1) (by omega) (by omega),show ((i+n / 64:Nat):Int)+1=((i+n / 64+1:Nat):Int) by omega]
    by_cases hb:n % 64=0
    · rw [ltI_f (show ¬ (0:Int) < ((n % 64:Nat):Int) by omega),cond_false]
      have:lb a (i+n / 64) >>> (n % 64)=lb (a / 2^n) i:=by rw [lb_shr0 a n i hb,hb]; exact BitVec.ushiftRight_zero _
      rw [this,shrSt_set]
    · rw [ltI_t (show (0:Int) < ((n % 64:Nat):Int) by omega),cond_true]
      have hs:=lb_shr a n i (by omega)
      by_cases ht:i+n / 64+1 < 4
      · rw [ltI_t (show ((i+n / 64+1:Nat):Int) < 4 by omega),cond_true,cond_true,inR_nat (i:=i+n / 64+1) (by omega),cond_true,wrap64,show (64-((n % 64:Nat):Int)) % 18446744073709551616=((64-n % 64:Nat):Int) by omega,leI_t (show (0:Int)≤((64-n % 64:Nat):Int) by omega),cond_true,cond_true,Int.toNat_natCast,Int.toNat_natCast,limbs_fld a ht,toInt_i,show min (64-n % 64) 64=64-n % 64 by omega,u64_shl]
        have hf:AV.fld (.agg ((shrSt (a / 2^n) i).set i (.int (U (lb a (i+n / 64) >>> (n % 64)))))) i=.int (U (lb a (i+n / 64) >>> (n % 64))):=by
          unfold AV.fld
          rw [toAgg_a,nth_lt (by rw [List.length_set,shrSt_len]; omega),List.getElem_set_self]
        rw [hf,toInt_i,u64_or,← hs,List.set_set,shrSt_set]
      · rw [ltI_f (show ¬ ((i+n / 64+1:Nat):Int) < 4 by omega),cond_false]
        have:lb a (i+n / 64) >>> (n % 64)=lb (a / 2^n) i:=by rw [hs,lb_top ha (show 4≤i+n / 64+1 by omega)]; simp
        rw [this,shrSt_set]
  have key:∀ (j k i:Nat) (o4:List AV),i+j=4-n / 64→j < k→f85_l0 (runE G ext m) m k ((n / 64:Nat):Int) ((n % 64:Nat):Int) (4-((n / 64:Nat):Int)) (i:Int) (limbs a) o4 (shrSt (a / 2^n) i)=some ⟨[.agg (limbs (a / 2^n))],[],false⟩:=by
    intro j
    induction j with
    | zero =>
      intro k i o4 hi hk
      obtain ⟨k,rfl⟩:∃ j,k=j+1:=⟨k-1,by omega⟩
      rw [f85_l0_eq,ltI_f (by omega),cond_false,shrSt_all]
      · rfl
      · intro j h1 h2
        by_cases hb:n % 64=0
        · rw [lb_shr0 a n j hb,lb_top ha (by omega)]
        · rw [lb_shr a n j (by omega),lb_top ha (by omega),lb_top ha (by omega)]; simp
    | succ j ih =>
      intro k i o4 hi hk
      obtain ⟨k,rfl⟩:∃ j,k=j+1:=⟨k-1,by omega⟩
      exact (step i k o4 (by omega)).trans (ih k (i+1) o4 (by omega) (by omega))
  have:=key (4-n / 64) m 0 (List.replicate 4 (.int 0)) (by omega) (by omega)
  rw [shrSt_0] at this
  exact this
def lvN (x t:Nat):Nat→Nat→Int
  | 0,n=>(n:Int)-1
  | j+1,n=>if t / 2^n < x then (n:Int)-1 else lvN x t j (n+1)
def levelV (id target:List UInt8):Int:=lvN (natN id) (natN target) 256 0
theorem lvN_range (x t:Nat):∀ j n,-1≤lvN x t j n∧lvN x t j n≤(n:Int)+j-1
  | 0,n=>by simp only [lvN]; omega
  | j+1,n=>by
    simp only [lvN]
    have:=lvN_range x t j (n+1)
    split <;> omega
theorem levelV_range (id target:List UInt8):-1≤levelV id target∧levelV id target≤255:=by
  have:=lvN_range (natN id) (natN target) 256 0
  unfold levelV; omega
theorem div_big {t n:Nat} (h:t < Big):t / 2^n < Big:=Nat.lt_of_le_of_lt (Nat.div_le_self _ _) h
theorem level_runs {id target:List UInt8} (h:id.length=32) (ht:target.length=32):RunsX 53 [.blob id,.blob target] ⟨[.int (levelV id target)],[],false⟩:=by
  have hx:=natN_big h
  have hy:=natN_big ht
  have hall:=Evt.all 256 fun i hi=>(shr_runs (a:=natN target) hy hi).and (wideCmp_runs hx (div_big (n:=i) hy))
  refine Evt.succ (((wideOf_runs h).and ((wideOf_runs ht).and (hall.and (Evt.ge 300)))).mono fun n hn=>?_)
  obtain ⟨g1,g2,g3,g4⟩:=hn
  have key:∀ (j k i:Nat),i+j=256→j < k→f53_l0 (runE G ext n) n k ((i:Int)-1) (i:Int) (limbs (natN id)) (limbs (natN target))=some ⟨[.int (lvN (natN id) (natN target) j i)],[],false⟩:=by
    intro j
    induction j with
    | zero =>
      intro k i hi hk
      obtain ⟨k,rfl⟩:∃ j,k=j+1:=⟨k-1,by omega⟩
      rw [f53_l0_eq,ltI_f (by omega)]; rfl
    | succ j ih =>
      intro k i hi hk
      obtain ⟨k,rfl⟩:∃ j,k=j+1:=⟨k-1,by omega⟩
      obtain ⟨e1,e2⟩:=g3 i (by omega)
      have ih':=ih k (i+1) (by omega) (by omega)
      rw [show ((i+1:Nat):Int)-1=(i:Int) by omega,show ((i+1:Nat):Int)=(i:Int)+1 by omega] at ih'
      simp only [lvN]
      rw [f53_l0_eq,ltI_t (by omega),cond_true,e1,step1,toAgg_a,e2,step1,toInt_i,cmpN_gt,w64 (x:=(i:Int)+1) (by omega) (by omega),ih']
      by_cases hc:natN target / 2^i < natN id
      · rw [decide_eq_true hc,if_pos hc]; rfl
      · rw [decide_eq_false hc,if_neg hc]; rfl
  rw [f53_run,f53_eq,g1,step1,g2,step1,toAgg_a,toAgg_a]
  exact key 256 n 0 (by omega) (by omega)
theorem refShr_runs {a n:Nat} (ha:a < Big) (hn:n < 256):RunsX 90 [.slice (bitsL a),.int n] ⟨[.slice (bitsL (a / 2^n))],[],f90_fresh⟩:=by
  refine Evt.succ ((Evt.ge 300).mono fun m hm=>?_)
  have key:∀ (j k i:Nat),i+j=256→j < k→f90_l0 (runE G ext m) m k (bitsL a) (n:Int) 256 (i:Int) ((List.range 256).map fun x=>if x < i then .bool ((a / 2^n).testBit x) else .bool false)=some ⟨[.slice (bitsL (a / 2^n))],[],f90_fresh⟩:=by
    intro j
    induction j with
    | zero =>
      intro k i hi hk
      obtain ⟨k,rfl⟩:∃ j,k=j+1:=⟨k-1,by omega⟩
      obtain rfl:i=256:=by omega
      rw [f90_l0_eq,bitsL_len,ltI_f (by omega),cond_false,List.drop_zero,List.take_of_length_le (by simp)]
      refine congrArg (fun z=>some (⟨[.slice z],[],f90_fresh⟩:Res)) ?_
      unfold bitsL
      apply List.map_congr_left
      intro x hx
      rw [if_pos (by simpa using hx)]
    | succ j ih =>
      intro k i hi hk
      obtain ⟨k,rfl⟩:∃ j,k=j+1:=⟨k-1,by omega⟩
      have ih':=ih k (i+1) (by omega) (by omega)
      rw [show ((i+1:Nat):Int)=(i:Int)+1 by omega] at ih'
      have set_:∀ v,v=(a / 2^n).testBit i→((List.range 256).map fun x=>if x < i then AV.bool ((a / 2^n).testBit x) else .bool false).set i (.bool v)=(List.range 256).map fun x=>if x < i+1 then AV.bool ((a / 2^n).testBit x) else .bool false:=by
        intro v hv
        subst hv
        rw [set_range]
        congr 1
        funext x
        by_cases h:x=i
        · subst h; rw [if_pos rfl,if_pos (by omega)]
        · rw [if_neg h]
          by_cases h2:x < i
          · rw [if_pos h2,if_pos (by omega)]
          · rw [if_neg h2,if_neg (by omega)]
      rw [f90_l0_eq,bitsL_len,ltI_t (by omega),cond_true,inR_nat (i:=i) (by omega),cond_true,cond_true,w64 (x:=(i:Int)+1) (by omega) (by omega),Int.toNat_natCast,bitsL_nth a (by omega),toBool_b,Nat.zero_add]
      by_cases h0:n=0
      · rw [leI_t (by omega),cond_true,set_ (a.testBit i) (by rw [h0,Nat.pow_zero,Nat.div_one])]
        exact ih'
      · rw [leI_f (by omega),cond_false,w64 (x:=((256:Nat):Int)-(i:Int)) (by omega) (by omega)]
        by_cases h1:(n:Int) < ((256:Nat):Int)-(i:Int)
        · rw [ltI_t h1,cond_true,w64 (x:=(i:Int)+(n:Int)) (by omega) (by omega),show (i:Int)+(n:Int)=((i+n:Nat):Int) by omega,inR_nat (i:=i+n) (by omega),cond_true,Int.toNat_natCast,bitsL_nth a (by omega),toBool_b,set_ (a.testBit (i+n)) (by rw [testBit_shift])]
          exact ih'
        · rw [ltI_f h1,cond_false]
          have:=set_ false (by rw [testBit_shift,testBit_big ha (by omega)])
          rw [← this] at ih'
          refine (congrArg _ ?_).trans ih'
          rw [set_range]
          congr 1
          funext x
          by_cases h:x=i
          · subst h; rw [if_pos rfl,if_neg (by omega)]
          · rw [if_neg h]
  rw [f90_run,f90_eq,bitsL_len,eqI_t rfl,leI_t (by omega),Int.toNat_natCast]
  have z:List.replicate 256 (AV.bool false)=(List.range 256).map fun x=>if x < 0 then AV.bool ((a / 2^n).testBit x) else .bool false:=by
    apply List.ext_getElem (by rw [List.length_replicate,List.length_map,List.length_range])
    intro x h1 h2
    rw [List.getElem_replicate,List.getElem_map,if_neg (by omega)]
  rw [show (true&&true&&Nat.ble (256*1) 140737488355328)=true from by decide,cond_true,z]
  exact key 256 m 0 (by omega) (by omega)
theorem refLevel_runs {id target:List UInt8} (h:id.length=32) (ht:target.length=32):RunsX 57 [.blob id,.blob target] ⟨[.int (levelV id target)],[],false⟩:=by
  have hx:=natN_big h
  have hy:=natN_big ht
  have hall:=Evt.all 256 fun i hi=>(refShr_runs (a:=natN target) hy hi).and (refCmp_runs hx (div_big (n:=i) hy))
  refine Evt.succ (((refOf_runs h).and ((refOf_runs ht).and (hall.and (Evt.ge 300)))).mono fun n hn=>?_)
  obtain ⟨g1,g2,g3,g4⟩:=hn
  have key:∀ (j k i:Nat),i+j=256→j < k→f57_l0 (runE G ext n) n k (bitsL (natN id)) (bitsL (natN target)) (i:Int)=some ⟨[.int (lvN (natN id) (natN target) j i)],[],false⟩:=by
    intro j
    induction j with
    | zero =>
      intro k i hi hk
      obtain ⟨k,rfl⟩:∃ j,k=j+1:=⟨k-1,by omega⟩
      rw [f57_l0_eq,ltI_f (by omega),cond_false,w64 (by omega) (by omega)]; rfl
    | succ j ih =>
      intro k i hi hk
      obtain ⟨k,rfl⟩:∃ j,k=j+1:=⟨k-1,by omega⟩
      obtain ⟨e1,e2⟩:=g3 i (by omega)
      have ih':=ih k (i+1) (by omega) (by omega)
      rw [show ((i+1:Nat):Int)=(i:Int)+1 by omega] at ih'
      simp only [lvN]
      rw [f57_l0_eq,ltI_t (by omega),cond_true,e1,step1,toSlice_s,e2,step1,toInt_i,cmpN_le,w64 (x:=(i:Int)+1) (by omega) (by omega),w64 (x:=(i:Int)-1) (by omega) (by omega),ih']
      by_cases hc:natN target / 2^i < natN id
      · rw [decide_eq_false (by omega),if_pos hc]; rfl
      · rw [decide_eq_true (by omega),if_neg hc]; rfl
  rw [f57_run,f57_eq,g1,step1f,g2,step1f,toSlice_s,toSlice_s]
  exact key 256 n 0 (by omega) (by omega)
end Go.Proofs.YteiahdlklppghaaGreat.Ev

namespace Go.Proofs.YteiahdlklppghaaGreat.Ev
open Go Go.RowKit
structure HeadOk (h:Int) (ls ts:List UInt8) (nc:Int):Prop where
  h0:0≤h
  h1:h < 4294967296
  l:ls.length=32
  t:ts.length=32
  n0:0≤nc
  n1:nc < 18446744073709551616
def headB (h:Int) (ls ts:List UInt8) (nc:Int):List UInt8:=bs (BitVec.ofNat 64 h.toNat) 4++ls++ts++bs (BitVec.ofNat 64 nc.toNat) 8
def idV (h:Int) (ls ts:List UInt8) (nc:Int):List UInt8:=hashV ([3]++headB h ls ts nc)
theorem idV_len (h:Int) (ls ts:List UInt8) (nc:Int):(idV h ls ts nc).length=32:=hashV_len _
theorem headB_len {h:Int} {ls ts:List UInt8} {nc:Int} (H:HeadOk h ls ts nc):(headB h ls ts nc).length=76:=by
  simp [headB,bs_len,H.l,H.t]
theorem U_of {x:Int} (h0:0≤x) (h1:x < 18446744073709551616):U (BitVec.ofNat 64 x.toNat)=x:=by
  unfold U; rw [BitVec.toNat_ofNat]; omega
theorem headBytes_runs {h:Int} {ls ts:List UInt8} {nc:Int} (H:HeadOk h ls ts nc):RunsX 115 [.agg [.int h,.blob ls,.blob ts,.int nc]] ⟨[.str (headB h ls ts nc)],[],false⟩:=by
  refine Evt.succ ((Evt.ge 3000).mono fun n hn=>?_)
  obtain ⟨m,rfl⟩:∃ j,n=j+2:=⟨n-2,by omega⟩
  have e1:runE G ext (m+2) 137 [.int h]=some ⟨[.str (bs (BitVec.ofNat 64 h.toNat) 4)],[],false⟩:=by
    have p:=put_at m (by omega) (BitVec.ofNat 64 h.toNat) (m:=4) (by omega)
    have hw:IntKind.wrap .u64 h=U (BitVec.ofNat 64 h.toNat):=by rw [U_of H.h0 (by have:=H.h1; omega),wrap64]; have:=H.h0; have:=H.h1; omega
    rw [f137_run,f137_eq,hw]
    exact congrArg (fun x=>Option.bind x _) p
  have e2:=put64_at m (by omega) (BitVec.ofNat 64 nc.toNat)
  rw [U_of H.n0 H.n1] at e2
  have n1:Nat.ble ((bs (BitVec.ofNat 64 h.toNat) 4).length+ls.length) maxLen=true:=Nat.ble_eq_true_of_le (by rw [maxLen_eq,bs_len,H.l]; omega)
  have n2:Nat.ble ((bs (BitVec.ofNat 64 h.toNat) 4++ls).length+ts.length) maxLen=true:=Nat.ble_eq_true_of_le (by rw [maxLen_eq,List.length_append,bs_len,H.l,H.t]; omega)
  have n3:Nat.ble ((bs (BitVec.ofNat 64 h.toNat) 4++ls++ts).length+(bs (BitVec.ofNat 64 nc.toNat) 8).length) maxLen=true:=Nat.ble_eq_true_of_le (by rw [maxLen_eq,List.length_append,List.length_append,bs_len,bs_len,H.l,H.t]; omega)
  rw [f115_run,f115_eq]
  repeat (first | rw [step1] | rw [step1f] | rw [step2] | rw [step3] | rw [toBool_b] | rw [toInt_i] | rw [toStr_s] | rw [toBlob_b] | rw [toSlice_s] | rw [fld0] | rw [fld1] | rw [fld2] | rw [fld3] | rw [cond_true] | rw [cond_false] | rw [not_t] | rw [not_f] | rw [e1] | rw [e2] | rw [raw32 H.l] | rw [raw32 H.t] | rw [n1] | rw [n2] | rw [n3])
  rfl
theorem refBytes_runs {h:Int} {ls ts:List UInt8} {nc:Int} (H:HeadOk h ls ts nc):RunsX 93 [.agg [.int h,.blob ls,.blob ts,.int nc]] ⟨[.str (headB h ls ts nc)],[],false⟩:=by
  refine Evt.succ ((Evt.ge 3000).mono fun n hn=>?_)
  obtain ⟨m,rfl⟩:∃ j,n=j+2:=⟨n-2,by omega⟩
  have e1:runE G ext (m+2) 121 [.int (IntKind.wrap .u64 h),.int 4]=some ⟨[.str (bs (BitVec.ofNat 64 h.toNat) 4)],[],false⟩:=by
    have p:=refPut_at m (by omega) (BitVec.ofNat 64 h.toNat) (m:=4) (by omega)
    have hw:IntKind.wrap .u64 h=U (BitVec.ofNat 64 h.toNat):=by rw [U_of H.h0 (by have:=H.h1; omega),wrap64]; have:=H.h0; have:=H.h1; omega
    rw [hw]
    exact p
  have e2:runE G ext (m+2) 121 [.int nc,.int 8]=some ⟨[.str (bs (BitVec.ofNat 64 nc.toNat) 8)],[],false⟩:=by
    have p:=refPut_at m (by omega) (BitVec.ofNat 64 nc.toNat) (m:=8) (by omega)
    rw [U_of H.n0 H.n1] at p
    exact p
  have e3:=raw_at (m+1) (by omega) H.l
  have e4:=raw_at (m+1) (by omega) H.t
  have n1:Nat.ble ((bs (BitVec.ofNat 64 h.toNat) 4).length+ls.length) maxLen=true:=Nat.ble_eq_true_of_le (by rw [maxLen_eq,bs_len,H.l]; omega)
  have n2:Nat.ble ((bs (BitVec.ofNat 64 h.toNat) 4++ls).length+ts.length) maxLen=true:=Nat.ble_eq_true_of_le (by rw [maxLen_eq,List.length_append,bs_len,H.l,H.t]; omega)
  have n3:Nat.ble ((bs (BitVec.ofNat 64 h.toNat) 4++ls++ts).length+(bs (BitVec.ofNat 64 nc.toNat) 8).length) maxLen=true:=Nat.ble_eq_true_of_le (by rw [maxLen_eq,List.length_append,List.length_append,bs_len,bs_len,H.l,H.t]; omega)
  rw [f93_run,f93_eq]
  repeat (first | rw [step1] | rw [step1f] | rw [step2] | rw [step3] | rw [toBool_b] | rw [toInt_i] | rw [toStr_s] | rw [toBlob_b] | rw [toSlice_s] | rw [fld0] | rw [fld1] | rw [fld2] | rw [fld3] | rw [cond_true] | rw [cond_false] | rw [not_t] | rw [not_f] | rw [e1] | rw [e2] | rw [e3] | rw [e4] | rw [n1] | rw [n2] | rw [n3])
  rfl
theorem headText_at (n:Nat) {s:List UInt8} (hs:s.length=76):runE G ext (n+2) 136 [.str s]=some ⟨[.str ([3]++s)],[],false⟩:=by
  have h:=text_at n 3 [.str s] (by simp) (by rw [join1]; omega)
  rw [join1,show bytesOf [.int 3]=[3] by decide +kernel] at h
  rw [f136_run,f136_eq,h,step1]
  rfl
theorem id_runs {h:Int} {ls ts:List UInt8} {nc:Int} (H:HeadOk h ls ts nc):RunsX 86 [.agg [.int h,.blob ls,.blob ts,.int nc]] ⟨[.blob (idV h ls ts nc)],[],false⟩:=by
  have r:RunsX 114 [.str (headB h ls ts nc)] ⟨[.blob (idV h ls ts nc)],[],false⟩:=by
    refine Evt.succ (((sha_runs (b:=[3]++headB h ls ts nc) (by rw [List.length_append,headB_len H]; simp)).and (Evt.ge 10)).mono fun n hn=>?_)
    obtain ⟨m,rfl⟩:∃ m,n=m+2:=⟨n-2,by omega⟩
    rw [f114_run,f114_eq,headText_at m (headB_len H),step1,toStr_s,hn.1,step1]
    rfl
  refine Evt.succ (((headBytes_runs H).and r).mono fun n hn=>?_)
  rw [f86_run,f86_eq,hn.1,step1,toStr_s,hn.2,step1]
  rfl
theorem refId_runs {h:Int} {ls ts:List UInt8} {nc:Int} (H:HeadOk h ls ts nc):RunsX 58 [.agg [.int h,.blob ls,.blob ts,.int nc]] ⟨[.blob (idV h ls ts nc)],[],false⟩:=by
  have r:RunsX 92 [.str (headB h ls ts nc)] ⟨[.str ([3]++headB h ls ts nc)],[],false⟩:=by
    refine Evt.succ ((Evt.ge 10).mono fun n hn=>?_)
    obtain ⟨m,rfl⟩:∃ m,n=m+1:=⟨n-1,by omega⟩
    rw [f92_run,f92_eq,refByte0 m 3 3 (by decide +kernel),step1,toStr_s,show Nat.ble ([(3:UInt8)].length+(headB h ls ts nc).length) maxLen=true from Nat.ble_eq_true_of_le (by rw [maxLen_eq,headB_len H]; simp),cond_true]
    rfl
  refine Evt.succ ((((refBytes_runs H).and r).and (refSha_runs (b:=[3]++headB h ls ts nc) (by rw [List.length_append,headB_len H]; simp))).mono fun n hn=>?_)
  obtain ⟨⟨g1,g2⟩,g3⟩:=hn
  rw [f58_run,f58_eq]
  repeat (first | rw [step1] | rw [step1f] | rw [step2] | rw [step3] | rw [toBool_b] | rw [toInt_i] | rw [toStr_s] | rw [toBlob_b] | rw [toSlice_s] | rw [fld0] | rw [fld1] | rw [fld2] | rw [fld3] | rw [cond_true] | rw [cond_false] | rw [not_t] | rw [not_f] | rw [g1] | rw [g2] | rw [g3])
  rfl
def idA (y:AV):List UInt8:=idV (y.fld 0).toInt (y.fld 1).toBlob (y.fld 2).toBlob (y.fld 3).toInt
theorem idA_len (y:AV):(idA y).length=32:=hashV_len _
def HeadA (y:AV):Prop:=HeadOk (y.fld 0).toInt (y.fld 1).toBlob (y.fld 2).toBlob (y.fld 3).toInt
abbrev headTy:Ty:=.struct [.int .u32,.blob 32,.blob 32,.int .u64]
theorem wfu32 {x:Int} (h:(Lit.int .u32 x).wf=true):0≤x∧x≤4294967295:=by
  have:=wf_bounds h
  simpa [IntKind.min,IntKind.max,IntKind.signed,IntKind.bits] using this
theorem wfu64 {x:Int} (h:(Lit.int .u64 x).wf=true):0≤x∧x≤18446744073709551615:=by
  have:=wf_bounds h
  simpa [IntKind.min,IntKind.max,IntKind.signed,IntKind.bits] using this
theorem headA_of {y:AV} (h:headTy.Has y):HeadA y:=by
  obtain ⟨l0,rfl,y0,s0,rfl,⟨a,rfl,ha⟩,y1,s1,rfl,⟨b,rfl,hb⟩,y2,s2,rfl,⟨c,rfl,hc⟩,y3,s3,rfl,⟨d,rfl,hd⟩,rfl⟩:=h
  have h1:=wfu32 ha
  have h2:=wfu64 hd
  exact ⟨h1.1,by show a < _; omega,hb,hc,h2.1,by show d < _; omega⟩
end Go.Proofs.YteiahdlklppghaaGreat.Ev

namespace Go.Proofs.YteiahdlklppghaaGreat.Ev
open Go Go.RowKit
def linkT (l:List AV):List AV:=l.map fun y=>.str ([76]++y.toBlob)
theorem linkT_len (l:List AV):(linkT l).length=l.length:=by simp [linkT]
theorem linkT_take {l:List AV} {i:Nat} (h:i < l.length):linkT (l.take i)++[.str ([76]++(nth l i).toBlob)]=linkT (l.take (i+1)):=by
  rw [List.take_succ_eq_append_getElem h,nth_lt h]; simp only [linkT,List.map_append,List.map_cons,List.map_nil]
theorem blob_at {l:List AV} (h:Blob32 l) {i:Nat} (hi:i < l.length):(nth l i).toBlob.length=32:=by
  obtain ⟨b,hb,hl⟩:=h l[i] (List.getElem_mem hi)
  rw [nth_lt hi,hb]; exact hl
theorem linkT_short {l:List AV} (h:Blob32 l):Short (linkT l):=by
  intro i hi
  rw [linkT_len] at hi
  have:=blob_at h hi
  rw [nth_lt (by rw [linkT_len]; exact hi)]
  rw [nth_lt hi] at this
  simp only [linkT,List.getElem_map]
  show ([76]++l[i].toBlob).length≤_
  simp; omega
theorem linkTexts_runs {l:List AV} (hl:l.length≤100000) (hb:Blob32 l):RunsX 76 [.slice l] ⟨[.slice (linkT l)],[],true⟩:=by
  refine Evt.succ ((Evt.ge (l.length+10)).mono fun n hn=>?_)
  obtain ⟨m,rfl⟩:∃ m,n=m+1:=⟨n-1,by omega⟩
  have key:∀ (j k i:Nat),i+j=l.length→j < k→f76_l0 (runE G ext (m+1)) (m+1) k (linkT (l.take i)) l (l.length:Int) (i:Int)=some ⟨[.slice (linkT l)],[],true⟩:=by
    intro j
    induction j with
    | zero =>
      intro k i hi hk
      obtain ⟨k,rfl⟩:∃ j,k=j+1:=⟨k-1,by omega⟩
      rw [f76_l0_eq,ltI_f (by omega),cond_false,List.take_of_length_le (by omega)]
      rfl
    | succ j ih =>
      intro k i hi hk
      obtain ⟨k,rfl⟩:∃ j,k=j+1:=⟨k-1,by omega⟩
      have ih':=ih k (i+1) (by omega) (by omega)
      rw [show ((i+1:Nat):Int)=(i:Int)+1 by omega,← linkT_take (by omega)] at ih'
      have h32:=blob_at hb (i:=i) (by omega)
      have ht:runE G ext (m+1) 105 [.blob (nth l i).toBlob]=some ⟨[.str ([76]++(nth l i).toBlob)],[],false⟩:=by
        rw [f105_run,f105_eq,raw32 h32,show Nat.ble (1+(nth l i).toBlob.length) maxLen=true from Nat.ble_eq_true_of_le (by rw [maxLen_eq]; omega),cond_true]; rfl
      rw [f76_l0_eq,ltI_t (by omega),cond_true,inR_nat (by omega),cond_true,Int.toNat_natCast,ht,step1,toStr_s,show Nat.ble (((linkT (l.take i)).length+1)*16) 140737488355328=true from Nat.ble_eq_true_of_le (by rw [linkT_len]; simp; omega),cond_true,w64 (by omega) (by omega)]
      exact ih'
  rw [f76_run,f76_eq]
  exact key l.length (m+1) 0 (by omega) (by omega)
theorem refLinkTexts_runs {l:List AV} (hl:l.length≤100000) (hb:Blob32 l):RunsX 48 [.slice l] ⟨[.slice (linkT l)],[],true⟩:=by
  refine Evt.succ ((Evt.ge (l.length+200)).mono fun n hn=>?_)
  obtain ⟨m,rfl⟩:∃ m,n=m+2:=⟨n-2,by omega⟩
  have key:∀ (j k i:Nat),i+j=l.length→j < k→f48_l0 (runE G ext (m+2)) (m+2) k l (linkT (l.take i)) (i:Int)=some ⟨[.slice (linkT l)],[],true⟩:=by
    intro j
    induction j with
    | zero =>
      intro k i hi hk
      obtain ⟨k,rfl⟩:∃ j,k=j+1:=⟨k-1,by omega⟩
      rw [f48_l0_eq,ltI_f (by omega),cond_false,List.take_of_length_le (by omega)]
      rfl
    | succ j ih =>
      intro k i hi hk
      obtain ⟨k,rfl⟩:∃ j,k=j+1:=⟨k-1,by omega⟩
      have ih':=ih k (i+1) (by omega) (by omega)
      rw [show ((i+1:Nat):Int)=(i:Int)+1 by omega,← linkT_take (by omega)] at ih'
      have h32:=blob_at hb (i:=i) (by omega)
      have ht:runE G ext (m+2) 79 [.blob (nth l i).toBlob]=some ⟨[.str ([76]++(nth l i).toBlob)],[],false⟩:=by
        rw [f79_run,f79_eq,raw_at m (by omega) h32,step1,toStr_s,show Nat.ble (1+(nth l i).toBlob.length) maxLen=true from Nat.ble_eq_true_of_le (by rw [maxLen_eq]; omega),cond_true]; rfl
      rw [f48_l0_eq,ltI_t (by omega),cond_true,inR_nat (by omega),cond_true,Int.toNat_natCast,ht,step1,toStr_s,show Nat.ble (((linkT (l.take i)).length+1)*16) 140737488355328=true from Nat.ble_eq_true_of_le (by rw [linkT_len]; simp; omega),cond_true,w64 (by omega) (by omega)]
      exact ih'
  rw [f48_run,f48_eq]
  exact key l.length (m+2) 0 (by omega) (by omega)
def linkR (v:List AV):List UInt8:=rootV (linkT v)
theorem linkRoot_runs {v:List AV} (hl:v.length≤100000) (hb:Blob32 v):RunsX 145 [.slice v] ⟨[.blob (linkR v)],[],false⟩:=by
  refine Evt.succ (((linkTexts_runs hl hb).and (root_runs (l:=linkT v) (by rw [linkT_len]; omega) (linkT_short hb))).mono fun n hn=>?_)
  rw [f145_run,f145_eq,hn.1,step1f,toSlice_s,hn.2,step1]; rfl
theorem refLinkRoot_runs {v:List AV} (hl:v.length≤100000) (hb:Blob32 v):RunsX 98 [.slice v] ⟨[.blob (linkR v)],[],false⟩:=by
  refine Evt.succ (((refLinkTexts_runs hl hb).and (refTreeRoot_runs (l:=linkT v) (by rw [linkT_len]; omega) (linkT_short hb))).mono fun n hn=>?_)
  rw [f98_run,f98_eq,hn.1,step1f,toSlice_s,hn.2,step1]; rfl
end Go.Proofs.YteiahdlklppghaaGreat.Ev

namespace Go.Proofs.YteiahdlklppghaaGreat.Ev
open Go Go.RowKit
def pathV:Nat→List AV→Int→List AV
  | 0,_,_=>[]
  | k+1,l,i=>if l.length < 2 then [] else
    if i < leftV l.length then pathV k (l.take (leftV l.length).toNat) i++[.blob (topV (l.length-(leftV l.length).toNat) (l.drop (leftV l.length).toNat))]
    else pathV k (l.drop (leftV l.length).toNat) (i-leftV l.length)++[.blob (topV (leftV l.length).toNat (l.take (leftV l.length).toNat))]
theorem pathV_len:∀ (k:Nat) (l:List AV) (i:Int),(pathV k l i).length≤k
  | 0,_,_=>Nat.le_refl _
  | k+1,l,i=>by
    simp only [pathV]
    split
    · simp
    · split
      · have:=pathV_len k (l.take (leftV l.length).toNat) i
        simp; omega
      · have:=pathV_len k (l.drop (leftV l.length).toNat) (i-leftV l.length)
        simp; omega
theorem path_runs:∀ (k:Nat) (l:List AV) (i:Int),l.length≤k→k≤100000→0≤i→i < l.length→Blob32 l→RunsX 102 [.slice l,.int i] ⟨[.slice (pathV k l i)],[],true⟩
  | 0,l,i,hk,_,h0,h1,_=>by omega
  | k+1,l,i,hk,hk2,h0,h1,h=>by
    simp only [pathV]
    by_cases h2:l.length < 2
    · refine Evt.succ (.of fun n=>?_)
      rw [if_pos h2,f102_run,f102_eq,ltI_t (by omega)]; rfl
    · rw [if_neg h2]
      obtain ⟨p1,p2⟩:=leftV_range (n:=(l.length:Int)) (by omega)
      have pe:(leftV (l.length:Int))=(((leftV (l.length:Int)).toNat:Nat):Int):=by omega
      have hL:=fun m hm=>left_at m hm (n:=(l.length:Int)) (by omega)
      generalize (leftV (l.length:Int)).toNat=p at pe
      rw [pe] at hL p1 p2 ⊢
      have la:(l.take p).length=p:=by simp; omega
      have lb:(l.drop p).length=l.length-p:=by simp
      have ha:Blob32 (l.take p):=fun y hy=>h y (List.mem_of_mem_take hy)
      have hb:Blob32 (l.drop p):=fun y hy=>h y (List.mem_of_mem_drop hy)
      have b1:boundsOk 0 (p:Int) (l.length:Int) (l.length:Int)=true:=by simp [boundsOk]; omega
      have b2:boundsOk (p:Int) (l.length:Int) (l.length:Int) (l.length:Int)=true:=by simp [boundsOk]; omega
      by_cases hi:i < (p:Int)
      · rw [if_pos hi]
        have r1:=path_runs k (l.take p) i (by omega) (by omega) h0 (by omega) ha
        have r2:=top_runs (l.length-p) (l.drop p) (by omega) (by omega) hb
        have t:=pathV_len k (l.take p) i
        generalize pathV k (l.take p) i=x at r1 t
        refine Evt.succ (((r1.and r2).and (Evt.ge 200)).mono fun n hn=>?_)
        obtain ⟨⟨g1,g2⟩,g3⟩:=hn
        obtain ⟨m,rfl⟩:∃ m,n=m+1:=⟨n-1,by omega⟩
        rw [f102_run,f102_eq,ltI_f (by omega),cond_false,hL m (by omega),step1,toInt_i,ltI_t hi,cond_true,b1,b2,Int.toNat_natCast,Int.toNat_natCast,List.drop_zero,List.take_length,Bool.and_true,cond_true,g1,step1f,cond_true,g2,step1,toSlice_s,show Nat.ble ((x.length+1)*32) 140737488355328=true from Nat.ble_eq_true_of_le (by omega),cond_true]
        rfl
      · rw [if_neg hi]
        have r1:=path_runs k (l.drop p) (i-p) (by omega) (by omega) (by omega) (by omega) hb
        have r2:=top_runs p (l.take p) (by omega) (by omega) ha
        have t:=pathV_len k (l.drop p) (i-p)
        generalize pathV k (l.drop p) (i-p)=x at r1 t
        refine Evt.succ (((r1.and r2).and (Evt.ge 200)).mono fun n hn=>?_)
        obtain ⟨⟨g1,g2⟩,g3⟩:=hn
        obtain ⟨m,rfl⟩:∃ m,n=m+1:=⟨n-1,by omega⟩
        rw [f102_run,f102_eq,ltI_f (by omega),cond_false,hL m (by omega),step1,toInt_i,ltI_f hi,cond_false,b1,b2,Int.toNat_natCast,Int.toNat_natCast,List.drop_zero,List.take_length,Bool.and_true,cond_true,w64 (x:=i-p) (by omega) (by omega),g1,step1f,cond_true,g2,step1,toSlice_s,show Nat.ble ((x.length+1)*32) 140737488355328=true from Nat.ble_eq_true_of_le (by omega),cond_true]
        rfl
theorem refPath_runs:∀ (k:Nat) (l:List AV) (i:Int),l.length≤k→k≤100000→0≤i→i < l.length→Blob32 l→RunsX 77 [.slice l,.int i] ⟨[.slice (pathV k l i)],[],true⟩
  | 0,l,i,hk,_,h0,h1,_=>by omega
  | k+1,l,i,hk,hk2,h0,h1,h=>by
    simp only [pathV]
    by_cases h2:l.length < 2
    · refine Evt.succ (.of fun n=>?_)
      rw [if_pos h2,f77_run,f77_eq,eqI_t (by omega)]; rfl
    · rw [if_neg h2]
      obtain ⟨p1,p2⟩:=leftV_range (n:=(l.length:Int)) (by omega)
      have pe:(leftV (l.length:Int))=(((leftV (l.length:Int)).toNat:Nat):Int):=by omega
      have hL:=fun m hm=>refLeft_at m hm (n:=(l.length:Int)) (by omega)
      generalize (leftV (l.length:Int)).toNat=p at pe
      rw [pe] at hL p1 p2 ⊢
      have la:(l.take p).length=p:=by simp; omega
      have lb:(l.drop p).length=l.length-p:=by simp
      have ha:Blob32 (l.take p):=fun y hy=>h y (List.mem_of_mem_take hy)
      have hb:Blob32 (l.drop p):=fun y hy=>h y (List.mem_of_mem_drop hy)
      have b1:boundsOk 0 (p:Int) (l.length:Int) (l.length:Int)=true:=by simp [boundsOk]; omega
      have b2:boundsOk (p:Int) (l.length:Int) (l.length:Int) (l.length:Int)=true:=by simp [boundsOk]; omega
      by_cases hi:i < (p:Int)
      · rw [if_pos hi]
        have r1:=refPath_runs k (l.take p) i (by omega) (by omega) h0 (by omega) ha
        have r2:=refTop_runs (l.length-p) (l.drop p) (by omega) (by omega) hb
        have t:=pathV_len k (l.take p) i
        generalize pathV k (l.take p) i=x at r1 t
        refine Evt.succ (((r1.and r2).and (Evt.ge 200)).mono fun n hn=>?_)
        obtain ⟨⟨g1,g2⟩,g3⟩:=hn
        obtain ⟨m,rfl⟩:∃ m,n=m+1:=⟨n-1,by omega⟩
        rw [f77_run,f77_eq,eqI_f (by omega),cond_false,hL m (by omega),step1,toInt_i,ltI_t hi,cond_true,b1,b2,Int.toNat_natCast,Int.toNat_natCast,List.drop_zero,List.take_length,Bool.and_true,cond_true,g1,step1f,cond_true,g2,step1,toSlice_s,show Nat.ble ((x.length+1)*32) 140737488355328=true from Nat.ble_eq_true_of_le (by omega),cond_true]
        rfl
      · rw [if_neg hi]
        have r1:=refPath_runs k (l.drop p) (i-p) (by omega) (by omega) (by omega) (by omega) hb
        have r2:=refTop_runs p (l.take p) (by omega) (by omega) ha
        have t:=pathV_len k (l.drop p) (i-p)
        generalize pathV k (l.drop p) (i-p)=x at r1 t
        refine Evt.succ (((r1.and r2).and (Evt.ge 200)).mono fun n hn=>?_)
        obtain ⟨⟨g1,g2⟩,g3⟩:=hn
        obtain ⟨m,rfl⟩:∃ m,n=m+1:=⟨n-1,by omega⟩
        rw [f77_run,f77_eq,eqI_f (by omega),cond_false,hL m (by omega),step1,toInt_i,ltI_f hi,cond_false,b1,b2,Int.toNat_natCast,Int.toNat_natCast,List.drop_zero,List.take_length,Bool.and_true,cond_true,w64 (x:=i-p) (by omega) (by omega),g1,step1f,cond_true,g2,step1,toSlice_s,show Nat.ble ((x.length+1)*32) 140737488355328=true from Nat.ble_eq_true_of_le (by omega),cond_true]
        rfl
theorem path_sides:∀ (k:Nat) (l:List AV) (i:Int),l.length≤k→(pathV k l i).length=(sidesV k (l.length:Int) i).length
  | 0,_,_,_=>rfl
  | k+1,l,i,hk=>by
    simp only [pathV,sidesV]
    by_cases h2:l.length < 2
    · rw [if_pos h2,if_pos (show (l.length:Int) < 2 by omega)]
    · obtain ⟨p1,p2⟩:=leftV_range (n:=(l.length:Int)) (by omega)
      rw [if_neg h2,if_neg (show ¬ (l.length:Int) < 2 by omega)]
      have la:(((l.take (leftV (l.length:Int)).toNat).length:Nat):Int)=leftV (l.length:Int):=by rw [List.length_take]; omega
      have lb:(((l.drop (leftV (l.length:Int)).toNat).length:Nat):Int)=(l.length:Int)-leftV (l.length:Int):=by rw [List.length_drop]; omega
      by_cases hi:i < leftV (l.length:Int)
      · have:=path_sides k (l.take (leftV (l.length:Int)).toNat) i (by omega)
        rw [la] at this
        simp only [if_pos hi,List.length_append,this]
        rfl
      · have:=path_sides k (l.drop (leftV (l.length:Int)).toNat) (i-leftV (l.length:Int)) (by omega)
        rw [lb] at this
        simp only [if_neg hi,List.length_append,this]
        rfl
def openV (l:List AV) (i:Int):List AV :=
  if i < 0∨(l.length:Int)≤i then [.agg [.int 0,.int 0,.slice []],.int 3] else [.agg [.int i,.int (l.length:Int),.slice (pathV l.length (leavesV l) i)],.int 0]
theorem open_runs {l:List AV} {i:Int} (hl:l.length≤100000) (hs:Short l):RunsX 71 [.slice l,.int i] ⟨openV l i,[],false⟩:=by
  unfold openV
  by_cases h0:i < 0
  · refine Evt.succ (.of fun n=>?_)
    rw [if_pos (.inl h0),f71_run,f71_eq,ltI_f (by omega),ltI_t h0]; rfl
  · by_cases h1:(l.length:Int)≤i
    · refine Evt.succ (.of fun n=>?_)
      rw [if_pos (.inr h1),f71_run,f71_eq,ltI_f (by omega),ltI_f h0,leI_t h1]; rfl
    · have r1:=leaves_runs hl hs
      have r2:=path_runs l.length (leavesV l) i (by rw [leavesV_len]; omega) (by omega) (by omega) (by rw [leavesV_len]; omega) (leavesV_blob l)
      refine Evt.succ ((r1.and r2).mono fun n hn=>?_)
      rw [if_neg (by omega),f71_run,f71_eq,ltI_f (by omega),ltI_f h0,leI_f h1,cond_false,cond_false,cond_false,hn.1,step1f,toSlice_s,hn.2,step1f,toSlice_s]
      rfl
theorem refOpen_runs {l:List AV} {i:Int} (hl:l.length≤100000) (hs:Short l):RunsX 47 [.slice l,.int i] ⟨openV l i,[],false⟩:=by
  unfold openV
  by_cases h0:i < 0
  · refine Evt.succ (.of fun n=>?_)
    rw [if_pos (.inl h0),f47_run,f47_eq,ltI_f (by omega),ltI_t h0]; rfl
  · by_cases h1:(l.length:Int)≤i
    · refine Evt.succ (.of fun n=>?_)
      rw [if_pos (.inr h1),f47_run,f47_eq,ltI_f (by omega),ltI_f h0,leI_t h1]; rfl
    · have r1:=refLeaves_runs hl hs
      have r2:=refPath_runs l.length (leavesV l) i (by rw [leavesV_len]; omega) (by omega) (by omega) (by rw [leavesV_len]; omega) (leavesV_blob l)
      refine Evt.succ ((r1.and r2).mono fun n hn=>?_)
      rw [if_neg (by omega),f47_run,f47_eq,ltI_f (by omega),ltI_f h0,leI_f h1,cond_false,cond_false,cond_false,hn.1,step1f,toSlice_s,hn.2,step1f,toSlice_s]
      rfl
theorem refSame_refl {a b:Int} {l:List AV} (hl:l.length≤maxLen):RunsX 42 [.agg [.int a,.int b,.slice l],.agg [.int a,.int b,.slice l]] ⟨[.bool true],[],false⟩:=by
  refine Evt.succ ((hashes_runs hl).mono fun n hn=>?_)
  rw [f42_run,f42_eq,eqI_t rfl,eqI_t rfl,cond_true,cond_true,hn,step1]
  rfl
end Go.Proofs.YteiahdlklppghaaGreat.Ev

namespace Go.Proofs.YteiahdlklppghaaGreat.Ev
open Go Go.RowKit
def stepH (z:AV × AV) (a:List UInt8):List UInt8:=if z.1.toBool then nodeH z.2.toBlob a else nodeH a z.2.toBlob
def climb (Z:List (AV × AV)) (a:List UInt8):List UInt8:=Z.foldl (fun a z=>stepH z a) a
theorem climb_snoc (Z:List (AV × AV)) (z:AV × AV) (a:List UInt8):climb (Z++[z]) a=stepH z (climb Z a):=by simp [climb]
def mayH (i n:Int) (P:List AV):Int:=if n < 1∨1048576 < n∨i < 0∨n≤i then 3 else if (P.length:Int)=((sidesV n.toNat n i).length:Int) then 0 else 2
def waysH (i n:Int) (P:List AV):List (AV × AV):=(sidesV n.toNat n i).zip P
def toldH (s:List UInt8) (i n:Int) (P:List AV):List UInt8:=if mayH i n P=0 then rootH n.toNat (climb (waysH i n P) (leafH s)) else zero32
def checkH (root s:List UInt8) (i n:Int) (P:List AV):Bool:=bif eqI (mayH i n P) 0 then eqS (toldH s i n P) root else false
def Op (i n:Int) (P:List AV):AV:=.agg [.int i,.int n,.slice P]
theorem no_blobs:Blob32 []:=fun y hy=>by cases hy
end Go.Proofs.YteiahdlklppghaaGreat.Ev

namespace Go.Proofs.YteiahdlklppghaaGreat.Ev
open Go Go.RowKit
theorem topV_more:∀ (k:Nat) (l:List AV),l.length≤k→topV (k+1) l=topV k l
  | 0,l,h=>by
    have:l.length=0:=by omega
    simp only [topV,if_pos this]
  | k+1,l,h=>by
    rw [topV]
    conv=>rhs; rw [topV]
    by_cases h0:l.length=0
    · rw [if_pos h0,if_pos h0]
    · by_cases h1:l.length=1
      · rw [if_neg h0,if_neg h0,if_pos h1,if_pos h1]
      · obtain ⟨p1,p2⟩:=leftV_range (n:=(l.length:Int)) (by omega)
        rw [if_neg h0,if_neg h0,if_neg h1,if_neg h1,topV_more k (l.take (leftV (l.length:Int)).toNat) (by rw [List.length_take]; omega),topV_more k (l.drop (leftV (l.length:Int)).toNat) (by rw [List.length_drop]; omega)]
theorem topV_at (k:Nat) (l:List AV) (h:l.length≤k):topV k l=topV l.length l:=by
  obtain ⟨d,rfl⟩:∃ d,k=l.length+d:=⟨k-l.length,by omega⟩
  clear h
  induction d with
  | zero=>rfl
  | succ d ih=>rw [show l.length+(d+1)=(l.length+d)+1 by omega,topV_more _ _ (by omega),ih]
theorem open_climbs:∀ (k:Nat) (l:List AV) (i:Int),l.length≤k→0≤i→i < l.length→climb ((sidesV k (l.length:Int) i).zip (pathV k l i)) (nth l i.toNat).toBlob=topV k l
  | 0,l,i,hk,h0,h1=>by omega
  | k+1,l,i,hk,h0,h1=>by
    simp only [sidesV,pathV,topV]
    by_cases h2:l.length < 2
    · have hl:l.length=1:=by omega
      have hi:i=0:=by omega
      subst hi
      rw [if_pos (show (l.length:Int) < 2 by omega),if_pos h2,if_neg (show ¬ l.length=0 by omega),if_pos hl]; rfl
    · obtain ⟨p1,p2⟩:=leftV_range (n:=(l.length:Int)) (by omega)
      have pe:(leftV (l.length:Int))=(((leftV (l.length:Int)).toNat:Nat):Int):=by omega
      rw [if_neg (show ¬ (l.length:Int) < 2 by omega),if_neg h2,if_neg (show ¬ l.length=0 by omega),if_neg (show ¬ l.length=1 by omega)]
      generalize (leftV (l.length:Int)).toNat=p at pe
      rw [pe] at p1 p2 ⊢
      have la:(l.take p).length=p:=by simp; omega
      have lb:(l.drop p).length=l.length-p:=by simp
      have lb2:(((l.drop p).length:Nat):Int)=(l.length:Int)-(p:Int):=by rw [lb]; omega
      by_cases hi:i < (p:Int)
      · rw [if_pos hi,if_pos hi]
        have ih:=open_climbs k (l.take p) i (by omega) h0 (by omega)
        have ps:=path_sides k (l.take p) i (by omega)
        rw [la] at ih ps
        rw [List.zip_append ps.symm]
        rw [show ([AV.bool false].zip [AV.blob (topV (l.length-p) (l.drop p))])=[(AV.bool false,AV.blob (topV (l.length-p) (l.drop p)))] from rfl,climb_snoc]
        have en:nth (l.take p) i.toNat=nth l i.toNat:=by
          rw [nth_lt (by omega),nth_lt (by omega),List.getElem_take]
        rw [en] at ih
        rw [ih]
        show nodeH _ (topV (l.length-p) (l.drop p))=_
        rw [topV_at k (l.drop p) (by omega),lb]
      · rw [if_neg hi,if_neg hi]
        have ih:=open_climbs k (l.drop p) (i-p) (by omega) (by omega) (by omega)
        have ps:=path_sides k (l.drop p) (i-p) (by omega)
        rw [lb2] at ih ps
        rw [List.zip_append ps.symm]
        rw [show ([AV.bool true].zip [AV.blob (topV p (l.take p))])=[(AV.bool true,AV.blob (topV p (l.take p)))] from rfl,climb_snoc]
        have en:nth (l.drop p) (i-p).toNat=nth l i.toNat:=by
          rw [nth_lt (by omega),nth_lt (by omega),List.getElem_drop]
          congr 1
          omega
        rw [en] at ih
        rw [ih]
        show nodeH (topV p (l.take p)) _=_
        rw [topV_at k (l.take p) (by omega),la]
theorem pathV_blob:∀ (k:Nat) (l:List AV) (i:Int),Blob32 l→Blob32 (pathV k l i)
  | 0,_,_,_=>fun y hy=>by cases hy
  | k+1,l,i,h=>by
    simp only [pathV]
    have ha:∀ p,Blob32 (l.take p):=fun p y hy=>h y (List.mem_of_mem_take hy)
    have hb:∀ p,Blob32 (l.drop p):=fun p y hy=>h y (List.mem_of_mem_drop hy)
    split
    · intro y hy; cases hy
    · split
      · intro y hy
        rcases List.mem_append.1 hy with h1 | h1
        · exact pathV_blob k _ i (ha _) y h1
        · rw [List.mem_singleton] at h1
          exact ⟨_,h1,topV_len _ _ (hb _)⟩
      · intro y hy
        rcases List.mem_append.1 hy with h1 | h1
        · exact pathV_blob k _ _ (hb _) y h1
        · rw [List.mem_singleton] at h1
          exact ⟨_,h1,topV_len _ _ (ha _)⟩
def pathL (l:List AV) (i:Int):List AV:=pathV l.length (leavesV l) i
theorem pathL_blob (l:List AV) (i:Int):Blob32 (pathL l i):=pathV_blob _ _ _ (leavesV_blob l)
theorem pathL_len (l:List AV) (i:Int):(pathL l i).length=(sidesV l.length (l.length:Int) i).length:=by
  have:=path_sides l.length (leavesV l) i (by rw [leavesV_len]; omega)
  rwa [leavesV_len] at this
theorem opened_may {l:List AV} {i:Int} (hl:l.length≤1048576) (h0:0≤i) (h1:i < l.length):mayH i (l.length:Int) (pathL l i)=0:=by
  unfold mayH
  rw [if_neg (by omega),if_pos]
  rw [pathL_len,Int.toNat_natCast]
theorem opened_climbs {l:List AV} {i:Int} (h0:0≤i) (h1:i < l.length):climb (waysH i (l.length:Int) (pathL l i)) (leafH (nth l i.toNat).toStr)=topV l.length (leavesV l):=by
  have e:(nth (leavesV l) i.toNat).toBlob=leafH (nth l i.toNat).toStr:=by
    rw [nth_lt (l:=leavesV l) (by rw [leavesV_len]; omega),nth_lt (l:=l) (by omega)]
    simp only [leavesV,List.getElem_map]
    rfl
  have:=open_climbs l.length (leavesV l) i (by rw [leavesV_len]; omega) h0 (by rw [leavesV_len]; omega)
  rw [leavesV_len,e] at this
  unfold waysH pathL
  rw [Int.toNat_natCast]
  exact this
theorem opened_told {l:List AV} {i:Int} (hl:l.length≤1048576) (h0:0≤i) (h1:i < l.length):toldH (nth l i.toNat).toStr i (l.length:Int) (pathL l i)=rootV l:=by
  unfold toldH
  rw [if_pos (opened_may hl h0 h1),opened_climbs h0 h1,Int.toNat_natCast]; rfl
theorem opened_check {l:List AV} {i:Int} (hl:l.length≤1048576) (h0:0≤i) (h1:i < l.length):checkH (rootV l) (nth l i.toNat).toStr i (l.length:Int) (pathL l i)=true:=by
  unfold checkH
  rw [eqI_t (opened_may hl h0 h1),opened_told hl h0 h1,eqS_t rfl]; rfl
theorem openV_in {l:List AV} {i:Int} (h0:0≤i) (h1:i < l.length):openV l i=[.agg [.int i,.int (l.length:Int),.slice (pathL l i)],.int 0]:=by
  unfold openV
  rw [if_neg (by omega)]; rfl
theorem openV_out {l:List AV} {i:Int} (h:¬ (0≤i∧i < l.length)):openV l i=[.agg [.int 0,.int 0,.slice []],.int 3]:=by
  unfold openV
  rw [if_pos (by omega)]
end Go.Proofs.YteiahdlklppghaaGreat.Ev

namespace Go.Proofs.YteiahdlklppghaaGreat.Ev
open Go Go.RowKit
theorem openV_form (l:List AV) (i:Int):∃ (a b:Int) (p:List AV) (e:Int),openV l i=[.agg [.int a,.int b,.slice p],.int e]∧Blob32 p∧p.length≤l.length:=by
  by_cases h:0≤i∧i < l.length
  · exact ⟨_,_,_,_,openV_in h.1 h.2,pathL_blob _ _,pathV_len _ _ _⟩
  · exact ⟨_,_,_,_,openV_out h,no_blobs,Nat.zero_le _⟩
def leadsV (root id:List UInt8) (i n:Int) (P:List AV):Bool:=bif leI n 257 then checkH root ([76]++id) i n P else false
theorem linkOpen_runs {v:List AV} {i:Int} (hl:v.length≤100000) (hb:Blob32 v):RunsX 45 [.slice v,.int i] ⟨openV (linkT v) i,[],false⟩:=by
  obtain ⟨a,b,p,e,hf,_⟩:=openV_form (linkT v) i
  have r:=open_runs (l:=linkT v) (i:=i) (by rw [linkT_len]; omega) (linkT_short hb)
  refine Evt.succ (((linkTexts_runs hl hb).and r).mono fun n hn=>?_)
  rw [f45_run,f45_eq,hn.1,step1f,toSlice_s,hn.2,hf,step2]; rfl
end Go.Proofs.YteiahdlklppghaaGreat.Ev

namespace Go.Proofs.YteiahdlklppghaaGreat.Ev
open Go Go.RowKit
def holdsA (s h:AV):Bool:=leadsV ((s.fld 0).fld 1).toBlob (idA h) ((s.fld 1).fld 0).toInt ((s.fld 1).fld 1).toInt ((s.fld 1).fld 2).toSlice
def hj (l:List AV) (i:Nat):Bool:=holdsA (nth l i) ((nth l (i-1)).fld 0)
def idsV (l:List AV):List AV:=l.map fun y=>.blob (idA (y.fld 0))
theorem idsV_len (l:List AV):(idsV l).length=l.length:=by simp [idsV]
theorem idsV_take {l:List AV} {i:Nat} (h:i < l.length):idsV (l.take i)++[.blob (idA ((nth l i).fld 0))]=idsV (l.take (i+1)):=by
  rw [List.take_succ_eq_append_getElem h,nth_lt h]; simp only [idsV,List.map_append,List.map_cons,List.map_nil]
end Go.Proofs.YteiahdlklppghaaGreat.Ev

namespace Go.Proofs.YteiahdlklppghaaGreat.Ev
open Go Go.RowKit
theorem Blob32.blobs {l:List AV} (h:Blob32 l):Blobs l:=by
  intro i hi
  obtain ⟨b,hb,_⟩:=h l[i] (List.getElem_mem hi)
  rw [nth_lt hi,hb]; rfl
theorem nextV_blob {l:List AV} {id:List UInt8} {lv:Int} (h:Blob32 l) (hid:id.length=32):Blob32 (nextV l id lv):=by
  unfold nextV
  by_cases h0:l.length=0
  · rw [if_pos h0]; exact no_blobs
  · rw [if_neg h0]
    intro y hy
    obtain ⟨i,_,rfl⟩:=List.mem_map.1 hy
    unfold nextAt
    split
    · exact ⟨_,rfl,hid⟩
    · split
      · rename_i h2
        rw [nth_lt h2]; exact h _ (List.getElem_mem h2)
      · rw [nth_lt (show l.length-1 < l.length by omega)]; exact h _ (List.getElem_mem _)
def behindV (t:List UInt8) (v:List AV) (b:AV) (i:Nat):List AV:=if i=0 then [.blob (idA (b.fld 0))] else nextV v (idA (b.fld 0)) (levelV (idA (b.fld 0)) t)
def vecV (t:List UInt8) (l:List AV):Nat→List AV
  | 0=>[]
  | i+1=>behindV t (vecV t l i) (nth l i) i
theorem vecV_blob (t:List UInt8) (l:List AV):∀ i,Blob32 (vecV t l i)
  | 0=>no_blobs
  | i+1=>by
    simp only [vecV,behindV]
    split
    · intro y hy
      rw [List.mem_singleton] at hy
      exact ⟨_,hy,idA_len _⟩
    · exact nextV_blob (vecV_blob t l i) (idA_len _)
theorem vecV_len (t:List UInt8) (l:List AV):∀ i,(vecV t l i).length≤257
  | 0=>by simp [vecV]
  | i+1=>by
    simp only [vecV,behindV]
    split
    · simp
    · rw [nextV_len]
      have:=vecV_len t l i
      have hc:=clampV_le (levelV (idA ((nth l i).fld 0)) t)
      split <;> omega
def levsV (t:List UInt8) (l:List AV):List AV:=(List.range l.length).map fun i=>.int (if i=0 then 256 else levelV (idA ((nth l i).fld 0)) t)
theorem levsV_len (t:List UInt8) (l:List AV):(levsV t l).length=l.length:=by simp [levsV]
theorem levsV_nth (t:List UInt8) (l:List AV) {i:Nat} (h:i < l.length):nth (levsV t l) i=.int (if i=0 then 256 else levelV (idA ((nth l i).fld 0)) t):=nth_range h
theorem idsV_nth (l:List AV) {i:Nat} (h:i < l.length):nth (idsV l) i=.blob (idA ((nth l i).fld 0)):=by
  rw [nth_lt (by rw [idsV_len]; exact h),nth_lt h]
  simp [idsV]
def vecsV (t:List UInt8) (l:List AV) (m:Nat):List AV:=(List.range m).map fun i=>.slice (vecV t l i)
theorem vecsV_len (t:List UInt8) (l:List AV) (m:Nat):(vecsV t l m).length=m:=by simp [vecsV]
theorem vecsV_succ (t:List UInt8) (l:List AV) (m:Nat):vecsV t l (m+1)=vecsV t l m++[.slice (vecV t l m)]:=by simp [vecsV,List.range_succ]
theorem vecsV_nth (t:List UInt8) (l:List AV) {i m:Nat} (h:i < m):nth (vecsV t l m) i=.slice (vecV t l i):=nth_range h
def Heads (l:List AV):Prop:=∀ i,i < l.length→HeadA ((nth l i).fld 0)
theorem chainId_runs {h:Int} {ls ts:List UInt8} {nc:Int} {x:List AV} (H:HeadOk h ls ts nc):RunsX 54 [.agg [.agg [.int h,.blob ls,.blob ts,.int nc],.slice x]] ⟨[.blob (idV h ls ts nc)],[],false⟩:=by
  refine Evt.succ ((id_runs H).mono fun n hn=>?_)
  rw [f54_run,f54_eq]
  repeat (first | rw [step1] | rw [step1f] | rw [step2] | rw [step3] | rw [toBool_b] | rw [toInt_i] | rw [toStr_s] | rw [toBlob_b] | rw [toSlice_s] | rw [fld0] | rw [fld1] | rw [fld2] | rw [fld3] | rw [cond_true] | rw [cond_false] | rw [not_t] | rw [not_f] | rw [hn])
  rfl
theorem behind_runs {t:List UInt8} {v:List AV} {h:Int} {ls ts:List UInt8} {nc:Int} {x:List AV} (i:Nat) (H:HeadOk h ls ts nc) (ht:t.length=32) (hv:v.length≤1000) (hb:Blob32 v) :
    RunsX 62 [.blob t,.slice v,.agg [.agg [.int h,.blob ls,.blob ts,.int nc],.slice x],.int i] ⟨[.slice (if i=0 then [.blob (idV h ls ts nc)] else nextV v (idV h ls ts nc) (levelV (idV h ls ts nc) t))],[],false⟩:=by
  by_cases hi:i=0
  · refine Evt.succ (((chainId_runs (x:=x) H).and (first_runs (id:=idV h ls ts nc))).mono fun n hn=>?_)
    rw [if_pos hi,f62_run,f62_eq]
    repeat (first | rw [step1] | rw [step1f] | rw [step2] | rw [step3] | rw [toBool_b] | rw [toInt_i] | rw [toStr_s] | rw [toBlob_b] | rw [toSlice_s] | rw [fld0] | rw [fld1] | rw [fld2] | rw [fld3] | rw [cond_true] | rw [cond_false] | rw [not_t] | rw [not_f] | rw [hn.1] | rw [hn.2] | rw [eqI_t (show (i:Int)=0 by omega)])
    rfl
  · refine Evt.succ (((chainId_runs (x:=x) H).and ((level_runs (idV_len h ls ts nc) ht).and (next_runs (id:=idV h ls ts nc) (lv:=levelV (idV h ls ts nc) t) hv hb.blobs))).mono fun n hn=>?_)
    obtain ⟨g1,g2,g3⟩:=hn
    rw [if_neg hi,f62_run,f62_eq]
    repeat (first | rw [step1] | rw [step1f] | rw [step2] | rw [step3] | rw [toBool_b] | rw [toInt_i] | rw [toStr_s] | rw [toBlob_b] | rw [toSlice_s] | rw [fld0] | rw [fld1] | rw [fld2] | rw [fld3] | rw [cond_true] | rw [cond_false] | rw [not_t] | rw [not_f] | rw [g1] | rw [g2] | rw [g3] | rw [eqI_f (show ¬ (i:Int)=0 by omega)])
    rfl
theorem vectors_runs {t:List UInt8} {l:List AV} (ht:t.length=32) (hl:l.length≤100000) (hh:Heads l):RunsX 43 [.blob t,.slice l] ⟨[.slice (vecsV t l (l.length+1))],[],true⟩:=by
  have hall:=Evt.all l.length fun i hi=>behind_runs (t:=t) (v:=vecV t l i) (x:=((nth l i).fld 1).toSlice) i (hh i hi) ht (Nat.le_trans (vecV_len t l i) (by omega)) (vecV_blob t l i)
  refine Evt.succ ((hall.and (Evt.ge (l.length+1))).mono fun n hn=>?_)
  have key:∀ (j k i:Nat),i+j=l.length→j < k→f43_l0 (runE G ext n) n k (vecsV t l (i+1)) l (l.length:Int) (i:Int) t=some ⟨[.slice (vecsV t l (l.length+1))],[],true⟩:=by
    intro j
    induction j with
    | zero =>
      intro k i hi hk
      obtain ⟨k,rfl⟩:∃ j,k=j+1:=⟨k-1,by omega⟩
      rw [f43_l0_eq,ltI_f (by omega),cond_false,show i=l.length by omega]; rfl
    | succ j ih =>
      intro k i hi hk
      obtain ⟨k,rfl⟩:∃ j,k=j+1:=⟨k-1,by omega⟩
      have ih':=ih k (i+1) (by omega) (by omega)
      rw [show ((i+1:Nat):Int)=(i:Int)+1 by omega,vecsV_succ _ _ (i+1)] at ih'
      rw [f43_l0_eq,ltI_t (by omega),cond_true,inR_nat (by omega),cond_true,inR_nat (by rw [vecsV_len]; omega),cond_true,Int.toNat_natCast,vecsV_nth _ _ (by omega),toSlice_s,hn.1 i (by omega),step1,toSlice_s,vecsV_len,show Nat.ble ((i+1+1)*24) 140737488355328=true from Nat.ble_eq_true_of_le (by omega),cond_true,w64 (by omega) (by omega)]
      exact ih'
  rw [f43_run,f43_eq]
  exact key l.length n 0 (by omega) (by omega)
theorem refBIds_runs {l:List AV} (hl:l.length≤100000) (hh:Heads l):RunsX 29 [.slice l] ⟨[.slice (idsV l)],[],true⟩:=by
  have hall:=Evt.all l.length fun i hi=>refId_runs (hh i hi)
  refine Evt.succ ((hall.and (Evt.ge (l.length+1))).mono fun n hn=>?_)
  have key:∀ (j k i:Nat),i+j=l.length→j < k→f29_l0 (runE G ext n) n k l (idsV (l.take i)) (i:Int)=some ⟨[.slice (idsV l)],[],true⟩:=by
    intro j
    induction j with
    | zero =>
      intro k i hi hk
      obtain ⟨k,rfl⟩:∃ j,k=j+1:=⟨k-1,by omega⟩
      rw [f29_l0_eq,ltI_f (by omega),cond_false,List.take_of_length_le (by omega)]; rfl
    | succ j ih =>
      intro k i hi hk
      obtain ⟨k,rfl⟩:∃ j,k=j+1:=⟨k-1,by omega⟩
      have ih':=ih k (i+1) (by omega) (by omega)
      rw [show ((i+1:Nat):Int)=(i:Int)+1 by omega,← idsV_take (by omega)] at ih'
      rw [f29_l0_eq,ltI_t (by omega),cond_true,inR_nat (by omega),cond_true,Int.toNat_natCast,hn.1 i (by omega),step1,toBlob_b,show Nat.ble (((idsV (l.take i)).length+1)*32) 140737488355328=true from Nat.ble_eq_true_of_le (by rw [idsV_len]; simp; omega),cond_true,w64 (by omega) (by omega)]
      exact ih'
  rw [f29_run,f29_eq]
  exact key l.length n 0 (by omega) (by omega)
theorem refLevels_runs {t:List UInt8} {l:List AV} (ht:t.length=32) (hl:l.length≤100000):RunsX 28 [.blob t,.slice (idsV l)] ⟨[.slice (levsV t l)],[],true⟩:=by
  have hall:=Evt.all l.length fun i (_:i < l.length)=>refLevel_runs (idA_len ((nth l i).fld 0)) ht
  refine Evt.succ ((hall.and (Evt.ge (l.length+1))).mono fun n hn=>?_)
  have key:∀ (j k i:Nat),i+j=l.length→j < k→f28_l0 (runE G ext n) n k (idsV l) ((List.range i).map fun i=>.int (if i=0 then 256 else levelV (idA ((nth l i).fld 0)) t)) (i:Int) t=some ⟨[.slice (levsV t l)],[],true⟩:=by
    intro j
    induction j with
    | zero =>
      intro k i hi hk
      obtain ⟨k,rfl⟩:∃ j,k=j+1:=⟨k-1,by omega⟩
      rw [f28_l0_eq,idsV_len,ltI_f (by omega),cond_false,show i=l.length by omega]; rfl
    | succ j ih =>
      intro k i hi hk
      obtain ⟨k,rfl⟩:∃ j,k=j+1:=⟨k-1,by omega⟩
      have ih':=ih k (i+1) (by omega) (by omega)
      rw [show ((i+1:Nat):Int)=(i:Int)+1 by omega,List.range_succ,List.map_append,List.map_singleton] at ih'
      have nb:Nat.ble ((((List.range i).map fun i=>AV.int (if i=0 then 256 else levelV (idA ((nth l i).fld 0)) t)).length+1)*8) 140737488355328=true:=Nat.ble_eq_true_of_le (by simp; omega)
      rw [f28_l0_eq,idsV_len,ltI_t (by omega),cond_true,nb,w64 (by omega) (by omega)]
      by_cases h0:i=0
      · rw [if_pos h0] at ih'
        rw [eqI_t (show (i:Int)=0 by omega),cond_true,cond_true]
        exact ih'
      · rw [if_neg h0] at ih'
        rw [eqI_f (show ¬ (i:Int)=0 by omega),cond_false,inR_nat (by omega),cond_true,Int.toNat_natCast,idsV_nth l (by omega),toBlob_b,hn.1 i (by omega),step1,toInt_i,cond_true]
        exact ih'
  rw [f28_run,f28_eq]
  exact key l.length n 0 (by omega) (by omega)
theorem rule_runs {t:List UInt8} {l:List AV} {i:Nat} (hi:i≤l.length) (hl:l.length≤100000):RunsX 49 [.slice (idsV l),.slice (levsV t l),.int i] ⟨[.slice (vecV t l i)],[],true⟩:=by
  by_cases h0:i=0
  · subst h0
    refine Evt.succ (.of fun n=>?_)
    rw [f49_run,f49_eq,ltI_t (by omega)]; rfl
  have hall:=Evt.all l.length fun j (_:j < l.length)=>refNext_runs (l:=vecV t l j) (id:=idA ((nth l j).fld 0)) (lv:=levelV (idA ((nth l j).fld 0)) t) (Nat.le_trans (vecV_len t l j) (by omega)) (vecV_blob t l j).blobs
  refine Evt.succ ((hall.and (Evt.ge (l.length+1))).mono fun n hn=>?_)
  have key:∀ (j k m:Nat),m+j=i→1≤m→j < k→f49_l0 (runE G ext n) n k (idsV l) (levsV t l) (i:Int) (vecV t l m) (m:Int)=some ⟨[.slice (vecV t l i)],[],true⟩:=by
    intro j
    induction j with
    | zero =>
      intro k m hm _ hk
      obtain ⟨k,rfl⟩:∃ j,k=j+1:=⟨k-1,by omega⟩
      rw [f49_l0_eq,ltI_f (by omega),cond_false,show m=i by omega]; rfl
    | succ j ih =>
      intro k m hm h1 hk
      obtain ⟨k,rfl⟩:∃ j,k=j+1:=⟨k-1,by omega⟩
      have ih':=ih k (m+1) (by omega) (by omega) (by omega)
      simp only [vecV,behindV] at ih'
      rw [show ((m+1:Nat):Int)=(m:Int)+1 by omega,if_neg (by omega)] at ih'
      rw [f49_l0_eq,ltI_t (by omega),cond_true,inR_nat (by rw [idsV_len]; omega),cond_true,inR_nat (by rw [levsV_len]; omega),cond_true,Int.toNat_natCast,idsV_nth l (by omega),levsV_nth t l (by omega),if_neg (show ¬ m=0 by omega),toBlob_b,toInt_i,hn.1 m (by omega),step1f,toSlice_s,w64 (by omega) (by omega)]
      exact ih'
  rw [f49_run,f49_eq,ltI_f (by omega),cond_false,inR_int (by omega) (by rw [idsV_len]; omega),cond_true,idsV_nth l (by omega),toBlob_b]
  exact key (i-1) n 1 (by omega) (by omega) (by omega)
end Go.Proofs.YteiahdlklppghaaGreat.Ev

namespace Go.Proofs.YteiahdlklppghaaGreat.Ev
open Go Go.RowKit
def txT (l:List AV):List AV:=l.map fun y=>.str ([84]++y.toStr)
theorem txT_len (l:List AV):(txT l).length=l.length:=by simp [txT]
theorem txT_take {l:List AV} {i:Nat} (h:i < l.length):txT (l.take i)++[.str ([84]++(nth l i).toStr)]=txT (l.take (i+1)):=by
  rw [List.take_succ_eq_append_getElem h,nth_lt h]; simp only [txT,List.map_append,List.map_cons,List.map_nil]
def Shorter (l:List AV):Prop:=∀ i,i < l.length→(nth l i).toStr.length≤140737488351232
theorem shorter_of {l:List AV} (h:∀ (i:Nat) y,l[i]?=some y→Ty.str.Has y):Shorter l:=by
  intro i hi
  obtain ⟨s,hs,hl⟩:=h i _ (List.getElem?_eq_getElem hi)
  rw [nth_lt hi,hs]
  unfold reachBytes at hl
  exact hl
theorem txT_short {l:List AV} (h:Shorter l):Short (txT l):=by
  intro i hi
  rw [txT_len] at hi
  have:=h i hi
  rw [nth_lt (by rw [txT_len]; exact hi)]
  rw [nth_lt hi] at this
  simp only [txT,List.getElem_map]
  show ([84]++l[i].toStr).length≤_
  simp; omega
theorem txTexts_runs {l:List AV} (hl:l.length≤100000) (hs:Shorter l):RunsX 72 [.slice l] ⟨[.slice (txT l)],[],true⟩:=by
  refine Evt.succ ((Evt.ge (l.length+10)).mono fun n hn=>?_)
  obtain ⟨m,rfl⟩:∃ m,n=m+1:=⟨n-1,by omega⟩
  have key:∀ (j k i:Nat),i+j=l.length→j < k→f72_l0 (runE G ext (m+1)) (m+1) k (txT (l.take i)) l (l.length:Int) (i:Int)=some ⟨[.slice (txT l)],[],true⟩:=by
    intro j
    induction j with
    | zero =>
      intro k i hi hk
      obtain ⟨k,rfl⟩:∃ j,k=j+1:=⟨k-1,by omega⟩
      rw [f72_l0_eq,ltI_f (by omega),cond_false,List.take_of_length_le (by omega)]
      rfl
    | succ j ih =>
      intro k i hi hk
      obtain ⟨k,rfl⟩:∃ j,k=j+1:=⟨k-1,by omega⟩
      have ih':=ih k (i+1) (by omega) (by omega)
      rw [show ((i+1:Nat):Int)=(i:Int)+1 by omega,← txT_take (by omega)] at ih'
      have h32:=hs i (by omega)
      have ht:runE G ext (m+1) 104 [.str (nth l i).toStr]=some ⟨[.str ([84]++(nth l i).toStr)],[],false⟩:=by
        rw [f104_run,f104_eq,show Nat.ble (1+(nth l i).toStr.length) maxLen=true from Nat.ble_eq_true_of_le (by rw [maxLen_eq]; omega),cond_true]; rfl
      rw [f72_l0_eq,ltI_t (by omega),cond_true,inR_nat (by omega),cond_true,Int.toNat_natCast,ht,step1,toStr_s,show Nat.ble (((txT (l.take i)).length+1)*16) 140737488355328=true from Nat.ble_eq_true_of_le (by rw [txT_len]; simp; omega),cond_true,w64 (by omega) (by omega)]
      exact ih'
  rw [f72_run,f72_eq]
  exact key l.length (m+1) 0 (by omega) (by omega)
theorem refTxTexts_runs {l:List AV} (hl:l.length≤100000) (hs:Shorter l):RunsX 74 [.slice l] ⟨[.slice (txT l)],[],true⟩:=by
  refine Evt.succ ((Evt.ge (l.length+10)).mono fun n hn=>?_)
  have key:∀ (j k i:Nat),i+j=l.length→j < k→f74_l0 (runE G ext n) n k l (txT (l.take i)) (i:Int)=some ⟨[.slice (txT l)],[],true⟩:=by
    intro j
    induction j with
    | zero =>
      intro k i hi hk
      obtain ⟨k,rfl⟩:∃ j,k=j+1:=⟨k-1,by omega⟩
      rw [f74_l0_eq,ltI_f (by omega),cond_false,List.take_of_length_le (by omega)]
      rfl
    | succ j ih =>
      intro k i hi hk
      obtain ⟨k,rfl⟩:∃ j,k=j+1:=⟨k-1,by omega⟩
      have ih':=ih k (i+1) (by omega) (by omega)
      rw [show ((i+1:Nat):Int)=(i:Int)+1 by omega,← txT_take (by omega)] at ih'
      have h32:=hs i (by omega)
      rw [f74_l0_eq,ltI_t (by omega),cond_true,inR_nat (by omega),cond_true,Int.toNat_natCast,show Nat.ble (1+(nth l i).toStr.length) maxLen=true from Nat.ble_eq_true_of_le (by rw [maxLen_eq]; omega),cond_true,show Nat.ble (((txT (l.take i)).length+1)*16) 140737488355328=true from Nat.ble_eq_true_of_le (by rw [txT_len]; simp; omega),cond_true,w64 (by omega) (by omega)]
      exact ih'
  rw [f74_run,f74_eq]
  exact key l.length n 0 (by omega) (by omega)
def txR (l:List AV):List UInt8:=rootV (txT l)
theorem txRoot_runs {l:List AV} (hl:l.length≤100000) (hs:Shorter l):RunsX 146 [.slice l] ⟨[.blob (txR l)],[],false⟩:=by
  refine Evt.succ (((txTexts_runs hl hs).and (root_runs (l:=txT l) (by rw [txT_len]; omega) (txT_short hs))).mono fun n hn=>?_)
  rw [f146_run,f146_eq,hn.1,step1f,toSlice_s,hn.2,step1]; rfl
theorem refTxRoot_runs {l:List AV} (hl:l.length≤100000) (hs:Shorter l):RunsX 99 [.slice l] ⟨[.blob (txR l)],[],false⟩:=by
  refine Evt.succ (((refTxTexts_runs hl hs).and (refTreeRoot_runs (l:=txT l) (by rw [txT_len]; omega) (txT_short hs))).mono fun n hn=>?_)
  rw [f99_run,f99_eq,hn.1,step1f,toSlice_s,hn.2,step1]; rfl
def bigB (l:List AV):Nat→Nat→Bool
  | 0,_=>false
  | j+1,i=>ltI 4096 ((nth l i).toStr.length:Int) || bigB l j (i+1)
def mayV (l:List AV):Int:=bif ltI 1024 (l.length:Int) then 4 else bif bigB l l.length 0 then 4 else 0
theorem txMay_l0 (run:Run) (n:Nat) (l:List AV) (hl:l.length≤100000):∀ (j k i:Nat),i+j=l.length→j < k→f70_l0 run n k l (l.length:Int) (i:Int)=some ⟨[.int (bif bigB l j i then 4 else 0)],[],false⟩:=by
  intro j
  induction j with
  | zero =>
    intro k i hi hk
    obtain ⟨k,rfl⟩:∃ j,k=j+1:=⟨k-1,by omega⟩
    rw [f70_l0_eq,ltI_f (by omega)]; rfl
  | succ j ih =>
    intro k i hi hk
    obtain ⟨k,rfl⟩:∃ j,k=j+1:=⟨k-1,by omega⟩
    have ih':=ih k (i+1) (by omega) (by omega)
    rw [show ((i+1:Nat):Int)=(i:Int)+1 by omega] at ih'
    rw [f70_l0_eq,ltI_t (a:=(i:Int)) (by omega),cond_true,inR_nat (by omega),cond_true,Int.toNat_natCast,w64 (by omega) (by omega),ih']
    simp only [bigB]
    cases ltI 4096 ((nth l i).toStr.length:Int) <;> rfl
theorem refTxMay_l0 (run:Run) (n:Nat) (l:List AV) (hl:l.length≤100000):∀ (j k i:Nat),i+j=l.length→j < k→f73_l0 run n k l (i:Int)=some ⟨[.int (bif bigB l j i then 4 else 0)],[],false⟩:=by
  intro j
  induction j with
  | zero =>
    intro k i hi hk
    obtain ⟨k,rfl⟩:∃ j,k=j+1:=⟨k-1,by omega⟩
    rw [f73_l0_eq,ltI_f (by omega)]; rfl
  | succ j ih =>
    intro k i hi hk
    obtain ⟨k,rfl⟩:∃ j,k=j+1:=⟨k-1,by omega⟩
    have ih':=ih k (i+1) (by omega) (by omega)
    rw [show ((i+1:Nat):Int)=(i:Int)+1 by omega] at ih'
    rw [f73_l0_eq,ltI_t (a:=(i:Int)) (by omega),cond_true,inR_nat (by omega),cond_true,Int.toNat_natCast,w64 (by omega) (by omega),ih']
    simp only [bigB]
    cases ltI 4096 ((nth l i).toStr.length:Int) <;> rfl
theorem txMay_runs {l:List AV} (hl:l.length≤100000):RunsX 70 [.slice l] ⟨[.int (mayV l)],[],false⟩:=by
  refine Evt.succ ((Evt.ge (l.length+1)).mono fun n hn=>?_)
  unfold mayV
  have:=txMay_l0 (runE G ext n) n l hl l.length n 0 (by omega) (by omega)
  rw [f70_run,f70_eq]
  cases ltI 1024 (l.length:Int)
  · exact this
  · rfl
theorem refTxMay_runs {l:List AV} (hl:l.length≤100000):RunsX 73 [.slice l] ⟨[.int (mayV l)],[],false⟩:=by
  refine Evt.succ ((Evt.ge (l.length+1)).mono fun n hn=>?_)
  unfold mayV
  have:=refTxMay_l0 (runE G ext n) n l hl l.length n 0 (by omega) (by omega)
  rw [f73_run,f73_eq]
  cases ltI 1024 (l.length:Int)
  · exact this
  · rfl
end Go.Proofs.YteiahdlklppghaaGreat.Ev

namespace Go.Proofs.YteiahdlklppghaaGreat.Ev
open Go Go.RowKit
abbrev Hd (h:Int) (b c:List UInt8) (n:Int):AV:=.agg [.int h,.blob b,.blob c,.int n]
abbrev Blk (h:Int) (b c:List UInt8) (n:Int) (l:List AV):AV:=.agg [Hd h b c n,.slice l]
theorem make_runs {h n:Int} {v l:List AV} (hv:v.length≤100000) (hb:Blob32 v) (hl:l.length≤100000) (hs:Shorter l):RunsX 123 [.int h,.slice v,.slice l,.int n] ⟨[Blk h (linkR v) (txR l) n l],[],false⟩:=by
  refine Evt.succ (((linkRoot_runs hv hb).and (txRoot_runs hl hs)).mono fun m hm=>?_)
  rw [f123_run,f123_eq,hm.1,step1,hm.2,step1,show Nat.ble (l.length*16) 140737488355328=true from Nat.ble_eq_true_of_le (by omega),cond_true]; rfl
def checkV (h:Int) (b c:List UInt8) (l:List AV) (h':Int) (v:List AV):Int :=
  bif eqI h h' then bif eqI (mayV l) 0 then bif eqS (linkR v) b&&eqS (txR l) c then 0 else 12 else mayV l else 8
theorem check_runs {h n h':Int} {b c:List UInt8} {v l:List AV} (hv:v.length≤100000) (hb:Blob32 v) (hl:l.length≤100000) (hs:Shorter l):RunsX 94 [Blk h b c n l,.int h',.slice v] ⟨[.int (checkV h b c l h' v)],[],false⟩:=by
  refine Evt.succ (((txMay_runs hl).and (make_runs (h:=h') (n:=n) hv hb hl hs)).mono fun m hm=>?_)
  unfold checkV
  rw [f94_run,f94_eq,hm.1,step1,toInt_i,hm.2,step1]
  have e0:(((AV.fld (Blk h' (linkR v) (txR l) n l) 0).fld 0).toInt)=h':=rfl
  have e1:(((AV.fld (Blk h' (linkR v) (txR l) n l) 0).fld 1).toBlob)=linkR v:=rfl
  have e2:(((AV.fld (Blk h' (linkR v) (txR l) n l) 0).fld 2).toBlob)=txR l:=rfl
  have e3:(((AV.fld (Blk h' (linkR v) (txR l) n l) 0).fld 3).toInt)=n:=rfl
  rw [e0,e1,e2,e3,eqI_t (a:=n) rfl]
  by_cases hh:h=h'
  · rw [eqI_t hh,eqI_t hh.symm]
    cases eqI (mayV l) 0 <;> cases eqS (linkR v) b <;> cases eqS (txR l) c <;> rfl
  · rw [eqI_f hh]; rfl
theorem eqS_comm' (a b:List UInt8):eqS a b=eqS b a:=by
  by_cases h:a=b
  · rw [eqS_t h,eqS_t h.symm]
  · rw [eqS_f h,eqS_f (fun e=>h e.symm)]
theorem refCheck_runs {h n h':Int} {b c:List UInt8} {v l:List AV} (hv:v.length≤100000) (hb:Blob32 v) (hl:l.length≤100000) (hs:Shorter l):RunsX 64 [Blk h b c n l,.int h',.slice v] ⟨[.int (checkV h b c l h' v)],[],false⟩:=by
  refine Evt.succ ((((refTxMay_runs hl).and (refLinkRoot_runs hv hb)).and (refTxRoot_runs hl hs)).mono fun m hm=>?_)
  unfold checkV
  rw [f64_run,f64_eq,hm.1.1,step1,toInt_i,hm.1.2,step1,toBlob_b,hm.2,step1,toBlob_b,eqS_comm' b,eqS_comm' c]
  cases eqI h h' <;> cases eqI (mayV l) 0 <;> cases eqS (linkR v) b <;> cases eqS (txR l) c <;> rfl
end Go.Proofs.YteiahdlklppghaaGreat.Ev

namespace Go.Proofs.YteiahdlklppghaaGreat.Ev
open Go Go.RowKit
def BlockA (y:AV):Prop:=HeadA (y.fld 0)∧Shorter ((y.fld 1).toSlice)∧((y.fld 1).toSlice).length≤100000
def Blocks (l:List AV):Prop:=∀ i,i < l.length→BlockA (nth l i)
theorem Blocks.heads {l:List AV} (h:Blocks l):Heads l:=fun i hi=>(h i hi).1
def ancV (gh:Int) (gl gt:List UInt8) (gn:Int) (y:AV) (i:Nat):Int :=
  bif eqI (i:Int) 0 then (bif !(eqI (y.fld 0).toInt gh&&(eqS (y.fld 1).toBlob gl&&(eqS (y.fld 2).toBlob gt&&(eqI (y.fld 3).toInt gn&&true)))) then 7 else 0) else 0
def formV (b:AV) (i:Nat) (v:List AV):Int:=checkV ((b.fld 0).fld 0).toInt ((b.fld 0).fld 1).toBlob ((b.fld 0).fld 2).toBlob ((b.fld 1).toSlice) (i:Int) v
def blkErr (gh:Int) (gl gt:List UInt8) (gn:Int) (t:List UInt8) (l:List AV) (i:Nat):Int :=
  bif !(eqI (ancV gh gl gt gn ((nth l i).fld 0) i) 0) then ancV gh gl gt gn ((nth l i).fld 0) i
  else bif !(eqI (formV (nth l i) i (vecV t l i)) 0) then formV (nth l i) i (vecV t l i)
  else bif !(okV (idA ((nth l i).fld 0)) t) then 9 else 0
def faultV (gh:Int) (gl gt:List UInt8) (gn:Int) (t:List UInt8) (l:List AV):Nat→Nat→AV
  | 0,_=>.agg [.int 0,.int 0]
  | j+1,i=>bif !(eqI (blkErr gh gl gt gn t l i) 0) then .agg [.int (blkErr gh gl gt gn t l i),.int (i:Int)] else faultV gh gl gt gn t l j (i+1)
def chainV (gh:Int) (gl gt:List UInt8) (gn:Int) (t:List UInt8) (l:List AV):AV :=
  if l.length=0 then .agg [.int 6,.int 0] else if 1024 < l.length then .agg [.int 4,.int 1024] else faultV gh gl gt gn t l l.length 0
abbrev Cfg (gh:Int) (gl gt:List UInt8) (gn:Int) (t:List UInt8) (c1 c2 c3 c4 c5 c6:Int):AV:=.agg [Hd gh gl gt gn,.blob t,.int c1,.int c2,.int c3,.int c4,.int c5,.int c6]
theorem cfg_of {y:AV} (h:(Ty.struct [.struct [.int .u32,.blob 32,.blob 32,.int .u64],.blob 32,.int .i64,.int .i64,.int .i64,.int .i64,.int .i64,.int .i64]).Has y) :
    ∃ gh gl gt gn t c1 c2 c3 c4 c5 c6,y=Cfg gh gl gt gn t c1 c2 c3 c4 c5 c6∧t.length=32∧HeadOk gh gl gt gn:=by
  obtain ⟨l0,rfl,y0,s0,rfl,⟨l1,rfl,z0,t0,rfl,⟨a,rfl,ha⟩,z1,t1,rfl,⟨b,rfl,hb⟩,z2,t2,rfl,⟨c,rfl,hc⟩,z3,t3,rfl,⟨d,rfl,hd⟩,rfl⟩,y1,s1,rfl,⟨t,rfl,ht⟩,y2,s2,rfl,⟨c1,rfl,_⟩,y3,s3,rfl,⟨c2,rfl,_⟩,y4,s4,rfl,⟨c3,rfl,_⟩,y5,s5,rfl,⟨c4,rfl,_⟩,y6,s6,rfl,⟨c5,rfl,_⟩,y7,s7,rfl,⟨c6,rfl,_⟩,rfl⟩:=h
  have h1:=wfu32 ha
  have h2:=wfu64 hd
  exact ⟨a,b,c,d,t,c1,c2,c3,c4,c5,c6,rfl,ht,h1.1,by omega,hb,hc,h2.1,by omega⟩
section
variable {gh:Int} {gl gt:List UInt8} {gn:Int} {t:List UInt8} {c1 c2 c3 c4 c5 c6:Int}
theorem lookAnchor_runs {i:Nat} {h:Int} {ls ts:List UInt8} {nc:Int} {x v:List AV} :
    RunsX 59 [.agg [Cfg gh gl gt gn t c1 c2 c3 c4 c5 c6,.int (i:Int),.agg [.agg [.int h,.blob ls,.blob ts,.int nc],.slice x],.slice v]] ⟨[.int (ancV gh gl gt gn (.agg [.int h,.blob ls,.blob ts,.int nc]) i)],[],false⟩:=by
  refine Evt.succ (.of fun n=>?_)
  rw [f59_run,f59_eq]
  unfold ancV
  cases eqI (i:Int) 0
  · rfl
  · rw [cond_true,cond_true]
    show _=some (⟨[.int (bif !(eqI h gh&&(eqS ls gl&&(eqS ts gt&&(eqI nc gn&&true)))) then 7 else 0)],[],false⟩:Res)
    cases (eqI h gh&&(eqS ls gl&&(eqS ts gt&&(eqI nc gn&&true)))) <;> rfl
theorem lookForm_runs {i:Nat} {h:Int} {ls ts:List UInt8} {nc:Int} {x v:List AV} (hi:i≤100000) (hv:v.length≤100000) (hb:Blob32 v) (hl:x.length≤100000) (hs:Shorter x) :
    RunsX 60 [.agg [Cfg gh gl gt gn t c1 c2 c3 c4 c5 c6,.int (i:Int),.agg [.agg [.int h,.blob ls,.blob ts,.int nc],.slice x],.slice v]] ⟨[.int (checkV h ls ts x (i:Int) v)],[],false⟩:=by
  refine Evt.succ ((check_runs (h:=h) (n:=nc) (h':=(i:Int)) (b:=ls) (c:=ts) hv hb hl hs).mono fun n hn=>?_)
  rw [f60_run,f60_eq,show IntKind.wrap .u32 (i:Int)=(i:Int) by rw [wrap32]; omega]
  repeat (first | rw [step1] | rw [step1f] | rw [step2] | rw [step3] | rw [toBool_b] | rw [toInt_i] | rw [toStr_s] | rw [toBlob_b] | rw [toSlice_s] | rw [fld0] | rw [fld1] | rw [fld2] | rw [fld3] | rw [cond_true] | rw [cond_false] | rw [not_t] | rw [not_f] | rw [hn])
  rfl
theorem lookWork_runs {i:Nat} {h:Int} {ls ts:List UInt8} {nc:Int} {x v:List AV} (H:HeadOk h ls ts nc) (ht:t.length=32) :
    RunsX 61 [.agg [Cfg gh gl gt gn t c1 c2 c3 c4 c5 c6,.int (i:Int),.agg [.agg [.int h,.blob ls,.blob ts,.int nc],.slice x],.slice v]] ⟨[.int (bif !(okV (idV h ls ts nc) t) then 9 else 0)],[],false⟩:=by
  refine Evt.succ (((chainId_runs (x:=x) H).and (workOk_runs (idV_len h ls ts nc) ht)).mono fun n hn=>?_)
  rw [f61_run,f61_eq]
  repeat (first | rw [step1] | rw [step1f] | rw [step2] | rw [step3] | rw [toBool_b] | rw [toInt_i] | rw [toStr_s] | rw [toBlob_b] | rw [toSlice_s] | rw [fld0] | rw [fld1] | rw [fld2] | rw [fld3] | rw [cond_true] | rw [cond_false] | rw [not_t] | rw [not_f] | rw [hn.1] | rw [hn.2])
  cases okV (idV h ls ts nc) t <;> rfl
theorem blkErr_a {l:List AV} {i:Nat} (h:eqI (ancV gh gl gt gn ((nth l i).fld 0) i) 0=false):blkErr gh gl gt gn t l i=ancV gh gl gt gn ((nth l i).fld 0) i:=by
  unfold blkErr; rw [h]; rfl
theorem blkErr_f {l:List AV} {i:Nat} (h:eqI (ancV gh gl gt gn ((nth l i).fld 0) i) 0=true) (h2:eqI (formV (nth l i) i (vecV t l i)) 0=false):blkErr gh gl gt gn t l i=formV (nth l i) i (vecV t l i):=by
  unfold blkErr; rw [h,h2]; rfl
theorem blkErr_o {l:List AV} {i:Nat} (h:eqI (ancV gh gl gt gn ((nth l i).fld 0) i) 0=true) (h2:eqI (formV (nth l i) i (vecV t l i)) 0=true):blkErr gh gl gt gn t l i=bif !(okV (idA ((nth l i).fld 0)) t) then 9 else 0:=by
  unfold blkErr; rw [h,h2]; rfl
theorem chainCheck_runs {l:List AV} (ht:t.length=32) (hB:Blocks l):RunsX 31 [Cfg gh gl gt gn t c1 c2 c3 c4 c5 c6,.slice l] ⟨[chainV gh gl gt gn t l],[],false⟩:=by
  unfold chainV
  by_cases h0:l.length=0
  · refine Evt.succ (.of fun n=>?_)
    rw [if_pos h0,f31_run,f31_eq,eqI_t (by omega)]; rfl
  by_cases h1:1024 < l.length
  · refine Evt.succ (.of fun n=>?_)
    rw [if_neg h0,if_pos h1,f31_run,f31_eq,eqI_f (by omega),ltI_t (by omega)]; rfl
  rw [if_neg h0,if_neg h1]
  have hall:=Evt.all l.length fun i (hi:i < l.length) =>
    ((lookAnchor_runs (gh:=gh) (gl:=gl) (gt:=gt) (gn:=gn) (t:=t) (c1:=c1) (c2:=c2) (c3:=c3) (c4:=c4) (c5:=c5) (c6:=c6) (i:=i) (h:=(((nth l i).fld 0).fld 0).toInt) (ls:=(((nth l i).fld 0).fld 1).toBlob) (ts:=(((nth l i).fld 0).fld 2).toBlob) (nc:=(((nth l i).fld 0).fld 3).toInt) (x:=((nth l i).fld 1).toSlice) (v:=vecV t l i)).and
     (lookForm_runs (gh:=gh) (gl:=gl) (gt:=gt) (gn:=gn) (t:=t) (c1:=c1) (c2:=c2) (c3:=c3) (c4:=c4) (c5:=c5) (c6:=c6) (i:=i) (h:=(((nth l i).fld 0).fld 0).toInt) (ls:=(((nth l i).fld 0).fld 1).toBlob) (ts:=(((nth l i).fld 0).fld 2).toBlob) (nc:=(((nth l i).fld 0).fld 3).toInt) (x:=((nth l i).fld 1).toSlice) (v:=vecV t l i) (by omega) (Nat.le_trans (vecV_len t l i) (by omega)) (vecV_blob t l i) (hB i hi).2.2 (hB i hi).2.1)).and
    ((lookWork_runs (gh:=gh) (gl:=gl) (gt:=gt) (gn:=gn) (t:=t) (c1:=c1) (c2:=c2) (c3:=c3) (c4:=c4) (c5:=c5) (c6:=c6) (i:=i) (x:=((nth l i).fld 1).toSlice) (v:=vecV t l i) (hB i hi).1 ht).and
     (behind_runs (t:=t) (v:=vecV t l i) (x:=((nth l i).fld 1).toSlice) i (hB i hi).1 ht (Nat.le_trans (vecV_len t l i) (by omega)) (vecV_blob t l i)))
  refine Evt.succ ((hall.and (Evt.ge (l.length+10))).mono fun n hn=>?_)
  have key:∀ (j k i:Nat) (o1 o2:Int),i+j=l.length→j < k→f31_l1 (runE G ext n) n k (vecV t l i) l (l.length:Int) (i:Int) gh gl gt gn t c1 c2 c3 c4 c5 c6 o1 o2=some ⟨[faultV gh gl gt gn t l j i],[],false⟩:=by
    intro j
    induction j with
    | zero =>
      intro k i o1 o2 hi hk
      obtain ⟨k,rfl⟩:∃ j,k=j+1:=⟨k-1,by omega⟩
      rw [f31_l1_eq,ltI_f (by omega)]; rfl
    | succ j ih =>
      intro k i o1 o2 hi hk
      obtain ⟨k,rfl⟩:∃ j,k=j+1:=⟨k-1,by omega⟩
      obtain ⟨m,hm⟩:∃ m,n=m+4:=⟨n-4,by omega⟩
      obtain ⟨⟨e1,e2⟩,e3,e4⟩:=hn.1 i (by omega)
      have ih':=ih k (i+1) o1 o2 (by omega) (by omega)
      rw [show ((i+1:Nat):Int)=(i:Int)+1 by omega] at ih'
      simp only [vecV,behindV] at ih'
      rw [f31_l1_eq,ltI_t (by omega),cond_true,inR_nat (by omega),cond_true,Int.toNat_natCast]
      simp only [faultV]
      generalize hL:AV.agg [AV.agg [AV.agg [.int gh,.blob gl,.blob gt,.int gn],.blob t,.int c1,.int c2,.int c3,.int c4,.int c5,.int c6],.int (i:Int),.agg [.agg [.int (((nth l i).fld 0).fld 0).toInt,.blob (((nth l i).fld 0).fld 1).toBlob,.blob (((nth l i).fld 0).fld 2).toBlob,.int (((nth l i).fld 0).fld 3).toInt],.slice ((nth l i).fld 1).toSlice],.slice (vecV t l i)]=Lk at *
      have a1:ancV gh gl gt gn ((nth l i).fld 0) i=ancV gh gl gt gn (.agg [.int (((nth l i).fld 0).fld 0).toInt,.blob (((nth l i).fld 0).fld 1).toBlob,.blob (((nth l i).fld 0).fld 2).toBlob,.int (((nth l i).fld 0).fld 3).toInt]) i:=rfl
      have n0:nth [AV.clo 59 [Lk],.clo 60 [Lk],.clo 61 [Lk]] (Int.toNat 0)=.clo 59 [Lk]:=rfl
      have n1:nth [AV.clo 59 [Lk],.clo 60 [Lk],.clo 61 [Lk]] (Int.toNat 1)=.clo 60 [Lk]:=rfl
      have n2:nth [AV.clo 59 [Lk],.clo 60 [Lk],.clo 61 [Lk]] (Int.toNat 2)=.clo 61 [Lk]:=rfl
      have w0:IntKind.wrap .i64 (0+1)=1:=by decide
      have w1:IntKind.wrap .i64 (1+1)=2:=by decide
      have w2:IntKind.wrap .i64 (2+1)=3:=by decide
      have q0:nth [Lk] 0=Lk:=rfl
      have len3:([AV.clo 59 [Lk],.clo 60 [Lk],.clo 61 [Lk]]:List AV).length=3:=rfl
      have fin:∀ m o1 o2,f31_l3 (runE G ext n) n k (m+1) (vecV t l i) (i:Int) l (l.length:Int) (i:Int) [AV.clo 59 [Lk],.clo 60 [Lk],.clo 61 [Lk]] 3 3 gh gl gt gn t c1 c2 c3 c4 c5 c6 o1 o2 (((nth l i).fld 0).fld 0).toInt (((nth l i).fld 0).fld 1).toBlob (((nth l i).fld 0).fld 2).toBlob (((nth l i).fld 0).fld 3).toInt ((nth l i).fld 1).toSlice=f31_l1 (runE G ext n) n k (if i=0 then [.blob (idV (((nth l i).fld 0).fld 0).toInt (((nth l i).fld 0).fld 1).toBlob (((nth l i).fld 0).fld 2).toBlob (((nth l i).fld 0).fld 3).toInt)] else nextV (vecV t l i) (idV (((nth l i).fld 0).fld 0).toInt (((nth l i).fld 0).fld 1).toBlob (((nth l i).fld 0).fld 2).toBlob (((nth l i).fld 0).fld 3).toInt) (levelV (idV (((nth l i).fld 0).fld 0).toInt (((nth l i).fld 0).fld 1).toBlob (((nth l i).fld 0).fld 2).toBlob (((nth l i).fld 0).fld 3).toInt) t)) l (l.length:Int) ((i:Int)+1) gh gl gt gn t c1 c2 c3 c4 c5 c6 o1 o2:=by
        intro m o1 o2
        rw [f31_l3_eq,ltI_f (by omega),cond_false,e4,step1,toSlice_s,w64 (by omega) (by omega)]
      have st2:∀ m o1 o2,f31_l3 (runE G ext n) n k (m+2) (vecV t l i) (i:Int) l (l.length:Int) (i:Int) [AV.clo 59 [Lk],.clo 60 [Lk],.clo 61 [Lk]] 3 2 gh gl gt gn t c1 c2 c3 c4 c5 c6 o1 o2 (((nth l i).fld 0).fld 0).toInt (((nth l i).fld 0).fld 1).toBlob (((nth l i).fld 0).fld 2).toBlob (((nth l i).fld 0).fld 3).toInt ((nth l i).fld 1).toSlice=bif !(okV (idA ((nth l i).fld 0)) t) then some ⟨[.agg [.int 9,.int (i:Int)]],[],false⟩ else f31_l3 (runE G ext n) n k (m+1) (vecV t l i) (i:Int) l (l.length:Int) (i:Int) [AV.clo 59 [Lk],.clo 60 [Lk],.clo 61 [Lk]] 3 3 gh gl gt gn t c1 c2 c3 c4 c5 c6 o1 o2 (((nth l i).fld 0).fld 0).toInt (((nth l i).fld 0).fld 1).toBlob (((nth l i).fld 0).fld 2).toBlob (((nth l i).fld 0).fld 3).toInt ((nth l i).fld 1).toSlice:=by
        intro m o1 o2
        have b0:Nat.beq (AV.clo 61 [Lk]).cloF 59=false:=rfl
        have b1:Nat.beq (AV.clo 61 [Lk]).cloF 60=false:=rfl
        have b2:Nat.beq (AV.clo 61 [Lk]).cloF 61=true:=rfl
        have b3:(AV.clo 61 [Lk]).cloXs=[Lk]:=rfl
        rw [f31_l3_eq,ltI_t (by omega),cond_true,len3,inR_int (by omega) (by omega),cond_true,n2,b0,cond_false,b1,cond_false,b2,cond_true,b3,q0,e3,step1,toInt_i,w2]
        rw [show okV (idV (((nth l i).fld 0).fld 0).toInt (((nth l i).fld 0).fld 1).toBlob (((nth l i).fld 0).fld 2).toBlob (((nth l i).fld 0).fld 3).toInt) t=okV (idA ((nth l i).fld 0)) t from rfl]
        cases okV (idA ((nth l i).fld 0)) t <;> rfl
      have st1:∀ m o1 o2,f31_l3 (runE G ext n) n k (m+3) (vecV t l i) (i:Int) l (l.length:Int) (i:Int) [AV.clo 59 [Lk],.clo 60 [Lk],.clo 61 [Lk]] 3 1 gh gl gt gn t c1 c2 c3 c4 c5 c6 o1 o2 (((nth l i).fld 0).fld 0).toInt (((nth l i).fld 0).fld 1).toBlob (((nth l i).fld 0).fld 2).toBlob (((nth l i).fld 0).fld 3).toInt ((nth l i).fld 1).toSlice=bif !(eqI (formV (nth l i) i (vecV t l i)) 0) then some ⟨[.agg [.int (formV (nth l i) i (vecV t l i)),.int (i:Int)]],[],false⟩ else f31_l3 (runE G ext n) n k (m+2) (vecV t l i) (i:Int) l (l.length:Int) (i:Int) [AV.clo 59 [Lk],.clo 60 [Lk],.clo 61 [Lk]] 3 2 gh gl gt gn t c1 c2 c3 c4 c5 c6 o1 o2 (((nth l i).fld 0).fld 0).toInt (((nth l i).fld 0).fld 1).toBlob (((nth l i).fld 0).fld 2).toBlob (((nth l i).fld 0).fld 3).toInt ((nth l i).fld 1).toSlice:=by
        intro m o1 o2
        have b0:Nat.beq (AV.clo 60 [Lk]).cloF 59=false:=rfl
        have b1:Nat.beq (AV.clo 60 [Lk]).cloF 60=true:=rfl
        have b3:(AV.clo 60 [Lk]).cloXs=[Lk]:=rfl
        rw [f31_l3_eq,ltI_t (by omega),cond_true,len3,inR_int (by omega) (by omega),cond_true,n1,b0,cond_false,b1,cond_true,b3,q0,e2,step1,toInt_i,w1]
        rfl
      have st0:∀ m o1 o2,f31_l3 (runE G ext n) n k (m+4) (vecV t l i) (i:Int) l (l.length:Int) (i:Int) [AV.clo 59 [Lk],.clo 60 [Lk],.clo 61 [Lk]] 3 0 gh gl gt gn t c1 c2 c3 c4 c5 c6 o1 o2 (((nth l i).fld 0).fld 0).toInt (((nth l i).fld 0).fld 1).toBlob (((nth l i).fld 0).fld 2).toBlob (((nth l i).fld 0).fld 3).toInt ((nth l i).fld 1).toSlice=bif !(eqI (ancV gh gl gt gn ((nth l i).fld 0) i) 0) then some ⟨[.agg [.int (ancV gh gl gt gn ((nth l i).fld 0) i),.int (i:Int)]],[],false⟩ else f31_l3 (runE G ext n) n k (m+3) (vecV t l i) (i:Int) l (l.length:Int) (i:Int) [AV.clo 59 [Lk],.clo 60 [Lk],.clo 61 [Lk]] 3 1 gh gl gt gn t c1 c2 c3 c4 c5 c6 o1 o2 (((nth l i).fld 0).fld 0).toInt (((nth l i).fld 0).fld 1).toBlob (((nth l i).fld 0).fld 2).toBlob (((nth l i).fld 0).fld 3).toInt ((nth l i).fld 1).toSlice:=by
        intro m o1 o2
        have b0:Nat.beq (AV.clo 59 [Lk]).cloF 59=true:=rfl
        have b3:(AV.clo 59 [Lk]).cloXs=[Lk]:=rfl
        rw [f31_l3_eq,ltI_t (by omega),cond_true,len3,inR_int (by omega) (by omega),cond_true,n0,b0,cond_true,b3,q0,e1,step1,toInt_i,w0]
        rfl
      rw [hm] at st0 st1 st2 fin ih' ⊢
      rw [st0 m]
      cases ha:eqI (ancV gh gl gt gn ((nth l i).fld 0) i) 0 with
      | false=>rw [blkErr_a ha,ha]; rfl
      | true =>
      rw [not_t,cond_false,st1]
      cases hf:eqI (formV (nth l i) i (vecV t l i)) 0 with
      | false=>rw [blkErr_f ha hf,hf]; rfl
      | true =>
      rw [not_t,cond_false,st2,fin,blkErr_o ha hf]
      cases okV (idA ((nth l i).fld 0)) t
      · rfl
      · exact ih'
  rw [f31_run,f31_eq,eqI_f (by omega),ltI_f (by omega),cond_false,cond_false]
  exact key l.length n 0 0 0 (by omega) (by omega)
end
end Go.Proofs.YteiahdlklppghaaGreat.Ev

namespace Go.Proofs.YteiahdlklppghaaGreat.Ev
open Go Go.RowKit
def txOpenV (l:List AV) (i:Int):List AV:=bif eqI (mayV l) 0 then openV (txT l) i else [.agg [.int 0,.int 0,.slice []],.int (mayV l)]
theorem txOpen_runs {l:List AV} {i:Int} (hl:l.length≤100000) (hs:Shorter l):RunsX 38 [.slice l,.int i] ⟨txOpenV l i,[],false⟩:=by
  have r1:=txMay_runs hl
  unfold txOpenV
  by_cases hm:mayV l=0
  · obtain ⟨a,b,p,e,hf,_⟩:=openV_form (txT l) i
    have r:=open_runs (l:=txT l) (i:=i) (by rw [txT_len]; omega) (txT_short hs)
    rw [eqI_t hm,cond_true]
    refine Evt.succ ((r1.and ((txTexts_runs hl hs).and r)).mono fun n hn=>?_)
    obtain ⟨g1,g2,g3⟩:=hn
    rw [hf] at g3 ⊢
    rw [f38_run,f38_eq]
    repeat (first | rw [step1] | rw [step1f] | rw [step2] | rw [step3] | rw [toBool_b] | rw [toInt_i] | rw [toStr_s] | rw [toBlob_b] | rw [toSlice_s] | rw [fld0] | rw [fld1] | rw [fld2] | rw [fld3] | rw [cond_true] | rw [cond_false] | rw [not_t] | rw [not_f] | rw [g1] | rw [g2] | rw [g3] | rw [eqI_t hm])
    rfl
  · rw [eqI_f hm,cond_false]
    refine Evt.succ (r1.mono fun n hn=>?_)
    rw [f38_run,f38_eq]
    repeat (first | rw [step1] | rw [step1f] | rw [step2] | rw [step3] | rw [toBool_b] | rw [toInt_i] | rw [toStr_s] | rw [toBlob_b] | rw [toSlice_s] | rw [fld0] | rw [fld1] | rw [fld2] | rw [fld3] | rw [cond_true] | rw [cond_false] | rw [not_t] | rw [not_f] | rw [hn] | rw [eqI_f hm])
    rfl
theorem refTxOpen_runs {l:List AV} {i:Int} (hl:l.length≤100000) (hs:Shorter l):RunsX 41 [.slice l,.int i] ⟨txOpenV l i,[],false⟩:=by
  have r1:=refTxMay_runs hl
  unfold txOpenV
  by_cases hm:mayV l=0
  · obtain ⟨a,b,p,e,hf,_⟩:=openV_form (txT l) i
    have r:=refOpen_runs (l:=txT l) (i:=i) (by rw [txT_len]; omega) (txT_short hs)
    rw [eqI_t hm,cond_true]
    refine Evt.succ ((r1.and ((refTxTexts_runs hl hs).and r)).mono fun n hn=>?_)
    obtain ⟨g1,g2,g3⟩:=hn
    rw [hf] at g3 ⊢
    rw [f41_run,f41_eq]
    repeat (first | rw [step1] | rw [step1f] | rw [step2] | rw [step3] | rw [toBool_b] | rw [toInt_i] | rw [toStr_s] | rw [toBlob_b] | rw [toSlice_s] | rw [fld0] | rw [fld1] | rw [fld2] | rw [fld3] | rw [cond_true] | rw [cond_false] | rw [not_t] | rw [not_f] | rw [g1] | rw [g2] | rw [g3] | rw [eqI_t hm])
    rfl
  · rw [eqI_f hm,cond_false]
    refine Evt.succ (r1.mono fun n hn=>?_)
    rw [f41_run,f41_eq]
    repeat (first | rw [step1] | rw [step1f] | rw [step2] | rw [step3] | rw [toBool_b] | rw [toInt_i] | rw [toStr_s] | rw [toBlob_b] | rw [toSlice_s] | rw [fld0] | rw [fld1] | rw [fld2] | rw [fld3] | rw [cond_true] | rw [cond_false] | rw [not_t] | rw [not_f] | rw [hn] | rw [eqI_f hm])
    rfl
def txChkV (root s:List UInt8) (i n:Int) (P:List AV):Bool:=bif leI n 1024 then (bif leI (s.length:Int) 4096 then checkH root ([84]++s) i n P else false) else false
theorem bigB_at {l:List AV}:∀ (j i k:Nat),bigB l j i=false→i≤k→k < i+j→(nth l k).toStr.length≤4096
  | 0,i,k,_,h1,h2=>by omega
  | j+1,i,k,h,h1,h2=>by
    simp only [bigB,Bool.or_eq_false_iff] at h
    by_cases hk:k=i
    · subst hk
      have:=of_decide_eq_false h.1
      omega
    · exact bigB_at j (i+1) k h.2 (by omega) (by omega)
theorem mayV_in {l:List AV} (h:mayV l=0):l.length≤1024∧∀ k,k < l.length→(nth l k).toStr.length≤4096:=by
  unfold mayV at h
  by_cases h1:(1024:Int) < (l.length:Int)
  · rw [ltI_t h1,cond_true] at h; cases h
  · rw [ltI_f h1,cond_false] at h
    cases hb:bigB l l.length 0 with
    | true=>rw [hb,cond_true] at h; cases h
    | false=>exact ⟨by omega,fun k hk=>bigB_at l.length 0 k hb (by omega) (by omega)⟩
theorem txT_at {l:List AV} {i:Nat} (h:i < l.length):(nth (txT l) i).toStr=[84]++(nth l i).toStr:=by
  rw [nth_lt (by rw [txT_len]; exact h),nth_lt h]
  simp only [txT,List.getElem_map]; rfl
theorem txOpened {l:List AV} {i:Int} (h0:0≤i) (h1:i < l.length) (h:mayV l=0):txOpenV l i=[.agg [.int i,.int (l.length:Int),.slice (pathL (txT l) i)],.int 0]∧txChkV (txR l) (nth l i.toNat).toStr i (l.length:Int) (pathL (txT l) i)=true:=by
  obtain ⟨k1,k2⟩:=mayV_in h
  have i2:i < (txT l).length:=by rw [txT_len]; exact h1
  refine ⟨?_,?_⟩
  · unfold txOpenV
    rw [eqI_t h,cond_true,openV_in h0 i2,txT_len]
  · unfold txChkV
    have:=opened_check (l:=txT l) (i:=i) (by rw [txT_len]; omega) h0 i2
    rw [txT_at (by omega),txT_len] at this
    have k3:=k2 i.toNat (by omega)
    rw [leI_t (by omega),leI_t (by omega),cond_true,cond_true]
    exact this
theorem mu22_l0 (run:Run) (n:Nat) (l:List AV) (hl:l.length≤maxLen):∀ (j k i:Nat) (x:Int),1101-i=j→i≤l.length→j < k→∃ b,(b=false→l.length≤1050∧(60 < l.length→1024 < l.length))∧f22_l0 run n k l x (i:Int)=some ⟨[.bool b],[],false⟩:=by
  rw [maxLen_eq] at hl
  have fin:∀ x:Int,∃ b,(b=false→l.length≤1050∧(60 < l.length→1024 < l.length))∧(bif ltI 60 (l.length:Int) then bif leI (l.length:Int) 1024 then some ⟨[.bool true],[],false⟩ else bif ltI 1050 (l.length:Int) then some ⟨[.bool true],[],false⟩ else some ⟨[.bool (ltI 6000 x)],[],false⟩ else bif ltI 1050 (l.length:Int) then some ⟨[.bool true],[],false⟩ else some ⟨[.bool (ltI 6000 x)],[],false⟩)=some (⟨[.bool b],[],false⟩:Res):=by
    intro x
    by_cases h:60 < (l.length:Int)
    · by_cases h2:(l.length:Int)≤1024
      · exact ⟨true,(fun h=>by cases h),by rw [ltI_t h,leI_t h2]; rfl⟩
      · by_cases h3:1050 < (l.length:Int)
        · exact ⟨true,(fun h=>by cases h),by rw [ltI_t h,leI_f h2,ltI_t h3]; rfl⟩
        · exact ⟨ltI 6000 x,(fun _=>by omega),by rw [ltI_t h,leI_f h2,ltI_f h3]; rfl⟩
    · exact ⟨ltI 6000 x,(fun _=>by omega),by rw [ltI_f h,ltI_f (show ¬ 1050 < (l.length:Int) by omega)]; rfl⟩
  intro j
  induction j with
  | zero =>
    intro k i x hi _ hk
    obtain ⟨k,rfl⟩:∃ j,k=j+1:=⟨k-1,by omega⟩
    rw [f22_l0_eq,ltI_f (a:=(i:Int)) (b:=1100) (by omega)]
    cases ltI (i:Int) l.length
    · exact fin x
    · exact fin x
  | succ j ih =>
    intro k i x hi hil hk
    obtain ⟨k,rfl⟩:∃ j,k=j+1:=⟨k-1,by omega⟩
    rw [f22_l0_eq]
    by_cases h:i < l.length
    · by_cases h2:(i:Int) < 1100
      · rw [ltI_t (by omega),ltI_t h2,cond_true,cond_true,inR_nat h,cond_true,w64 (x:=(i:Int)+1) (by omega) (by omega)]
        have:=ih k (i+1) (mn2 (IntKind.wrap .i64 (IntKind.wrap .i64 (x+1)+(((nth l (Int.toNat i)).toStr).length:Int))) 1048576) (by omega) (by omega) (by omega)
        rw [show ((i+1:Nat):Int)=(i:Int)+1 by omega] at this
        exact this
      · rw [ltI_t (a:=(i:Int)) (b:=l.length) (by omega),cond_true,ltI_f h2,cond_false]
        exact fin x
    · rw [ltI_f (by omega),cond_false]
      exact fin x
theorem mu22_runs {l:List AV} (hl:l.length≤maxLen):∃ b,(b=false→l.length≤1050∧(60 < l.length→1024 < l.length))∧RunsX 22 [.slice l] ⟨[.bool b],[],false⟩:=by
  obtain ⟨b,h0,h⟩:=mu22_l0 (runE G ext 2000) 2000 l hl 1101 2000 0 0 rfl (by omega) (by omega)
  exact ⟨b,h0,RunsX.of_eval 2001 (by rw [f22_run,f22_eq]; exact h)⟩
end Go.Proofs.YteiahdlklppghaaGreat.Ev

namespace Go.Proofs.YteiahdlklppghaaGreat.Ev
open Go Go.RowKit
abbrev blockTy:Ty:=.struct [headTy,.slice .str]
theorem block_of {y:AV} (h:blockTy.Has y):HeadA (y.fld 0)∧Shorter ((y.fld 1).toSlice)∧((y.fld 1).toSlice).length≤maxLen:=by
  obtain ⟨l0,rfl,y0,s0,rfl,hh,y1,s1,rfl,⟨l,rfl,hl,_,hx⟩,rfl⟩:=h
  exact ⟨headA_of hh,shorter_of hx,hl⟩
def Blocks0 (l:List AV):Prop:=∀ i,i < l.length→HeadA ((nth l i).fld 0)∧Shorter (((nth l i).fld 1).toSlice)∧(((nth l i).fld 1).toSlice).length≤maxLen
theorem blocks0_of {l:List AV} (h:∀ (i:Nat) y,l[i]?=some y→blockTy.Has y):Blocks0 l:=by
  intro i hi
  rw [nth_lt hi]
  exact block_of (h i _ (List.getElem?_eq_getElem hi))
noncomputable def mB (l:List AV) (h:Blocks0 l) (i:Nat):Bool:=if hi:i < l.length then Classical.choose (mu22_runs (h i hi).2.2) else false
theorem mB_spec {l:List AV} (h:Blocks0 l) {i:Nat} (hi:i < l.length):(mB l h i=false→(((nth l i).fld 1).toSlice).length≤1050)∧RunsX 22 [.slice (((nth l i).fld 1).toSlice)] ⟨[.bool (mB l h i)],[],false⟩:=by
  have:=Classical.choose_spec (mu22_runs (h i hi).2.2)
  unfold mB
  rw [dif_pos hi]
  exact ⟨fun hb=>(this.1 hb).1,this.2⟩
theorem mu24_l0 {l:List AV} (h:Blocks0 l) (hl:l.length≤maxLen):∀ (j i:Nat) (x:Int),31-i=j→i≤l.length→(∀ m,m < i→(((nth l m).fld 1).toSlice).length≤1050)→∃ b,(b=false→l.length≤24∧∀ m,m < l.length→(((nth l m).fld 1).toSlice).length≤1050) ∧
    ∀ (n k:Nat),(∀ m,m < min l.length 30→runE G ext n 22 [.slice (((nth l m).fld 1).toSlice)]=some ⟨[.bool (mB l h m)],[],false⟩)→j < k→f6_l0 (runE G ext n) n k l x (i:Int)=some ⟨[.bool b],[],false⟩:=by
  rw [maxLen_eq] at hl
  intro j
  induction j with
  | zero =>
    intro i x hj hi hm
    by_cases h24:24 < (l.length:Int)
    · refine ⟨true,(fun h=>by cases h),fun n k hr hk=>?_⟩
      obtain ⟨k,rfl⟩:∃ j,k=j+1:=⟨k-1,by omega⟩
      rw [f6_l0_eq,ltI_f (a:=(i:Int)) (b:=30) (by omega),ltI_t h24]
      cases ltI (i:Int) (l.length:Int) <;> rfl
    · omega
  | succ j ih =>
    intro i x hj hi hm
    by_cases h1:i < l.length
    · by_cases h2:(i:Int) < 30
      · cases hb:mB l h i with
        | true =>
          refine ⟨true,(fun h=>by cases h),fun n k hr hk=>?_⟩
          obtain ⟨k,rfl⟩:∃ j,k=j+1:=⟨k-1,by omega⟩
          have e:=hr i (by omega)
          rw [hb] at e
          rw [f6_l0_eq,ltI_t (by omega),ltI_t h2,cond_true,cond_true,inR_nat h1,cond_true,Int.toNat_natCast,e,step1,toBool_b,cond_true]; rfl
        | false =>
          obtain ⟨b,hb1,hb2⟩:=ih (i+1) (IntKind.wrap .i64 (x+((((nth l i).fld 1).toSlice).length:Int))) (by omega) (by omega) (fun m hm'=>by
            by_cases he:m=i
            · subst he; exact (mB_spec h h1).1 hb
            · exact hm m (by omega))
          refine ⟨b,hb1,fun n k hr hk=>?_⟩
          obtain ⟨k,rfl⟩:∃ j,k=j+1:=⟨k-1,by omega⟩
          have e:=hr i (by omega)
          rw [hb] at e
          have ih':=hb2 n k hr (by omega)
          rw [show ((i+1:Nat):Int)=(i:Int)+1 by omega] at ih'
          rw [f6_l0_eq,ltI_t (by omega),ltI_t h2,cond_true,cond_true,inR_nat h1,cond_true,Int.toNat_natCast,e,step1,toBool_b,cond_false,w64 (x:=(i:Int)+1) (by omega) (by omega),cond_true]
          exact ih'
      · by_cases h24:24 < (l.length:Int)
        · refine ⟨true,(fun h=>by cases h),fun n k hr hk=>?_⟩
          obtain ⟨k,rfl⟩:∃ j,k=j+1:=⟨k-1,by omega⟩
          rw [f6_l0_eq,ltI_f h2,ltI_t h24]
          cases ltI (i:Int) (l.length:Int) <;> rfl
        · omega
    · by_cases h24:24 < (l.length:Int)
      · refine ⟨true,(fun h=>by cases h),fun n k hr hk=>?_⟩
        obtain ⟨k,rfl⟩:∃ j,k=j+1:=⟨k-1,by omega⟩
        rw [f6_l0_eq,ltI_f (a:=(i:Int)) (by omega),ltI_t h24]; rfl
      · refine ⟨ltI 100 x,(fun _=>⟨by omega,fun m hm'=>hm m (by omega)⟩),fun n k hr hk=>?_⟩
        obtain ⟨k,rfl⟩:∃ j,k=j+1:=⟨k-1,by omega⟩
        rw [f6_l0_eq,ltI_f (a:=(i:Int)) (by omega),ltI_f h24]; rfl
theorem mu24_runs {l:List AV} (h:Blocks0 l) (hl:l.length≤maxLen):∃ b,(b=false→l.length≤24∧Blocks l)∧RunsX 6 [.slice l] ⟨[.bool b],[],false⟩:=by
  obtain ⟨b,h1,h2⟩:=mu24_l0 h hl 31 0 0 (by omega) (by omega) (fun m hm=>by omega)
  refine ⟨b,fun hb=>⟨(h1 hb).1,fun i hi=>⟨(h i hi).1,(h i hi).2.1,Nat.le_trans ((h1 hb).2 i hi) (by omega)⟩⟩,?_⟩
  have hall:=Evt.all (min l.length 30) fun m hm=>(mB_spec h (i:=m) (by omega)).2
  refine Evt.succ ((hall.and (Evt.ge 40)).mono fun n hn=>?_)
  rw [f6_run,f6_eq]
  exact h2 n n hn.1 (by omega)
theorem nth_take {l:List AV} {i m:Nat} (h:i < m):nth (l.take m) i=nth l i:=by
  unfold nth
  simp [List.getD,h]
theorem Blocks.take {l:List AV} (h:Blocks l) (m:Nat):Blocks (l.take m):=by
  intro i hi
  have:i < m∧i < l.length:=by rw [List.length_take] at hi; omega
  rw [nth_take this.1]
  exact h i this.2
section
variable {gh:Int} {gl gt:List UInt8} {gn:Int} {t:List UInt8} {c1 c2 c3 c4 c5 c6:Int}
theorem faultV_spec {l:List AV}:∀ (j i:Nat),(faultV gh gl gt gn t l j i=.agg [.int 0,.int 0]∧∀ k,i≤k→k < i+j→blkErr gh gl gt gn t l k=0) ∨
    ∃ k,i≤k∧k < i+j∧blkErr gh gl gt gn t l k≠0∧faultV gh gl gt gn t l j i=.agg [.int (blkErr gh gl gt gn t l k),.int (k:Int)]∧∀ m,i≤m→m < k→blkErr gh gl gt gn t l m=0
  | 0,_=>.inl ⟨rfl,fun k h1 h2=>by omega⟩
  | j+1,i=>by
    simp only [faultV]
    by_cases hb:blkErr gh gl gt gn t l i=0
    · rw [eqI_t hb,not_t,cond_false]
      rcases faultV_spec (l:=l) j (i+1) with ⟨h1,h2⟩ | ⟨k,h1,h2,h3,h4,h5⟩
      · refine .inl ⟨h1,fun k k1 k2=>?_⟩
        by_cases he:k=i
        · rw [he]; exact hb
        · exact h2 k (by omega) (by omega)
      · refine .inr ⟨k,by omega,by omega,h3,h4,fun m m1 m2=>?_⟩
        by_cases he:m=i
        · rw [he]; exact hb
        · exact h5 m (by omega) m2
    · rw [eqI_f hb,not_f,cond_true]
      exact .inr ⟨i,Nat.le_refl _,by omega,hb,rfl,fun m m1 m2=>by omega⟩
theorem chainV_spec {l:List AV} (h1:1≤l.length) (h2:l.length≤1024):(chainV gh gl gt gn t l=.agg [.int 0,.int 0]∧∀ k,k < l.length→blkErr gh gl gt gn t l k=0) ∨
    ∃ k,k < l.length∧blkErr gh gl gt gn t l k≠0∧chainV gh gl gt gn t l=.agg [.int (blkErr gh gl gt gn t l k),.int (k:Int)]∧∀ m,m < k→blkErr gh gl gt gn t l m=0:=by
  unfold chainV
  rw [if_neg (by omega),if_neg (by omega)]
  rcases faultV_spec (gh:=gh) (gl:=gl) (gt:=gt) (gn:=gn) (t:=t) (l:=l) l.length 0 with ⟨h3,h4⟩ | ⟨k,_,h4,h5,h6,h7⟩
  · exact .inl ⟨h3,fun k hk=>h4 k (by omega) (by omega)⟩
  · exact .inr ⟨k,by omega,h5,h6,fun m hm=>h7 m (by omega) hm⟩
end
end Go.Proofs.YteiahdlklppghaaGreat.Ev

namespace Go.Proofs.YteiahdlklppghaaGreat.Ev
open Go Go.RowKit
theorem levels_runs {t:List UInt8} {l:List AV} (ht:t.length=32) (hl:l.length≤100000) (hh:Heads l):RunsX 26 [.blob t,.slice l] ⟨[.slice (levsV t l)],[],true⟩:=by
  have hall:=Evt.all l.length fun i (hi:i < l.length)=>(chainId_runs (x:=((nth l i).fld 1).toSlice) (hh i hi)).and (level_runs (idA_len ((nth l i).fld 0)) ht)
  refine Evt.succ ((hall.and (Evt.ge (l.length+1))).mono fun n hn=>?_)
  have key:∀ (j k i:Nat),i+j=l.length→j < k→f26_l0 (runE G ext n) n k ((List.range i).map fun i=>.int (if i=0 then 256 else levelV (idA ((nth l i).fld 0)) t)) l (l.length:Int) (i:Int) t=some ⟨[.slice (levsV t l)],[],true⟩:=by
    intro j
    induction j with
    | zero =>
      intro k i hi hk
      obtain ⟨k,rfl⟩:∃ j,k=j+1:=⟨k-1,by omega⟩
      rw [f26_l0_eq,ltI_f (by omega),cond_false,show i=l.length by omega]; rfl
    | succ j ih =>
      intro k i hi hk
      obtain ⟨k,rfl⟩:∃ j,k=j+1:=⟨k-1,by omega⟩
      have ih':=ih k (i+1) (by omega) (by omega)
      rw [show ((i+1:Nat):Int)=(i:Int)+1 by omega,List.range_succ,List.map_append,List.map_singleton] at ih'
      have nb:Nat.ble ((((List.range i).map fun i=>AV.int (if i=0 then 256 else levelV (idA ((nth l i).fld 0)) t)).length+1)*8) 140737488355328=true:=Nat.ble_eq_true_of_le (by simp; omega)
      obtain ⟨e1,e2⟩:=hn.1 i (by omega)
      unfold idA at e2
      rw [f26_l0_eq,ltI_t (by omega),cond_true,inR_nat (by omega),cond_true,Int.toNat_natCast,e1,step1,toBlob_b,e2,step1,toInt_i,nb,w64 (by omega) (by omega)]
      by_cases h0:i=0
      · rw [if_pos h0] at ih'
        rw [eqI_t (show (i:Int)=0 by omega),cond_true,cond_true]
        exact ih'
      · rw [if_neg h0] at ih'
        rw [eqI_f (show ¬ (i:Int)=0 by omega),cond_false,cond_true]
        exact ih'
  rw [f26_run,f26_eq]
  exact key l.length n 0 (by omega) (by omega)
end Go.Proofs.YteiahdlklppghaaGreat.Ev

namespace Go.Proofs.YteiahdlklppghaaGreat.Ev
open Go Go.RowKit
theorem nearU_runs {l:List AV} {at_ lv:Int} (hl:l.length≤maxLen) (h0:0≤at_) (h1:at_≤l.length):RunsX 100 [.slice l,.int at_,.int lv] ⟨[.int (nearV l lv at_.toNat)],[],false⟩:=by
  refine Evt.succ ((Evt.ge (at_.toNat+1)).mono fun n hn=>?_)
  rw [f100_run,f100_eq,mn2_eq,show min at_ (l.length:Int)=at_ by omega]
  rw [maxLen_eq] at hl
  rw [w64 (by omega) (by omega),show at_-1=((at_.toNat:Nat):Int)-1 by omega]
  exact nearU_l0s _ _ _ _ _ _ (by omega) (by rw [maxLen_eq]; omega) (by omega)
theorem nearR_l0s (run:Run) (n:Nat) (l:List AV) (at_ lv:Int) (h0:0≤at_) (h1:at_≤l.length) (hl:l.length≤maxLen):∀ (j k i:Nat),i+j=at_.toNat→j < k→f101_l0 run n k l at_ lv (nearV l lv i) (i:Int)=some ⟨[.int (nearV l lv at_.toNat)],[],false⟩:=by
  rw [maxLen_eq] at hl
  intro j
  induction j with
  | zero =>
    intro k i hi hk
    obtain ⟨k,rfl⟩:∃ j,k=j+1:=⟨k-1,by omega⟩
    rw [Nat.add_zero] at hi
    subst hi
    rw [f101_l0_eq]
    by_cases h:((at_.toNat:Nat):Int) < (l.length:Int)
    · rw [ltI_t h,cond_true,ltI_f (by omega)]; rfl
    · rw [ltI_f h]; rfl
  | succ j ih =>
    intro k i hi hk
    obtain ⟨k,rfl⟩:∃ j,k=j+1:=⟨k-1,by omega⟩
    rw [f101_l0_eq,ltI_t (by omega),cond_true,ltI_t (by omega),cond_true,inR_nat (by omega),cond_true,Int.toNat_natCast,w64 (by omega) (by omega)]
    have ih':=ih k (i+1) (by omega) (by omega)
    have e:((i+1:Nat):Int)=(i:Int)+1:=by omega
    rw [e] at ih'
    simp only [nearV] at ih'
    by_cases h:lv≤(nth l i).toInt
    · rw [leI_t h,cond_true]
      rw [if_pos h] at ih'
      exact ih'
    · rw [leI_f h,cond_false]
      rw [if_neg h] at ih'
      exact ih'
theorem nearR_runs {l:List AV} {at_ lv:Int} (hl:l.length≤maxLen) (h0:0≤at_) (h1:at_≤l.length):RunsX 101 [.slice l,.int at_,.int lv] ⟨[.int (nearV l lv at_.toNat)],[],false⟩:=by
  refine Evt.succ ((Evt.ge (at_.toNat+1)).mono fun n hn=>?_)
  rw [f101_run,f101_eq]
  exact nearR_l0s _ _ _ _ _ h0 h1 hl at_.toNat n 0 (by omega) (by omega)
theorem allR_l0s {run:Run} {l:List AV} {at_:Int} (hr:∀ i,i < 257→run 101 [.slice l,.int at_,.int (i:Nat)]=some ⟨[.int (nearV l (i:Nat) at_.toNat)],[],false⟩) (n:Nat) :
    ∀ (j k i:Nat) (acc:List AV),i+j=257→acc.length≤i→j < k→f69_l0 run n k l at_ acc (i:Int)=some ⟨[.slice (allV l at_ acc j i)],[],true⟩:=by
  intro j
  induction j with
  | zero =>
    intro k i acc hi _ hk
    obtain ⟨k,rfl⟩:∃ j,k=j+1:=⟨k-1,by omega⟩
    rw [f69_l0_eq,ltI_f (by omega)]
    rfl
  | succ j ih =>
    intro k i acc hi hacc hk
    obtain ⟨k,rfl⟩:∃ j,k=j+1:=⟨k-1,by omega⟩
    rw [f69_l0_eq,ltI_t (by omega),cond_true,hr i (by omega)]
    simp only [Option.bind_some,consV,nilV,AV.toInt]
    have hb:Nat.ble ((acc.length+1)*8) 140737488355328=true:=Nat.ble_eq_true_of_le (by omega)
    rw [hb,cond_true,w64 (by omega) (by omega)]
    have ih':=ih k (i+1) (acc++[.int (nearV l (i:Nat) at_.toNat)]) (by omega) (by simp; omega) (by omega)
    have e:((i+1:Nat):Int)=(i:Int)+1:=by omega
    rw [e] at ih'
    rw [ih']
    simp only [allV]
    by_cases h:nearV l (i:Nat) at_.toNat < 0
    · rw [ltI_t h,if_pos h]; rfl
    · rw [ltI_f h,if_neg h,cond_false]
      by_cases h':nearV l (i:Nat) at_.toNat=0
      · rw [eqI_t h',if_pos h']; rfl
      · rw [eqI_f h',if_neg h']; rfl
theorem allU_runs {l:List AV} {at_:Int} (hl:l.length≤maxLen):RunsX 68 [.slice l,.int at_] ⟨[.slice (allOf l at_)],[],true⟩:=by
  unfold allOf
  by_cases h1:at_ < 1
  · refine Evt.succ (.of fun n=>?_)
    rw [f68_run,f68_eq,ltI_t h1,if_pos h1]; rfl
  · by_cases h2:(l.length:Int) < at_
    · refine Evt.succ (.of fun n=>?_)
      rw [f68_run,f68_eq,ltI_f h1,ltI_t h2,if_neg h1,if_pos h2]; rfl
    · refine Evt.succ (((Evt.all 257 fun i _=>nearU_runs (l:=l) (at_:=at_) (lv:=(i:Nat)) hl (by omega) (by omega)).and (Evt.ge 258)).mono fun n hn=>?_)
      rw [f68_run,f68_eq,ltI_f h1,ltI_f h2,if_neg h1,if_neg h2,cond_false,cond_false]
      exact allU_l0s hn.1 n 257 n 0 [] (by omega) (by simp) (by omega)
theorem allR_runs {l:List AV} {at_:Int} (hl:l.length≤maxLen):RunsX 69 [.slice l,.int at_] ⟨[.slice (allOf l at_)],[],true⟩:=by
  unfold allOf
  by_cases h1:at_ < 1
  · refine Evt.succ (.of fun n=>?_)
    rw [f69_run,f69_eq,ltI_t h1,if_pos h1]; rfl
  · by_cases h2:(l.length:Int) < at_
    · refine Evt.succ (.of fun n=>?_)
      rw [f69_run,f69_eq,ltI_f h1,ltI_t h2,if_neg h1,if_pos h2]; rfl
    · refine Evt.succ (((Evt.all 257 fun i _=>nearR_runs (l:=l) (at_:=at_) (lv:=(i:Nat)) hl (by omega) (by omega)).and (Evt.ge 258)).mono fun n hn=>?_)
      rw [f69_run,f69_eq,ltI_f h1,ltI_f h2,if_neg h1,if_neg h2,cond_false,cond_false]
      exact allR_l0s hn.1 n 257 n 0 [] (by omega) (by simp) (by omega)
def idxV (l:List AV) («to»:Int):Nat→Nat→Int
  | 0,_=>-1
  | j+1,i=>if (nth l i).toInt=«to» then (i:Int) else idxV l «to» j (i+1)
theorem idxU_l0 (run:Run) (n:Nat) (l:List AV) («to»:Int) (hl:l.length≤1000):∀ (j k i:Nat),i+j=l.length→j < k→f44_l0 run n k «to» l (l.length:Int) (i:Int)=some ⟨[.int (idxV l «to» j i)],[],false⟩:=by
  intro j
  induction j with
  | zero =>
    intro k i hi hk
    obtain ⟨k,rfl⟩:∃ j,k=j+1:=⟨k-1,by omega⟩
    rw [f44_l0_eq,ltI_f (by omega)]; rfl
  | succ j ih =>
    intro k i hi hk
    obtain ⟨k,rfl⟩:∃ j,k=j+1:=⟨k-1,by omega⟩
    have ih':=ih k (i+1) (by omega) (by omega)
    rw [show ((i+1:Nat):Int)=(i:Int)+1 by omega] at ih'
    rw [f44_l0_eq,ltI_t (by omega),cond_true,inR_nat (by omega),cond_true,Int.toNat_natCast,w64 (by omega) (by omega),ih']
    simp only [idxV]
    by_cases h:(nth l i).toInt=«to»
    · rw [eqI_t h,if_pos h]; rfl
    · rw [eqI_f h,if_neg h]; rfl
theorem idxR_l0 (run:Run) (n:Nat) (l:List AV) («to»:Int) (hl:l.length≤1000):∀ (j k i:Nat),i+j=l.length→j < k→f46_l0 run n k «to» l (i:Int)=some ⟨[.int (idxV l «to» j i)],[],false⟩:=by
  intro j
  induction j with
  | zero =>
    intro k i hi hk
    obtain ⟨k,rfl⟩:∃ j,k=j+1:=⟨k-1,by omega⟩
    rw [f46_l0_eq,ltI_f (by omega)]; rfl
  | succ j ih =>
    intro k i hi hk
    obtain ⟨k,rfl⟩:∃ j,k=j+1:=⟨k-1,by omega⟩
    have ih':=ih k (i+1) (by omega) (by omega)
    rw [show ((i+1:Nat):Int)=(i:Int)+1 by omega] at ih'
    rw [f46_l0_eq,ltI_t (by omega),cond_true,inR_nat (by omega),cond_true,Int.toNat_natCast,w64 (by omega) (by omega),ih']
    simp only [idxV]
    by_cases h:(nth l i).toInt=«to»
    · rw [eqI_t h,if_pos h]; rfl
    · rw [eqI_f h,if_neg h]; rfl
theorem idxU_runs {l:List AV} {at_ «to»:Int} (hl:l.length≤maxLen):RunsX 44 [.slice l,.int at_,.int «to»] ⟨[.int (idxV (allOf l at_) «to» (allOf l at_).length 0)],[],false⟩:=by
  refine Evt.succ (((allU_runs (at_:=at_) hl).and (Evt.ge 400)).mono fun n hn=>?_)
  obtain ⟨h1,h2⟩:=hn
  have h3:=allOf_len l at_
  rw [f44_run,f44_eq,h1]
  simp only [bind_run,consV_c,nilV_n,toSlice_s,cond_true]
  exact idxU_l0 _ n _ «to» (by omega) _ n 0 (by omega) (by omega)
theorem idxR_runs {l:List AV} {at_ «to»:Int} (hl:l.length≤maxLen):RunsX 46 [.slice l,.int at_,.int «to»] ⟨[.int (idxV (allOf l at_) «to» (allOf l at_).length 0)],[],false⟩:=by
  refine Evt.succ (((allR_runs (at_:=at_) hl).and (Evt.ge 400)).mono fun n hn=>?_)
  obtain ⟨h1,h2⟩:=hn
  have h3:=allOf_len l at_
  rw [f46_run,f46_eq,h1]
  simp only [bind_run,consV_c,nilV_n,toSlice_s,cond_true]
  exact idxR_l0 _ n _ «to» (by omega) _ n 0 (by omega) (by omega)
end Go.Proofs.YteiahdlklppghaaGreat.Ev

namespace Go.Proofs.YteiahdlklppghaaGreat.Ev
open Go Go.RowKit
theorem nearV_nonneg {L:List AV} {k:Int} (h0:k≤(nth L 0).toInt):∀ i,1≤i→0≤nearV L k i
  | 0,h=>by omega
  | i+1,_=>by
    simp only [nearV]
    split
    · omega
    · rename_i h
      by_cases hi:i=0
      · subst hi; exact absurd h0 h
      · exact nearV_nonneg h0 i (by omega)
theorem nearV_anti {L:List AV} {k m:Int} (h:k≤m):∀ i,nearV L m i≤nearV L k i
  | 0=>by simp [nearV]
  | i+1=>by
    simp only [nearV]
    have h1:=nearV_anti (L:=L) h i
    have h2:=nearV_le L m i
    split
    · rw [if_pos (by omega)]; exact Int.le_refl _
    · split <;> omega
structure NearInv (t:List UInt8) (l:List AV) (i n:Nat):Prop where
  len:(vecV t l i).length=n
  n1:1≤n
  n2:n≤257
  ent:∀ k,k < n→nth (vecV t l i) k=.blob (idA ((nth l (nearV (levsV t l) (k:Int) i).toNat).fld 0))
  pos:∀ k,k+1 < n→nearV (levsV t l) (k:Int) i≠0
  last:nearV (levsV t l) ((n-1:Nat):Int) i=0
theorem lev0 {t:List UInt8} {l:List AV} (h:0 < l.length):(nth (levsV t l) 0).toInt=256:=by rw [levsV_nth t l h]; rfl
theorem levI {t:List UInt8} {l:List AV} {i:Nat} (h:i < l.length) (h0:i≠0):(nth (levsV t l) i).toInt=levelV (idA ((nth l i).fld 0)) t:=by rw [levsV_nth t l h,if_neg h0]; rfl
theorem nearInv {t:List UInt8} {l:List AV} (hok:∀ i,i < l.length→0≤levelV (idA ((nth l i).fld 0)) t):∀ i,i < l.length→∃ n,NearInv t l (i+1) n
  | 0,h=>by
    have e0:nearV (levsV t l) 0 1=0:=by
      simp only [nearV]
      rw [if_pos (by rw [lev0 h]; omega)]; rfl
    refine ⟨1,rfl,by omega,by omega,fun k hk=>?_,fun k hk=>by omega,e0⟩
    obtain rfl:k=0:=by omega
    rw [show ((0:Nat):Int)=0 from rfl,e0]; rfl
  | i+1,h=>by
    obtain ⟨n,I⟩:=nearInv hok i (by omega)
    have hr:=levelV_range (idA ((nth l (i+1)).fld 0)) t
    have hp:=hok (i+1) h
    obtain ⟨c,hc⟩:∃ c:Nat,levelV (idA ((nth l (i+1)).fld 0)) t=(c:Int):=⟨(levelV (idA ((nth l (i+1)).fld 0)) t).toNat,by omega⟩
    have hcl:clampV (levelV (idA ((nth l (i+1)).fld 0)) t)=c:=by unfold clampV; omega
    have hv:vecV t l (i+1+1)=(List.range (max n (c+2))).map (nextAt (vecV t l (i+1)) (idA ((nth l (i+1)).fld 0)) c):=by
      show behindV t (vecV t l (i+1)) (nth l (i+1)) (i+1)=_
      unfold behindV
      rw [if_neg (by omega)]
      unfold nextV
      rw [if_neg (by have:=I.len; have:=I.n1; omega),hcl,I.len]
    have hstep:∀ k:Nat,nearV (levsV t l) (k:Int) (i+1+1)=if k≤c then ((i+1:Nat):Int) else nearV (levsV t l) (k:Int) (i+1):=by
      intro k
      rw [show nearV (levsV t l) (k:Int) (i+1+1)=if (k:Int)≤(nth (levsV t l) (i+1)).toInt then ((i+1:Nat):Int) else nearV (levsV t l) (k:Int) (i+1) from rfl,levI h (by omega),hc]
      by_cases hk:k≤c
      · rw [if_pos hk,if_pos (by omega)]
      · rw [if_neg hk,if_neg (by omega)]
    have hz:∀ k:Nat,n-1≤k→k≤256→nearV (levsV t l) (k:Int) (i+1)=0:=by
      intro k h1 h2
      have a:=nearV_anti (L:=levsV t l) (k:=((n-1:Nat):Int)) (m:=(k:Int)) (by omega) (i+1)
      have b:=nearV_nonneg (L:=levsV t l) (k:=(k:Int)) (by rw [lev0 (by omega)]; omega) (i+1) (by omega)
      rw [I.last] at a
      omega
    have n1:=I.n1
    have n2:=I.n2
    refine ⟨max n (c+2),by rw [hv]; simp,by omega,by omega,fun k hk=>?_,fun k hk=>?_,?_⟩
    · rw [hv,nth_range hk,hstep]
      unfold nextAt
      by_cases h1:k≤c
      · rw [if_pos h1,if_pos h1,Int.toNat_natCast]
      · rw [if_neg h1,if_neg h1,I.len]
        by_cases h2:k < n
        · rw [if_pos h2]; exact I.ent k h2
        · rw [if_neg h2,I.ent (n-1) (by omega),I.last,hz k (by omega) (by omega)]
    · rw [hstep]
      by_cases h1:k≤c
      · rw [if_pos h1]; omega
      · rw [if_neg h1]; exact I.pos k (by omega)
    · rw [hstep,if_neg (by omega)]
      exact hz _ (by omega) (by omega)
theorem allV_of {L:List AV} {at_:Int} {n:Nat} (hn:n≤257) (hpos:∀ k:Nat,k+1 < n→0 < nearV L (k:Int) at_.toNat) (hlast:nearV L ((n-1:Nat):Int) at_.toNat=0):∀ (j s:Nat) (acc:List AV) (lv:Int),s+j=257→s < n→acc=((List.range s).map fun k:Nat=>AV.int (nearV L (k:Int) at_.toNat))→lv=(s:Int) →
    allV L at_ acc j lv=(List.range n).map fun k:Nat=>AV.int (nearV L (k:Int) at_.toNat)
  | 0,s,_,_,h1,h2,_,_=>by omega
  | j+1,s,acc,lv,h1,h2,ha,hv=>by
    simp only [allV]
    have e:acc++[.int (nearV L lv at_.toNat)]=(List.range (s+1)).map fun k:Nat=>AV.int (nearV L (k:Int) at_.toNat):=by
      rw [List.range_succ,List.map_append,List.map_singleton,ha,hv]
    by_cases hs:s+1=n
    · have h0:nearV L lv at_.toNat=0:=by rw [hv,show s=n-1 by omega]; exact hlast
      rw [if_neg (by omega),if_pos h0,e,hs]
    · have h0:=hpos s (by omega)
      rw [← hv] at h0
      rw [if_neg (by omega),if_neg (by omega)]
      exact allV_of hn hpos hlast j (s+1) _ _ (by omega) (by omega) e (by omega)
theorem allOf_near {t:List UInt8} {l:List AV} {i n:Nat} (hi:i < l.length) (I:NearInv t l (i+1) n):allOf (levsV t l) ((i+1:Nat):Int)=(List.range n).map fun k:Nat=>AV.int (nearV (levsV t l) (k:Int) (i+1)):=by
  have n2:=I.n2
  have hp:∀ k:Nat,k+1 < n→0 < nearV (levsV t l) (k:Int) (((i+1:Nat):Int)).toNat:=by
    intro k hk
    rw [Int.toNat_natCast]
    have a:=I.pos k hk
    have b:=nearV_nonneg (L:=levsV t l) (k:=(k:Int)) (by rw [lev0 (by omega)]; omega) (i+1) (by omega)
    omega
  have hl:nearV (levsV t l) ((n-1:Nat):Int) (((i+1:Nat):Int)).toNat=0:=by rw [Int.toNat_natCast]; exact I.last
  have:=allV_of (at_:=((i+1:Nat):Int)) n2 hp hl 257 0 [] 0 (by omega) (by have:=I.n1; omega) rfl rfl
  unfold allOf
  rw [if_neg (by omega),if_neg (by rw [levsV_len]; omega),this]
  simp only [Int.toNat_natCast]
theorem lvN_ge (x t:Nat):∀ j n:Nat,(n:Int)-1≤lvN x t j n
  | 0,n=>by simp only [lvN]; omega
  | j+1,n=>by
    simp only [lvN]
    have:=lvN_ge x t j (n+1)
    split <;> omega
theorem levelV_ok {id t:List UInt8} (h:okV id t=true):0≤levelV id t:=by
  have h1:natN id≤natN t:=of_decide_eq_true h
  unfold levelV
  have e:lvN (natN id) (natN t) 256 0=if natN t / 2^0 < natN id then ((0:Nat):Int)-1 else lvN (natN id) (natN t) 255 (0+1):=rfl
  rw [e,if_neg (by rw [Nat.pow_zero,Nat.div_one]; omega)]
  have:=lvN_ge (natN id) (natN t) 255 (0+1)
  omega
section
variable {gh:Int} {gl gt:List UInt8} {gn:Int} {t:List UInt8} {c1 c2 c3 c4 c5 c6:Int}
theorem chain_levels {l:List AV} (h:∀ k,k < l.length→blkErr gh gl gt gn t l k=0):∀ i,i < l.length→0≤levelV (idA ((nth l i).fld 0)) t:=by
  intro i hi
  have h1:=h i hi
  by_cases ha:ancV gh gl gt gn ((nth l i).fld 0) i=0
  · by_cases hf:formV (nth l i) i (vecV t l i)=0
    · rw [blkErr_o (eqI_t ha) (eqI_t hf)] at h1
      cases hk:okV (idA ((nth l i).fld 0)) t
      · rw [hk,not_f,cond_true] at h1; exact absurd h1 (by decide)
      · exact levelV_ok hk
    · rw [blkErr_f (eqI_t ha) (eqI_f hf)] at h1; exact absurd h1 hf
  · rw [blkErr_a (eqI_f ha)] at h1; exact absurd h1 ha
theorem chainV_zero' {l:List AV} (h:((chainV gh gl gt gn t l).fld 0).toInt=0):1≤l.length∧l.length≤1024∧∀ k,k < l.length→blkErr gh gl gt gn t l k=0:=by
  by_cases h0:l.length=0
  · unfold chainV at h
    rw [if_pos h0] at h
    exact absurd (show (6:Int)=0 from h) (by decide)
  by_cases h1:1024 < l.length
  · unfold chainV at h
    rw [if_neg h0,if_pos h1] at h
    exact absurd (show (4:Int)=0 from h) (by decide)
  rcases chainV_spec (gh:=gh) (gl:=gl) (gt:=gt) (gn:=gn) (t:=t) (l:=l) (by omega) (by omega) with ⟨h2,h3⟩ | ⟨k,h2,h3,h4,h5⟩
  · exact ⟨by omega,by omega,h3⟩
  · rw [h4] at h
    exact absurd (show blkErr gh gl gt gn t l k=0 from h) h3
end
end Go.Proofs.YteiahdlklppghaaGreat.Ev

namespace Go.Proofs.YteiahdlklppghaaGreat.Ev
open Go Go.RowKit
def farI (L:List AV) (x «to»:Nat):Int:=(farL (allOf L (x:Int)) («to»:Int) (allOf L (x:Int)).length 0 0 false).1
def walkL (L:List AV) («to»:Nat):Nat→Nat→List AV
  | 0,_=>[]
  | j+1,x=>if «to» < x then .int (farI L x «to»)::walkL L «to» j (farI L x «to»).toNat else []
def walkOk (L:List AV) (N «to»:Nat):Nat→List AV→Prop
  | x,[]=>x=«to»
  | x,a::r=>∃ y:Nat,a=.int (y:Int)∧y < x∧x < N∧(∃ q,q < (allOf L (x:Int)).length∧nth (allOf L (x:Int)) q=.int (y:Int))∧walkOk L N «to» y r
section
variable {t:List UInt8} {l:List AV}
theorem near_mem {x:Nat} (hok:∀ i,i < l.length→0≤levelV (idA ((nth l i).fld 0)) t) (h1:1≤x) (h2:x < l.length) :
    (∀ q,q < (allOf (levsV t l) (x:Int)).length→∃ y:Nat,nth (allOf (levsV t l) (x:Int)) q=.int (y:Int)∧y < x∧nth (vecV t l x) q=.blob (idA ((nth l y).fld 0)))∧(allOf (levsV t l) (x:Int)).length=(vecV t l x).length∧0 < (allOf (levsV t l) (x:Int)).length∧nth (allOf (levsV t l) (x:Int)) 0=.int ((x-1:Nat):Int):=by
  obtain ⟨i,rfl⟩:∃ i,x=i+1:=⟨x-1,by omega⟩
  obtain ⟨n,I⟩:=nearInv hok i (by omega)
  have ea:=allOf_near (by omega) I
  have n2:=I.n2
  have n1:=I.n1
  have hlen:(allOf (levsV t l) ((i+1:Nat):Int)).length=n:=by rw [ea]; simp
  refine ⟨fun q hq=>?_,by rw [hlen,I.len],by omega,?_⟩
  · rw [hlen] at hq
    have b:=nearV_nonneg (L:=levsV t l) (k:=(q:Int)) (by rw [lev0 (by omega)]; omega) (i+1) (by omega)
    have c:=nearV_le (levsV t l) (q:Int) (i+1)
    refine ⟨(nearV (levsV t l) (q:Int) (i+1)).toNat,?_,by omega,I.ent q hq⟩
    rw [ea,nth_range hq,show (((nearV (levsV t l) (q:Int) (i+1)).toNat:Nat):Int)=nearV (levsV t l) (q:Int) (i+1) by omega]
  · rw [ea,nth_range (by omega),Nat.add_sub_cancel]
    have hl:((0:Nat):Int)≤(nth (levsV t l) i).toInt:=by
      by_cases h0:i=0
      · subst h0; rw [lev0 (by omega)]; omega
      · rw [levI (by omega) h0]; exact hok i (by omega)
    rw [show nearV (levsV t l) ((0:Nat):Int) (i+1)=if ((0:Nat):Int)≤(nth (levsV t l) i).toInt then (i:Int) else nearV (levsV t l) ((0:Nat):Int) i from rfl,if_pos hl]
theorem far_fact {x «to»:Nat} (hok:∀ i,i < l.length→0≤levelV (idA ((nth l i).fld 0)) t) (h1:«to» < x) (h2:x < l.length) :
    (farL (allOf (levsV t l) (x:Int)) («to»:Int) (allOf (levsV t l) (x:Int)).length 0 0 false).2=true∧∃ y:Nat,farI (levsV t l) x «to»=(y:Int)∧«to»≤y∧y < x∧∃ q,q < (allOf (levsV t l) (x:Int)).length∧nth (allOf (levsV t l) (x:Int)) q=.int (y:Int):=by
  obtain ⟨m1,m2,m3,m4⟩:=near_mem hok (by omega) h2
  have hs:(farL (allOf (levsV t l) (x:Int)) («to»:Int) (allOf (levsV t l) (x:Int)).length 0 0 false).2=true:=by
    obtain ⟨N,hN⟩:∃ N,(allOf (levsV t l) (x:Int)).length=N+1:=⟨(allOf (levsV t l) (x:Int)).length-1,by omega⟩
    rw [hN]
    simp only [farL]
    rw [m4]
    show (bif leI («to»:Int) ((x-1:Nat):Int) then _ else _:Int × Bool).2=true
    rw [leI_t (by omega),cond_true,not_f,cond_true]
    exact farL_true _ _ _ _ _
  refine ⟨hs,?_⟩
  have:=farL_spec (allOf (levsV t l) (x:Int)) («to»:Int) (fun b=>∃ y:Nat,b=(y:Int)∧«to»≤y∧y < x∧∃ q,q < (allOf (levsV t l) (x:Int)).length∧nth (allOf (levsV t l) (x:Int)) q=.int (y:Int)) (fun q hq hle=>by
    obtain ⟨y,e1,e2,_⟩:=m1 q hq
    rw [e1] at hle ⊢
    have hle':(«to»:Int)≤(y:Int):=hle
    exact ⟨y,rfl,by omega,e2,q,hq,e1⟩) (allOf (levsV t l) (x:Int)).length 0 0 false (by omega) (fun h=>by cases h) hs
  exact this
theorem walkL_ok (hok:∀ i,i < l.length→0≤levelV (idA ((nth l i).fld 0)) t) {«to»:Nat}:∀ j x,x≤j+«to»→«to»≤x→x < l.length→walkOk (levsV t l) l.length «to» x (walkL (levsV t l) «to» j x)
  | 0,x,h1,h2,_=>by show x=«to»; omega
  | j+1,x,h1,h2,h3=>by
    simp only [walkL]
    by_cases h:«to» < x
    · rw [if_pos h]
      obtain ⟨_,y,e1,e2,e3,e4⟩:=far_fact hok h h3
      rw [e1,Int.toNat_natCast]
      exact ⟨y,rfl,e3,h3,e4,walkL_ok hok j y (by omega) e2 (by omega)⟩
    · rw [if_neg h]; show x=«to»; omega
theorem walkL_len (L:List AV) («to»:Nat):∀ j x,(walkL L «to» j x).length≤j
  | 0,_=>by simp [walkL]
  | j+1,x=>by
    simp only [walkL]
    split
    · have:=walkL_len L «to» j (farI L x «to»).toNat
      simp; omega
    · simp
theorem walkOk_at {L:List AV} {N «to»:Nat}:∀ {r:List AV} {x:Nat},walkOk L N «to» x r→(∀ i,i < r.length→∃ a b:Nat,nth (.int (x:Int)::r) i=.int (a:Int)∧nth (.int (x:Int)::r) (i+1)=.int (b:Int)∧b < a∧a < N∧∃ q,q < (allOf L (a:Int)).length∧nth (allOf L (a:Int)) q=.int (b:Int))∧nth (.int (x:Int)::r) r.length=.int («to»:Int)
  | [],x,h=>⟨fun i hi=>by simp at hi,by
      have h':x=«to»:=h
      rw [h']; rfl⟩
  | a::r,x,h=>by
    obtain ⟨y,rfl,e2,e3,e4,e5⟩:=h
    obtain ⟨h1,h2⟩:=walkOk_at e5
    refine ⟨fun i hi=>?_,h2⟩
    match i,hi with
    | 0,_=>exact ⟨x,y,rfl,rfl,e2,e3,e4⟩
    | i+1,hi=>exact h1 i (by simp at hi; omega)
theorem idxV_found {A:List AV} {«to»:Int}:∀ j i,i+j=A.length→(∃ q,i≤q∧q < A.length∧(nth A q).toInt=«to»)→∃ q:Nat,idxV A «to» j i=(q:Int)∧q < A.length∧(nth A q).toInt=«to»
  | 0,i,h,⟨q,q1,q2,_⟩=>by omega
  | j+1,i,h,⟨q,q1,q2,q3⟩=>by
    simp only [idxV]
    by_cases hc:(nth A i).toInt=«to»
    · rw [if_pos hc]; exact ⟨i,rfl,by omega,hc⟩
    · rw [if_neg hc]
      refine idxV_found j (i+1) (by omega) ⟨q,?_,q2,q3⟩
      by_cases he:q=i
      · rw [he] at q3; exact absurd q3 hc
      · omega
end
section
variable {gh:Int} {gl gt:List UInt8} {gn:Int} {t:List UInt8} {c1 c2 c3 c4 c5 c6:Int}
end
end Go.Proofs.YteiahdlklppghaaGreat.Ev

namespace Go.Proofs.YteiahdlklppghaaGreat.Ev
open Go Go.RowKit
section
variable {B:List AV} {m a b:Int}
theorem pickSt_mono:∀ (j:Nat) (s:Int) (T:Nat→Bool) (p:Nat),T p=true→pickSt B m a b j s T p=true
  | 0,_,_,_,h=>h
  | j+1,s,T,p,h=>pickSt_mono j _ _ p (by unfold takeT; rw [h]; rfl)
theorem pickSt_stage:∀ (j:Nat) (s:Int) (T:Nat→Bool) (p:Nat),pickSt B m a b j s T p=true→T p=true∨∃ lv s0:Nat,lv < j∧s0≤p∧(lv:Int)≤lev B p∧∀ x:Nat,s0≤x→(lv:Int)≤lev B x→pickSt B m a b j s T x=true
  | 0,_,_,_,h=>.inl h
  | j+1,s,T,p,h=>by
    have h':pickSt B m a b j (beginV B s (j:Int) m a b) (takeT B s (j:Int) T) p=true:=h
    rcases pickSt_stage j _ _ p h' with h1 | ⟨lv,s0,h1,h2,h3,h4⟩
    · unfold takeT at h1
      rw [Bool.or_eq_true,Bool.and_eq_true,decide_eq_true_iff,decide_eq_true_iff] at h1
      rcases h1 with h1 | ⟨h1,h2⟩
      · exact .inl h1
      · refine .inr ⟨j,s.toNat,by omega,h1,h2,fun x hx hl=>?_⟩
        refine pickSt_mono j _ _ x ?_
        unfold takeT
        rw [decide_eq_true hx,decide_eq_true hl,Bool.and_true,Bool.or_true]
    · exact .inr ⟨lv,s0,by omega,h2,h3,fun x hx hl=>h4 x hx hl⟩
theorem beginV_lt {L:List AV} {s lv:Int} (h0:0≤s) (h1:s < L.length):0≤beginV L s lv m a b∧beginV L s lv m a b < L.length:=by
  unfold beginV
  by_cases hc:m < 1∨((hitL L s.toNat lv).length:Int)≤m∨s < 0
  · rw [if_pos hc]; exact ⟨h0,h1⟩
  · rw [if_neg hc]
    cases goodV (L.drop s.toNat) lv m a b with
    | false=>exact ⟨h0,h1⟩
    | true =>
      obtain ⟨p,e,p1,p2,_⟩:=hitL_at (L:=L) (s:=s.toNat) (lv:=lv) (i:=(hitL L s.toNat lv).length-m.toNat) (by omega)
      rw [cond_true,e,toInt_i]
      omega
theorem pickSt_last (hl:0≤lev B (B.length-1)):∀ (j:Nat) (s:Int) (T:Nat→Bool),0≤s→s < B.length→pickSt B m a b (j+1) s T (B.length-1)=true
  | 0,s,T,h0,h1=>by
    show takeT B s ((0:Nat):Int) T (B.length-1)=true
    unfold takeT
    rw [decide_eq_true (show s.toNat≤B.length-1 by omega),decide_eq_true (show ((0:Nat):Int)≤lev B (B.length-1) from hl),Bool.and_true,Bool.or_true]
  | j+1,s,T,h0,h1=>by
    have h:=beginV_lt (m:=m) (a:=a) (b:=b) (lv:=((j+1:Nat):Int)) h0 h1
    exact pickSt_last hl j _ _ h.1 h.2
theorem pickSt_first {j:Nat} (h:(j:Int)≤lev B 0) (T:Nat→Bool):pickSt B m a b (j+1) 0 T 0=true:=by
  refine pickSt_mono j _ _ 0 ?_
  unfold takeT
  rw [decide_eq_true (show (0:Int).toNat≤0 by decide),decide_eq_true h,Bool.and_true,Bool.or_true]
end
def fil (N:Nat) (T:Nat→Bool):List Nat:=(List.range N).filter T
theorem fil_mem {N:Nat} {T:Nat→Bool} {p:Nat}:p∈fil N T ↔ p < N∧T p=true:=by unfold fil; simp
theorem fil_lt {N:Nat} {T:Nat→Bool} {i j:Nat} (hi:i < (fil N T).length) (hj:j < (fil N T).length) (h:i < j):(fil N T)[i] < (fil N T)[j]:=by
  have:(fil N T).Pairwise (· < ·):=List.Pairwise.filter _ List.pairwise_lt_range
  exact List.pairwise_iff_getElem.1 this i j hi hj h
theorem fil_next {N:Nat} {T:Nat→Bool} {i:Nat} (hi:i+1 < (fil N T).length) (x:Nat) (h1:(fil N T)[i] < x) (h2:x < (fil N T)[i+1]):T x=false:=by
  cases hT:T x with
  | false=>rfl
  | true =>
    have hN:=(fil_mem.1 (List.getElem_mem hi)).1
    obtain ⟨k,hk,e⟩:=List.mem_iff_getElem.1 (fil_mem.2 ⟨show x < N by omega,hT⟩)
    rcases Nat.lt_trichotomy k i with h | h | h
    · have:=fil_lt hk (by omega) h; omega
    · subst h; omega
    · by_cases h':k=i+1
      · subst h'; omega
      · have:=fil_lt hi hk (by omega); omega
theorem fil_first {N:Nat} {T:Nat→Bool} (hN:0 < N) (h:T 0=true):∃ h0:0 < (fil N T).length,(fil N T)[0]=0:=by
  obtain ⟨k,hk,e⟩:=List.mem_iff_getElem.1 (fil_mem.2 ⟨hN,h⟩)
  refine ⟨by omega,?_⟩
  by_cases h0:k=0
  · subst h0; exact e
  · have:=fil_lt (show 0 < (fil N T).length by omega) hk (by omega); omega
theorem fil_last {N:Nat} {T:Nat→Bool} (hN:0 < N) (h:T (N-1)=true):∃ h0:(fil N T).length-1 < (fil N T).length,(fil N T)[(fil N T).length-1]=N-1:=by
  obtain ⟨k,hk,e⟩:=List.mem_iff_getElem.1 (fil_mem.2 ⟨show N-1 < N by omega,h⟩)
  refine ⟨by omega,?_⟩
  have hm:=(fil_mem.1 (List.getElem_mem (show (fil N T).length-1 < (fil N T).length by omega))).1
  by_cases h0:k=(fil N T).length-1
  · subst h0; exact e
  · have:=fil_lt hk (show (fil N T).length-1 < (fil N T).length by omega) (by omega); omega
theorem near_at {L:List AV} {lv:Int} {p:Nat} (hl:lv≤(nth L p).toInt):∀ q:Nat,p < q→(∀ x,p < x→x < q→(nth L x).toInt < lv)→nearV L lv q=(p:Int)
  | 0,h,_=>by omega
  | q+1,h,hx=>by
    simp only [nearV]
    by_cases e:q=p
    · subst e; rw [if_pos hl]
    · rw [if_neg (by have:=hx q (by omega) (by omega); omega)]
      exact near_at hl q (by omega) (fun x h1 h2=>hx x h1 (by omega))
section
variable {t:List UInt8} {l:List AV}
theorem all_has (hok:∀ i,i < l.length→0≤levelV (idA ((nth l i).fld 0)) t) {p q lv:Nat} (hq:q < l.length) (_:lv≤255) (h1:1≤q) (h:nearV (levsV t l) (lv:Int) q=(p:Int)) :
    ∃ k,k < (allOf (levsV t l) (q:Int)).length∧nth (allOf (levsV t l) (q:Int)) k=.int (p:Int):=by
  obtain ⟨i,rfl⟩:∃ i,q=i+1:=⟨q-1,by omega⟩
  obtain ⟨n,I⟩:=nearInv hok i (by omega)
  have ea:=allOf_near (by omega) I
  have n1:=I.n1
  have hlen:(allOf (levsV t l) ((i+1:Nat):Int)).length=n:=by rw [ea]; simp
  by_cases hn:lv < n
  · exact ⟨lv,by omega,by rw [ea,nth_range hn,h]⟩
  · refine ⟨n-1,by omega,?_⟩
    have c1:=nearV_anti (L:=levsV t l) (k:=((n-1:Nat):Int)) (m:=(lv:Int)) (by omega) (i+1)
    rw [I.last,h] at c1
    rw [ea,nth_range (show n-1 < n by omega),I.last,show p=0 by omega]
    rfl
structure Picked (t:List UInt8) (l:List AV) (N:Nat) (P:List AV):Prop where
  len:1≤P.length
  le:P.length≤N
  first:nth P 0=.int 0
  last:nth P (P.length-1)=.int ((N-1:Nat):Int)
  at_:∀ i,i < P.length→∃ p:Nat,nth P i=.int (p:Int)∧p < N
  next:∀ i p q:Nat,i+1 < P.length→nth P i=.int (p:Int)→nth P (i+1)=.int (q:Int)→p < q∧∃ k,k < (allOf (levsV t l) (q:Int)).length∧nth (allOf (levsV t l) (q:Int)) k=.int (p:Int)
theorem pickL_nth {N:Nat} {T:Nat→Bool} {i:Nat} (h:i < (fil N T).length):nth (pickL N T) i=.int (((fil N T)[i]:Nat):Int):=by
  unfold pickL nth
  rw [List.getD_eq_getElem?_getD,List.getElem?_map]
  rw [show ((List.range N).filter T)[i]?=some (fil N T)[i] from List.getElem?_eq_getElem h]
  rfl
theorem picked {m k a b:Int} (hok:∀ i,i < l.length→0≤levelV (idA ((nth l i).fld 0)) t) (hM:mayP m k a b=true) (hk:k < l.length) (h24:l.length≤1024):Picked t l (l.length-k.toNat) (pickV (levsV t l) m k a b):=by
  have hM':=hM
  unfold mayP at hM'
  rw [Bool.and_eq_true,decide_eq_true_iff] at hM'
  obtain ⟨⟨_,_,k1,k2⟩,_⟩:=hM'
  have hLl:=levsV_len t l
  have hNl:l.length-k.toNat≤l.length:=Nat.sub_le _ _
  generalize hN:l.length-k.toNat=N at *
  have hN1:1≤N:=by omega
  generalize hB:(levsV t l).take N=B
  have hBl:B.length=N:=by rw [← hB,List.length_take]; omega
  have hlev:∀ x,x < N→lev B x=lev (levsV t l) x:=by
    intro x hx
    rw [← hB]
    unfold lev nth
    rw [List.getD_eq_getElem?_getD,List.getD_eq_getElem?_getD,List.getElem?_take,if_pos hx]
  have hpos:∀ x,x < N→0≤lev B x:=by
    intro x hx
    rw [hlev x hx]
    by_cases h0:x=0
    · subst h0
      rw [show lev (levsV t l) 0=256 from lev0 (by omega)]; omega
    · rw [show lev (levsV t l) x=_ from levI (by omega) h0]; exact hok x (by omega)
  have ht:=topLv_in B
  have e:pickV (levsV t l) m k a b=pickL N (pickSt B m a b ((topLv B).toNat+1) 0 (fun _=>false)):=by
    unfold pickV
    rw [hM,not_t,cond_false,if_neg (by omega),if_neg (by omega),hLl,hN,hB]
  rw [e]
  generalize hT:pickSt B m a b ((topLv B).toNat+1) 0 (fun _=>false)=T
  have hfirst:T 0=true:=by
    rw [← hT]
    refine pickSt_first ?_ _
    rw [hlev 0 (by omega),show lev (levsV t l) 0=256 from lev0 (by omega)]
    omega
  have hlast:T (N-1)=true:=by
    rw [← hT,← hBl]
    exact pickSt_last (by rw [hBl]; exact hpos _ (by omega)) _ _ _ (by omega) (by omega)
  obtain ⟨f0,f1⟩:=fil_first hN1 hfirst
  obtain ⟨l0,l1⟩:=fil_last hN1 hlast
  have hlenP:(pickL N T).length=(fil N T).length:=by unfold pickL fil; rw [List.length_map]
  refine ⟨by omega,pickL_len N T,?_,?_,?_,?_⟩
  · rw [pickL_nth f0,f1]; rfl
  · rw [hlenP,pickL_nth l0,l1]
  · intro i hi
    rw [hlenP] at hi
    exact ⟨(fil N T)[i],pickL_nth hi,(fil_mem.1 (List.getElem_mem hi)).1⟩
  · intro i p q hi hp hq
    rw [hlenP] at hi
    rw [pickL_nth (show i < (fil N T).length by omega)] at hp
    rw [pickL_nth hi] at hq
    have ep:(fil N T)[i]=p:=by injection hp with hp; omega
    have eq_:(fil N T)[i+1]=q:=by injection hq with hq; omega
    have hlt:=fil_lt (show i < (fil N T).length by omega) hi (by omega)
    have mp:=fil_mem.1 (List.getElem_mem (show i < (fil N T).length by omega))
    have mq:=fil_mem.1 (List.getElem_mem hi)
    have hbet:=fil_next hi
    rw [ep] at hlt mp hbet
    rw [eq_] at hlt mq hbet
    refine ⟨hlt,?_⟩
    have hst:=mp.2
    rw [← hT] at hst
    rcases pickSt_stage _ _ _ _ hst with h | ⟨lv,s0,g1,g2,g3,g4⟩
    · cases h
    rw [hT] at g4
    refine all_has hok (lv:=lv) (by omega) (by omega) (by omega) (near_at (by rw [hlev p mp.1] at g3; exact g3) q hlt (fun x h1 h2=>?_))
    have hf:=hbet x h1 h2
    have:¬ (lv:Int)≤lev B x:=fun hc=>by
      have:=g4 x (by omega) hc
      rw [hf] at this; cases this
    rw [hlev x (by omega)] at this
    show lev (levsV t l) x < lv
    omega
end
section
variable {gh:Int} {gl gt:List UInt8} {gn:Int} {t:List UInt8} {m k a b c5 c6:Int}
end
end Go.Proofs.YteiahdlklppghaaGreat.Ev

namespace Go.Proofs.YteiahdlklppghaaGreat.Ev
open Go Go.RowKit
abbrev noOpen:AV:=.agg [.int 0,.int 0,.slice []]
def stepAt (y o:AV):AV:=.agg [.agg [.int ((y.fld 0).fld 0).toInt,.blob ((y.fld 0).fld 1).toBlob,.blob ((y.fld 0).fld 2).toBlob,.int ((y.fld 0).fld 3).toInt],.agg [.int (o.fld 0).toInt,.int (o.fld 1).toInt,.slice (o.fld 2).toSlice]]
def idxP (t:List UInt8) (l ps:List AV) (i:Nat):Int:=idxV (allOf (levsV t l) (nth ps i).toInt) (nth ps (i-1)).toInt (allOf (levsV t l) (nth ps i).toInt).length 0
def vecP (t:List UInt8) (l ps:List AV) (i:Nat):List AV:=vecV t l (min (nth ps i).toInt.toNat l.length)
def opP (t:List UInt8) (l ps:List AV) (i:Nat):List AV:=openV (linkT (vecP t l ps i)) (idxP t l ps i)
def proveL (t:List UInt8) (l ps:List AV):Nat→Nat→List AV→List AV
  | 0,_,acc=>[.slice acc,.int 0]
  | j+1,i,acc =>
    bif ltI (nth ps i).toInt 0 then [.slice [],.int 15] else bif leI (l.length:Int) (nth ps i).toInt then [.slice [],.int 15] else
    bif ltI 0 (i:Int) then
      (bif ltI (idxP t l ps i) 0 then [.slice [],.int 10] else bif !(eqI (nth (opP t l ps i) 1).toInt 0) then [.slice [],.int (nth (opP t l ps i) 1).toInt]
       else proveL t l ps j (i+1) (acc++[stepAt (nth l (nth ps i).toInt.toNat) (nth (opP t l ps i) 0)]))
    else proveL t l ps j (i+1) (acc++[stepAt (nth l (nth ps i).toInt.toNat) noOpen])
theorem vecP_len (t:List UInt8) (l ps:List AV) (i:Nat):(vecP t l ps i).length≤257:=vecV_len _ _ _
theorem opP_form (t:List UInt8) (l ps:List AV) (i:Nat):∃ (a b:Int) (p:List AV) (e:Int),opP t l ps i=[.agg [.int a,.int b,.slice p],.int e]∧p.length≤257:=by
  obtain ⟨a,b,p,e,h,_,h2⟩:=openV_form (linkT (vecP t l ps i)) (idxP t l ps i)
  rw [linkT_len] at h2
  exact ⟨a,b,p,e,h,Nat.le_trans h2 (vecP_len t l ps i)⟩
def PathsS (m:List AV):Prop:=∀ i,i < m.length→(((nth m i).fld 1).fld 2).toSlice.length≤1000
theorem pathsS_snoc {m:List AV} {y:AV} (h:PathsS m) (hy:((y.fld 1).fld 2).toSlice.length≤1000):PathsS (m++[y]):=by
  intro i hi
  by_cases hlt:i < m.length
  · have e:nth (m++[y]) i=nth m i:=by rw [nth_lt hi,nth_lt hlt,List.getElem_append_left hlt]
    rw [e]; exact h i hlt
  · rw [List.length_append] at hi
    have e:nth (m++[y]) i=y:=by
      obtain rfl:i=m.length:=by simp at hi; omega
      rw [nth_lt (by simp),List.getElem_append_right (Nat.le_refl _)]; simp
    rw [e]; exact hy
theorem proveL_form (t:List UInt8) (l ps:List AV):∀ j i acc,PathsS acc→∃ m e,proveL t l ps j i acc=[.slice m,.int e]∧PathsS m∧m.length≤acc.length+j
  | 0,_,acc,h=>⟨acc,0,rfl,h,Nat.le_refl _⟩
  | j+1,i,acc,h=>by
    have hn:PathsS ([]:List AV):=fun i hi=>by simp at hi
    obtain ⟨a,b,p,e,hf,hp⟩:=opP_form t l ps i
    simp only [proveL]
    rw [hf]
    cases ltI (nth ps i).toInt 0
    · rw [cond_false]
      cases leI (l.length:Int) (nth ps i).toInt
      · rw [cond_false]
        cases ltI 0 (i:Int)
        · rw [cond_false]
          obtain ⟨m,e',h1,h2,h3⟩:=proveL_form t l ps j (i+1) (acc++[stepAt (nth l (nth ps i).toInt.toNat) noOpen]) (pathsS_snoc h (by show ([]:List AV).length≤1000; simp))
          exact ⟨m,e',h1,h2,by simp at h3; omega⟩
        · rw [cond_true]
          cases ltI (idxP t l ps i) 0
          · rw [cond_false]
            cases (!(eqI (nth [AV.agg [.int a,.int b,.slice p],.int e] 1).toInt 0))
            · rw [cond_false]
              obtain ⟨m,e',h1,h2,h3⟩:=proveL_form t l ps j (i+1) (acc++[stepAt (nth l (nth ps i).toInt.toNat) (nth [AV.agg [.int a,.int b,.slice p],.int e] 0)]) (pathsS_snoc h (by show p.length≤1000; omega))
              exact ⟨m,e',h1,h2,by simp at h3; omega⟩
            · exact ⟨[],_,rfl,hn,by simp⟩
          · exact ⟨[],_,rfl,hn,by simp⟩
      · exact ⟨[],_,rfl,hn,by simp⟩
    · exact ⟨[],_,rfl,hn,by simp⟩
section
variable {t:List UInt8} {l ps:List AV}
theorem proveSteps_runs (ht:t.length=32) (hl:l.length≤1000) (hh:Heads l) (hp:ps.length≤1000):RunsX 23 [.blob t,.slice l,.slice ps] ⟨proveL t l ps ps.length 0 [],[],false⟩:=by
  have hall:=Evt.all ps.length fun i (_:i < ps.length)=>(idxU_runs (l:=levsV t l) (at_:=(nth ps i).toInt) («to»:=(nth ps (i-1)).toInt) (by rw [levsV_len,maxLen_eq]; omega)).and
    (linkOpen_runs (v:=vecP t l ps i) (i:=idxP t l ps i) (Nat.le_trans (vecP_len t l ps i) (by omega)) (vecV_blob _ _ _))
  refine Evt.succ ((((levels_runs (t:=t) (l:=l) ht (by omega) hh).and (vectors_runs (t:=t) (l:=l) ht (by omega) hh)).and (hall.and (Evt.ge (ps.length+2)))).mono fun n hn=>?_)
  obtain ⟨⟨g1,g2⟩,g3,g4⟩:=hn
  have key:∀ (j k i:Nat) (acc:List AV),i+j=ps.length→j < k→acc.length≤i→f23_l0 (runE G ext n) n k l ps (levsV t l) (vecsV t l (l.length+1)) acc ps (ps.length:Int) (i:Int)=some ⟨proveL t l ps j i acc,[],false⟩:=by
    intro j
    induction j with
    | zero =>
      intro k i acc hi hk _
      obtain ⟨k,rfl⟩:∃ j,k=j+1:=⟨k-1,by omega⟩
      rw [f23_l0_eq,ltI_f (by omega)]; rfl
    | succ j ih =>
      intro k i acc hi hk ha
      obtain ⟨k,rfl⟩:∃ j,k=j+1:=⟨k-1,by omega⟩
      obtain ⟨e1,e2⟩:=g3 i (by omega)
      obtain ⟨a,b,p,e,hf,hp⟩:=opP_form t l ps i
      have iA:=ih k (i+1) (acc++[stepAt (nth l (nth ps i).toInt.toNat) (nth (opP t l ps i) 0)]) (by omega) (by omega) (by simp; omega)
      have iB:=ih k (i+1) (acc++[stepAt (nth l (nth ps i).toInt.toNat) noOpen]) (by omega) (by omega) (by simp; omega)
      rw [show ((i+1:Nat):Int)=(i:Int)+1 by omega] at iA iB
      have e2':runE G ext n 45 [.slice (vecP t l ps i),.int (idxP t l ps i)]=some ⟨opP t l ps i,[],false⟩:=e2
      have e1':runE G ext n 44 [.slice (levsV t l),.int (nth ps i).toInt,.int (nth ps (i-1)).toInt]=some ⟨[.int (idxP t l ps i)],[],false⟩:=e1
      have nb:Nat.ble ((acc.length+1)*120) 140737488355328=true:=Nat.ble_eq_true_of_le (by omega)
      simp only [proveL]
      rw [f23_l0_eq,ltI_t (a:=(i:Int)) (b:=(ps.length:Int)) (by omega),cond_true,inR_nat (by omega),cond_true,Int.toNat_natCast,w64 (x:=(i:Int)+1) (by omega) (by omega),nb]
      by_cases h1:(nth ps i).toInt < 0
      · rw [ltI_t h1]; rfl
      rw [ltI_f h1,cond_false,cond_false]
      by_cases h2:(l.length:Int)≤(nth ps i).toInt
      · rw [leI_t h2]; rfl
      rw [leI_f h2,cond_false,cond_false,inR_int (by omega) (by omega),cond_true]
      by_cases h0:i=0
      · rw [ltI_f (a:=0) (b:=(i:Int)) (by omega),cond_false,cond_false,cond_true]
        exact iB
      · rw [ltI_t (a:=0) (b:=(i:Int)) (by omega),cond_true,cond_true,w64 (x:=(i:Int)-1) (by omega) (by omega),show (i:Int)-1=((i-1:Nat):Int) by omega,inR_nat (by omega),cond_true,Int.toNat_natCast,e1',step1,toInt_i]
        have hv:(nth (vecsV t l (l.length+1)) (nth ps i).toInt.toNat).toSlice=vecP t l ps i:=by
          rw [vecsV_nth t l (by omega)]
          unfold vecP
          rw [show min (nth ps i).toInt.toNat l.length=(nth ps i).toInt.toNat by omega]
          rfl
        rw [hv,vecsV_len,inR_int (i:=(nth ps i).toInt) (n:=l.length+1) (by omega) (by omega),cond_true,e2']
        rw [hf] at iA ⊢
        rw [step2,toInt_i,cond_true]
        cases ltI (idxP t l ps i) 0
        · rw [cond_false,cond_false]
          change (bif !(eqI e 0) then _ else _)=some (⟨bif !(eqI e 0) then _ else _,[],false⟩:Res)
          cases eqI e 0
          · rfl
          · rw [not_t,cond_false,cond_false]
            exact iA
        · rfl
  rw [f23_run,f23_eq,g1,step1f,toSlice_s,g2,step1f,toSlice_s]
  exact key ps.length n 0 [] (by omega) (by omega) (by simp)
theorem refSteps_runs (ht:t.length=32) (hl:l.length≤1000) (hh:Heads l) (hp:ps.length≤1000):RunsX 24 [.blob t,.slice l,.slice ps] ⟨proveL t l ps ps.length 0 [],[],false⟩:=by
  have hall:=Evt.all ps.length fun i (_:i < ps.length)=>((idxR_runs (l:=levsV t l) (at_:=(nth ps i).toInt) («to»:=(nth ps (i-1)).toInt) (by rw [levsV_len,maxLen_eq]; omega)).and
    (rule_runs (t:=t) (l:=l) (i:=min (nth ps i).toInt.toNat l.length) (by omega) (by omega))).and
    ((refLinkTexts_runs (l:=vecP t l ps i) (Nat.le_trans (vecP_len t l ps i) (by omega)) (vecV_blob _ _ _)).and
     (refOpen_runs (l:=linkT (vecP t l ps i)) (i:=idxP t l ps i) (by rw [linkT_len]; exact Nat.le_trans (vecP_len t l ps i) (by omega)) (linkT_short (vecV_blob _ _ _))))
  refine Evt.succ ((((refBIds_runs (l:=l) (by omega) hh).and (refLevels_runs (t:=t) (l:=l) ht (by omega))).and (hall.and (Evt.ge (ps.length+2)))).mono fun n hn=>?_)
  obtain ⟨⟨g1,g2⟩,g3,g4⟩:=hn
  have key:∀ (j k i:Nat) (acc:List AV),i+j=ps.length→j < k→acc.length≤i→f24_l0 (runE G ext n) n k l ps (idsV l) (levsV t l) acc (i:Int)=some ⟨proveL t l ps j i acc,[],false⟩:=by
    intro j
    induction j with
    | zero =>
      intro k i acc hi hk _
      obtain ⟨k,rfl⟩:∃ j,k=j+1:=⟨k-1,by omega⟩
      rw [f24_l0_eq,ltI_f (by omega)]; rfl
    | succ j ih =>
      intro k i acc hi hk ha
      obtain ⟨k,rfl⟩:∃ j,k=j+1:=⟨k-1,by omega⟩
      obtain ⟨⟨e1,e2⟩,e3,e4⟩:=g3 i (by omega)
      obtain ⟨a,b,p,e,hf,hp⟩:=opP_form t l ps i
      have iA:=ih k (i+1) (acc++[stepAt (nth l (nth ps i).toInt.toNat) (nth (opP t l ps i) 0)]) (by omega) (by omega) (by simp; omega)
      have iB:=ih k (i+1) (acc++[stepAt (nth l (nth ps i).toInt.toNat) noOpen]) (by omega) (by omega) (by simp; omega)
      rw [show ((i+1:Nat):Int)=(i:Int)+1 by omega] at iA iB
      have e4':runE G ext n 47 [.slice (linkT (vecP t l ps i)),.int (idxP t l ps i)]=some ⟨opP t l ps i,[],false⟩:=e4
      have e1':runE G ext n 46 [.slice (levsV t l),.int (nth ps i).toInt,.int (nth ps (i-1)).toInt]=some ⟨[.int (idxP t l ps i)],[],false⟩:=e1
      have nb:Nat.ble ((acc.length+1)*120) 140737488355328=true:=Nat.ble_eq_true_of_le (by omega)
      simp only [proveL]
      rw [f24_l0_eq,ltI_t (a:=(i:Int)) (b:=(ps.length:Int)) (by omega),cond_true,inR_nat (by omega),cond_true,Int.toNat_natCast,w64 (x:=(i:Int)+1) (by omega) (by omega),nb]
      by_cases h1:(nth ps i).toInt < 0
      · rw [ltI_t h1]; rfl
      rw [ltI_f h1,cond_false,cond_false]
      by_cases h2:(l.length:Int)≤(nth ps i).toInt
      · rw [leI_t h2]; rfl
      rw [leI_f h2,cond_false,cond_false,inR_int (by omega) (by omega),cond_true]
      by_cases h0:i=0
      · rw [ltI_f (a:=0) (b:=(i:Int)) (by omega),cond_false,cond_false,cond_true]
        exact iB
      · have e2':runE G ext n 49 [.slice (idsV l),.slice (levsV t l),.int (nth ps i).toInt]=some ⟨[.slice (vecP t l ps i)],[],true⟩:=by
          rw [show ((min (nth ps i).toInt.toNat l.length:Nat):Int)=(nth ps i).toInt by omega] at e2
          exact e2
        rw [ltI_t (a:=0) (b:=(i:Int)) (by omega),cond_true,cond_true,w64 (x:=(i:Int)-1) (by omega) (by omega),show (i:Int)-1=((i-1:Nat):Int) by omega,inR_nat (by omega),cond_true,Int.toNat_natCast,e1',step1,toInt_i,e2',step1f,toSlice_s,e3,step1f,toSlice_s,e4']
        rw [hf] at iA ⊢
        rw [step2,toInt_i,cond_true]
        cases ltI (idxP t l ps i) 0
        · rw [cond_false,cond_false]
          change (bif !(eqI e 0) then _ else _)=some (⟨bif !(eqI e 0) then _ else _,[],false⟩:Res)
          cases eqI e 0
          · rfl
          · rw [not_t,cond_false,cond_false]
            exact iA
        · rfl
  rw [f24_run,f24_eq,g1,step1f,toSlice_s,g2,step1f,toSlice_s]
  exact key ps.length n 0 [] (by omega) (by omega) (by simp)
end
theorem sameStp_runs {y:AV} (hy:(((y.fld 1).fld 2).toSlice).length≤maxLen) :
    RunsX 30 [.agg [.agg [.int ((y.fld 0).fld 0).toInt,.blob ((y.fld 0).fld 1).toBlob,.blob ((y.fld 0).fld 2).toBlob,.int ((y.fld 0).fld 3).toInt],.agg [.int ((y.fld 1).fld 0).toInt,.int ((y.fld 1).fld 1).toInt,.slice ((y.fld 1).fld 2).toSlice]],.agg [.agg [.int ((y.fld 0).fld 0).toInt,.blob ((y.fld 0).fld 1).toBlob,.blob ((y.fld 0).fld 2).toBlob,.int ((y.fld 0).fld 3).toInt],.agg [.int ((y.fld 1).fld 0).toInt,.int ((y.fld 1).fld 1).toInt,.slice ((y.fld 1).fld 2).toSlice]]] ⟨[.bool true],[],false⟩:=by
  refine Evt.succ ((refSame_refl (a:=((y.fld 1).fld 0).toInt) (b:=((y.fld 1).fld 1).toInt) hy).mono fun n hn=>?_)
  rw [f30_run,f30_eq,eqI_t rfl,eqS_t rfl,eqS_t rfl,eqI_t rfl,show (true&&(true&&(true&&(true&&true))))=true from rfl,cond_true,hn,step1]
  rfl
theorem sameStps_runs {m:List AV} (hm:m.length≤10000000) (hp:PathsS m):RunsX 13 [.slice m,.slice m] ⟨[.bool true],[],false⟩:=by
  have hall:=Evt.all m.length fun i (hi:i < m.length)=>sameStp_runs (y:=nth m i) (by have:=hp i hi; rw [maxLen_eq]; omega)
  refine Evt.succ ((hall.and (Evt.ge (m.length+2))).mono fun n hn=>?_)
  have key:∀ (j k i:Nat),i+j=m.length→j < k→f13_l0 (runE G ext n) n k m m (i:Int)=some ⟨[.bool true],[],false⟩:=by
    intro j
    induction j with
    | zero =>
      intro k i hi hk
      obtain ⟨k,rfl⟩:∃ j,k=j+1:=⟨k-1,by omega⟩
      rw [f13_l0_eq,ltI_f (by omega)]; rfl
    | succ j ih =>
      intro k i hi hk
      obtain ⟨k,rfl⟩:∃ j,k=j+1:=⟨k-1,by omega⟩
      have ih':=ih k (i+1) (by omega) (by omega)
      rw [show ((i+1:Nat):Int)=(i:Int)+1 by omega] at ih'
      rw [f13_l0_eq,ltI_t (by omega),cond_true,inR_nat (by omega),cond_true,cond_true,Int.toNat_natCast,hn.1 i (by omega),step1,toBool_b,not_t,cond_false,w64 (by omega) (by omega),ih']
  rw [f13_run,f13_eq,eqI_t rfl,not_t,cond_false]
  exact key m.length n 0 (by omega) (by omega)
end Go.Proofs.YteiahdlklppghaaGreat.Ev

namespace Go.Proofs.YteiahdlklppghaaGreat.Ev
open Go Go.RowKit
def hgt (y:AV):Int:=((y.fld 0).fld 0).toInt
section
variable {gh:Int} {gl gt:List UInt8} {gn:Int} {t:List UInt8} {c1 c2 c3 c4 c5 c6:Int}
end
end Go.Proofs.YteiahdlklppghaaGreat.Ev

namespace Go.Proofs.YteiahdlklppghaaGreat.Ev
open Go Go.RowKit
structure BlkOk (t:List UInt8) (l:List AV) (i:Nat):Prop where
  height:(((nth l i).fld 0).fld 0).toInt=(i:Int)
  links:(((nth l i).fld 0).fld 1).toBlob=linkR (vecV t l i)
  roots:(((nth l i).fld 0).fld 2).toBlob=txR (((nth l i).fld 1).toSlice)
  txs:mayV (((nth l i).fld 1).toSlice)=0
  ok:okV (idA ((nth l i).fld 0)) t=true
section
variable {gh:Int} {gl gt:List UInt8} {gn:Int} {t:List UInt8} {l:List AV}
theorem blk_ok {i:Nat} (h:blkErr gh gl gt gn t l i=0):BlkOk t l i:=by
  by_cases ha:ancV gh gl gt gn ((nth l i).fld 0) i=0
  · by_cases hf:formV (nth l i) i (vecV t l i)=0
    · rw [blkErr_o (eqI_t ha) (eqI_t hf)] at h
      have hk:okV (idA ((nth l i).fld 0)) t=true:=by
        cases hk:okV (idA ((nth l i).fld 0)) t
        · rw [hk,not_f,cond_true] at h; exact absurd h (by decide)
        · rfl
      unfold formV checkV at hf
      by_cases h1:(((nth l i).fld 0).fld 0).toInt=(i:Int)
      · rw [eqI_t h1,cond_true] at hf
        by_cases h2:mayV (((nth l i).fld 1).toSlice)=0
        · rw [eqI_t h2,cond_true] at hf
          cases hc:eqS (linkR (vecV t l i)) (((nth l i).fld 0).fld 1).toBlob&&eqS (txR (((nth l i).fld 1).toSlice)) (((nth l i).fld 0).fld 2).toBlob with
          | false=>rw [hc,cond_false] at hf; exact absurd hf (by decide)
          | true =>
            rw [Bool.and_eq_true] at hc
            exact ⟨h1,(eqS_iff.1 hc.1).symm,(eqS_iff.1 hc.2).symm,h2,hk⟩
        · rw [eqI_f h2,cond_false] at hf; exact absurd hf h2
      · rw [eqI_f h1,cond_false] at hf; exact absurd hf (by decide)
    · rw [blkErr_f (eqI_t ha) (eqI_f hf)] at h; exact absurd h hf
  · rw [blkErr_a (eqI_f ha)] at h; exact absurd h ha
end
structure WalkP (t:List UInt8) (l ps:List AV) (p:Nat→Nat):Prop where
  at_:∀ i,i < ps.length→nth ps i=.int (p i:Int)
  lt:∀ i,i < ps.length→p i < l.length
  next:∀ i,i+1 < ps.length→p i < p (i+1)∧∃ k,k < (allOf (levsV t l) (p (i+1):Int)).length∧nth (allOf (levsV t l) (p (i+1):Int)) k=.int (p i:Int)
section
variable {t:List UInt8} {l ps:List AV} {p:Nat→Nat}
theorem opP_at (W:WalkP t l ps p) (hok:∀ i,i < l.length→0≤levelV (idA ((nth l i).fld 0)) t) {i:Nat} (h1:1≤i) (hi:i < ps.length) :
    ∃ q:Nat,idxP t l ps i=(q:Int)∧q < (vecV t l (p i)).length∧nth (vecV t l (p i)) q=.blob (idA ((nth l (p (i-1))).fld 0))∧opP t l ps i=[.agg [.int (q:Int),.int ((vecV t l (p i)).length:Int),.slice (pathL (linkT (vecV t l (p i))) (q:Int))],.int 0]∧(p (i-1)+1=p i→q=0):=by
  have hp:=W.lt i hi
  obtain ⟨n1,k,n2,n3⟩:=W.next (i-1) (by omega)
  rw [show i-1+1=i by omega] at n1 n2 n3
  obtain ⟨m1,m2,m3,m4⟩:=near_mem (t:=t) hok (show 1≤p i by omega) hp
  have e1:(nth ps i).toInt=(p i:Int):=by rw [W.at_ i hi]; rfl
  have e2:(nth ps (i-1)).toInt=(p (i-1):Int):=by rw [W.at_ (i-1) (by omega)]; rfl
  obtain ⟨q,q1,q2,q3⟩:=idxV_found (A:=allOf (levsV t l) (p i:Int)) («to»:=(p (i-1):Int)) (allOf (levsV t l) (p i:Int)).length 0 (by omega) ⟨k,by omega,n2,by rw [n3]; rfl⟩
  have ei:idxP t l ps i=(q:Int):=by unfold idxP; rw [e1,e2,q1]
  have hv:vecP t l ps i=vecV t l (p i):=by
    unfold vecP
    rw [e1,Int.toNat_natCast,show min (p i) l.length=p i by omega]
  obtain ⟨y,y1,y2,y3⟩:=m1 q q2
  have hy:y=p (i-1):=by
    rw [y1] at q3
    have:(y:Int)=(p (i-1):Int):=q3
    omega
  subst hy
  refine ⟨q,ei,by omega,y3,?_,fun hs=>?_⟩
  · unfold opP
    rw [hv,ei,openV_in (by omega) (by rw [linkT_len]; omega),linkT_len]
  · have h0:idxV (allOf (levsV t l) (p i:Int)) (p (i-1):Int) (allOf (levsV t l) (p i:Int)).length 0=0:=by
      obtain ⟨N,hN⟩:∃ N,(allOf (levsV t l) (p i:Int)).length=N+1:=⟨(allOf (levsV t l) (p i:Int)).length-1,by omega⟩
      rw [hN]
      simp only [idxV]
      rw [m4,if_pos (show (AV.int ((p i-1:Nat):Int)).toInt=(p (i-1):Int) from by show ((p i-1:Nat):Int)=_; omega)]
      rfl
    rw [h0] at q1
    omega
def stepP (t:List UInt8) (l ps:List AV) (p:Nat→Nat) (i:Nat):AV:=stepAt (nth l (p i)) (if i=0 then noOpen else nth (opP t l ps i) 0)
def stepsP (t:List UInt8) (l ps:List AV) (p:Nat→Nat):List AV:=(List.range ps.length).map (stepP t l ps p)
theorem stepsP_len:(stepsP t l ps p).length=ps.length:=by simp [stepsP]
theorem proveL_walk (W:WalkP t l ps p) (hok:∀ i,i < l.length→0≤levelV (idA ((nth l i).fld 0)) t):proveL t l ps ps.length 0 []=[.slice (stepsP t l ps p),.int 0]:=by
  have key:∀ (j i:Nat) (acc:List AV),i+j=ps.length→acc=(List.range i).map (stepP t l ps p)→proveL t l ps j i acc=[.slice (stepsP t l ps p),.int 0]:=by
    intro j
    induction j with
    | zero =>
      intro i acc hi ha
      rw [ha,show i=ps.length by omega]; rfl
    | succ j ih =>
      intro i acc hi ha
      have hp:=W.lt i (by omega)
      have e1:(nth ps i).toInt=(p i:Int):=by rw [W.at_ i (by omega)]; rfl
      have ih':=ih (i+1) (acc++[stepP t l ps p i]) (by omega) (by rw [List.range_succ,List.map_append,ha]; rfl)
      simp only [proveL]
      rw [e1,ltI_f (show ¬ (p i:Int) < 0 by omega),cond_false,leI_f (by omega),cond_false,Int.toNat_natCast]
      by_cases h0:i=0
      · rw [ltI_f (by omega),cond_false]
        have e:stepP t l ps p i=stepAt (nth l (p i)) noOpen:=by unfold stepP; rw [if_pos h0]
        rw [← e]; exact ih'
      · obtain ⟨q,q1,q2,q3,q4,_⟩:=opP_at W hok (show 1≤i by omega) (by omega)
        have e:stepP t l ps p i=stepAt (nth l (p i)) (nth (opP t l ps i) 0):=by unfold stepP; rw [if_neg h0]
        have e0:(nth (opP t l ps i) 1).toInt=0:=by rw [q4]; rfl
        rw [ltI_t (by omega),cond_true,q1,ltI_f (by omega),cond_false,e0,eqI_t rfl,not_t,cond_false,← e]
        exact ih'
  exact key ps.length 0 [] (by omega) rfl
end
def placesL (P:List AV) (N len:Nat):List AV:=P++(List.range (len-N)).map fun j=>AV.int ((N+j:Nat):Int)
theorem placesL_len (P:List AV) {N len:Nat}:(placesL P N len).length=P.length+(len-N):=by simp [placesL]
def placeAt (P:List AV) (N:Nat) (i:Nat):Nat:=if i < P.length then (nth P i).toInt.toNat else N+(i-P.length)
section
variable {t:List UInt8} {l:List AV}
theorem placesL_walk {N:Nat} {P:List AV} (hok:∀ i,i < l.length→0≤levelV (idA ((nth l i).fld 0)) t) (hP:Picked t l N P) (hN:N < l.length) (hN1:1≤N):WalkP t l (placesL P N l.length) (placeAt P N):=by
  have hlen:=placesL_len P (N:=N) (len:=l.length)
  have hl1:=hP.len
  have nthA:∀ i,i < P.length→nth (placesL P N l.length) i=nth P i:=by
    intro i hi
    unfold placesL
    rw [nth_lt (by simp; omega),nth_lt hi,List.getElem_append_left hi]
  have nthB:∀ i,P.length≤i→i < P.length+(l.length-N)→nth (placesL P N l.length) i=.int ((N+(i-P.length):Nat):Int):=by
    intro i h1 h2
    unfold placesL
    rw [nth_lt (by simp; omega),List.getElem_append_right h1]
    simp
  have pA:∀ i,i < P.length→∃ p:Nat,nth P i=.int (p:Int)∧p < N∧placeAt P N i=p:=by
    intro i hi
    obtain ⟨p,h1,h2⟩:=hP.at_ i hi
    refine ⟨p,h1,h2,?_⟩
    unfold placeAt
    rw [if_pos hi,h1]
    exact Int.toNat_natCast p
  have pB:∀ i,P.length≤i→placeAt P N i=N+(i-P.length):=by
    intro i hi
    unfold placeAt
    rw [if_neg (by omega)]
  refine ⟨fun i hi=>?_,fun i hi=>?_,fun i hi=>?_⟩
  · rw [hlen] at hi
    by_cases h:i < P.length
    · obtain ⟨p,h1,h2,h3⟩:=pA i h
      rw [nthA i h,h1,h3]
    · rw [nthB i (by omega) hi,pB i (by omega)]
  · rw [hlen] at hi
    by_cases h:i < P.length
    · obtain ⟨p,h1,h2,h3⟩:=pA i h
      rw [h3]; omega
    · rw [pB i (by omega)]; omega
  · rw [hlen] at hi
    by_cases h:i+1 < P.length
    · obtain ⟨p,h1,h2,h3⟩:=pA i (by omega)
      obtain ⟨q,g1,g2,g3⟩:=pA (i+1) h
      rw [h3,g3]
      exact hP.next i p q h h1 g1
    · have hq:=pB (i+1) (by omega)
      have hp:placeAt P N i+1=placeAt P N (i+1):=by
        by_cases h':i < P.length
        · obtain ⟨p,h1,h2,h3⟩:=pA i h'
          have hl:=hP.last
          rw [show P.length-1=i by omega,h1] at hl
          have:(p:Int)=((N-1:Nat):Int):=by injection hl
          rw [h3,hq]; omega
        · rw [pB i (by omega),hq]; omega
      refine ⟨by omega,0,?_⟩
      obtain ⟨_,_,m3,m4⟩:=near_mem (t:=t) hok (x:=placeAt P N (i+1)) (by omega) (by rw [hq]; omega)
      exact ⟨m3,by rw [m4,show placeAt P N (i+1)-1=placeAt P N i by omega]⟩
end
end Go.Proofs.YteiahdlklppghaaGreat.Ev

namespace Go.Proofs.YteiahdlklppghaaGreat.Ev
open Go Go.RowKit
section
variable {gh:Int} {gl gt:List UInt8} {gn:Int} {t:List UInt8} {m K a b c5 c6:Int} {l:List AV}
def mayE (gh:Int) (gl gt:List UInt8) (gn:Int) (t:List UInt8) (m K a b:Int) (l:List AV):Int :=
  bif !(eqI ((chainV gh gl gt gn t l).fld 0).toInt 0) then ((chainV gh gl gt gn t l).fld 0).toInt else bif !(mayP m K a b) then 13 else bif leI (l.length:Int) K then 11 else 0
theorem proveMay_runs (ht:t.length=32) (hB:Blocks l):RunsX 14 [Cfg gh gl gt gn t m K a b c5 c6,.slice l] ⟨[.int (mayE gh gl gt gn t m K a b l)],[],false⟩:=by
  refine Evt.succ (((chainCheck_runs (gh:=gh) (gl:=gl) (gt:=gt) (gn:=gn) (t:=t) (c1:=m) (c2:=K) (c3:=a) (c4:=b) (c5:=c5) (c6:=c6) (l:=l) ht hB).and (mayP_runs (m:=m) (k:=K) (a:=a) (b:=b))).mono fun n hn=>?_)
  unfold mayE
  rw [f14_run,f14_eq,hn.1,step1]
  cases eqI ((chainV gh gl gt gn t l).fld 0).toInt 0 with
  | false=>rfl
  | true =>
    rw [not_t,cond_false,cond_false,hn.2,step1,toBool_b]
    cases mayP m K a b with
    | false=>rfl
    | true =>
      rw [not_t,cond_false,cond_false]
      cases leI (l.length:Int) K <;> rfl
theorem places_runsP {P:List AV} (ht:t.length=32) (hl:l.length≤100000) (hh:Heads l) (hP:P=pickV (levsV t l) m K a b) (hP1:1≤P.length) (hP2:P.length≤100000) (hK:1≤K) (hK2:K < l.length) :
    RunsX 11 [Cfg gh gl gt gn t m K a b c5 c6,.slice l] ⟨[.slice (placesL P (l.length-K.toNat) l.length)],[],true⟩:=by
  have r2:=pick_runs (L:=levsV t l) (m:=m) (k:=K) (a:=a) (b:=b) (by rw [levsV_len]; omega)
  rw [← hP] at r2
  refine Evt.succ (((levels_runs (t:=t) (l:=l) ht hl hh).and (r2.and (Evt.ge (l.length+2)))).mono fun n hn=>?_)
  obtain ⟨g1,g2,g3⟩:=hn
  rw [f11_run,f11_eq,g1,step1f,toSlice_s,g2,step1f,toSlice_s,mx2_eq,mx2_eq,show max K 0=K by omega,w64 (by omega) (by omega),show max 0 ((l.length:Int)-K)=((l.length-K.toNat:Nat):Int) by omega]
  have key:∀ (j k i:Nat),(l.length-K.toNat)+i+j=l.length→j < k→f11_l0 (runE G ext n) n k l (P++(List.range i).map fun j=>AV.int ((l.length-K.toNat+j:Nat):Int)) ((l.length-K.toNat+i:Nat):Int)=some ⟨[.slice (placesL P (l.length-K.toNat) l.length)],[],true⟩:=by
    intro j
    induction j with
    | zero =>
      intro k i hi hk
      obtain ⟨k,rfl⟩:∃ j,k=j+1:=⟨k-1,by omega⟩
      rw [f11_l0_eq,ltI_f (by omega),cond_false]
      unfold placesL
      rw [show l.length-(l.length-K.toNat)=i by omega]; rfl
    | succ j ih =>
      intro k i hi hk
      obtain ⟨k,rfl⟩:∃ j,k=j+1:=⟨k-1,by omega⟩
      have ih':=ih k (i+1) (by omega) (by omega)
      rw [List.range_succ,List.map_append,← List.append_assoc,List.map_singleton] at ih'
      rw [f11_l0_eq,ltI_t (by omega),cond_true,ltI_t (by rw [List.length_append]; omega),cond_true,Nat.ble_eq_true_of_le (by simp; omega),cond_true,w64 (by omega) (by omega),show ((l.length-K.toNat+i:Nat):Int)+1=((l.length-K.toNat+(i+1):Nat):Int) by omega]
      exact ih'
  have k:=key (l.length-(l.length-K.toNat)) n 0 (by omega) (by omega)
  rw [show (List.range 0).map (fun j=>AV.int ((l.length-K.toNat+j:Nat):Int))=[] from rfl,List.append_nil,Nat.add_zero] at k
  exact k
end
end Go.Proofs.YteiahdlklppghaaGreat.Ev

