import Derived.Test.YteiahdlklppghaaGreatPrWJA
namespace Go.Proofs.YteiahdlklppghaaGreat.Ev
open Go Go.RowKit
theorem wstep1f {α:Type} (v:AV) (K:AV→Option α):(some (⟨[v],[],true⟩:Res)).bind (fun r=>bif r.fresh then nilV r.outs (consV r.vals fun v vs=>nilV vs (K v)) else none)=K v:=rfl
theorem wstep2 {α:Type} (v u:AV) (fr:Bool) (K:AV→AV→Option α):(some (⟨[v,u],[],fr⟩:Res)).bind (fun r=>nilV r.outs (consV r.vals fun v vs=>consV vs fun u us=>nilV us (K v u)))=K v u:=rfl
theorem nearU_l0s (run:Run) (n:Nat) (l:List AV) (lv:Int):∀ (m k:Nat),m≤l.length→l.length≤maxLen→m < k→f100_l0 run n k l lv ((m:Int)-1)=some ⟨[.int (nearV l lv m)],[],false⟩:=by
  intro m
  induction m with
  | zero =>
    intro k _ _ hk
    obtain ⟨k,rfl⟩:∃ j,k=j+1:=⟨k-1,by omega⟩
    rw [f100_l0_eq,leI_f (by omega)]
    rfl
  | succ m ih =>
    intro k hm hl hk
    obtain ⟨k,rfl⟩:∃ j,k=j+1:=⟨k-1,by omega⟩
    rw [maxLen_eq] at hl
    have e:(((m+1:Nat):Int)-1)=(m:Int):=by omega
    rw [f100_l0_eq,e,leI_t (by omega),cond_true,inR_nat (by omega),cond_true,Int.toNat_natCast,w64 (by omega) (by omega),ih k (by omega) (by rw [maxLen_eq]; omega) (by omega)]
    simp only [nearV]
    by_cases h:lv≤(nth l m).toInt
    · rw [leI_t h,if_pos h]; rfl
    · rw [leI_f h,if_neg h]; rfl
theorem allU_l0s {run:Run} {l:List AV} {at_:Int} (hr:∀ i,i < 257→run 100 [.slice l,.int at_,.int (i:Nat)]=some ⟨[.int (nearV l (i:Nat) at_.toNat)],[],false⟩) (n:Nat) :
    ∀ (j k i:Nat) (acc:List AV),i+j=257→acc.length≤i→j < k→f68_l0 run n k l at_ acc (i:Int)=some ⟨[.slice (allV l at_ acc j i)],[],true⟩:=by
  intro j
  induction j with
  | zero =>
    intro k i acc hi _ hk
    obtain ⟨k,rfl⟩:∃ j,k=j+1:=⟨k-1,by omega⟩
    rw [f68_l0_eq,ltI_f (by omega)]
    rfl
  | succ j ih =>
    intro k i acc hi hacc hk
    obtain ⟨k,rfl⟩:∃ j,k=j+1:=⟨k-1,by omega⟩
    rw [f68_l0_eq,ltI_t (by omega),cond_true,hr i (by omega)]
    simp only [Option.bind_some,consV,nilV,AV.toInt]
    have hb:Nat.ble ((acc.length+1)*8) 140737488355328=true:=Nat.ble_eq_true_of_le (by omega)
    rw [hb,cond_true,w64 (by omega) (by omega)]
    have ih':=ih k (i+1) (acc++[.int (nearV l (i:Nat) at_.toNat)]) (by omega) (by simp; omega) (by omega)
    have e:((i+1:Nat):Int)=(i:Int)+1:=by omega
    rw [e] at ih'
    rw [ih']
    simp only [allV]
    by_cases h:nearV l (i:Nat) at_.toNat < 0
    · rw [ltI_t h,if_pos h]; rfl
    · rw [ltI_f h,if_neg h,cond_false]
      by_cases h':nearV l (i:Nat) at_.toNat=0
      · rw [eqI_t h',if_pos h']; rfl
      · rw [eqI_f h',if_neg h']; rfl
theorem allV_len (l:List AV) (at_:Int):∀ (j:Nat) (lv:Int) (acc:List AV),(allV l at_ acc j lv).length≤acc.length+j
  | 0,_,acc=>Nat.le_refl _
  | j+1,lv,acc=>by
    simp only [allV]
    split
    · omega
    · split
      · simp
      · have:=allV_len l at_ j (lv+1) (acc++[.int (nearV l lv at_.toNat)])
        simp at this
        omega
theorem allOf_len (l:List AV) (at_:Int):(allOf l at_).length≤257:=by
  unfold allOf
  split
  · simp
  · split
    · simp
    · have:=allV_len l at_ 257 0 []
      simpa using this
theorem nearV_le (L:List AV) (k:Int):∀ i,nearV L k i < i
  | 0=>by simp [nearV]
  | i+1=>by
    simp only [nearV]
    have:=nearV_le L k i
    split <;> omega
theorem farL_true (A:List AV) («to»:Int):∀ j i b,(farL A «to» j i b true).2=true
  | 0,_,_=>rfl
  | j+1,i,b=>by
    simp only [farL]
    rw [not_t,cond_false]
    cases leI «to» (nth A i).toInt
    · exact farL_true A «to» j (i+1) b
    · cases ltI (nth A i).toInt b
      · exact farL_true A «to» j (i+1) b
      · exact farL_true A «to» j (i+1) _
theorem farL_spec (A:List AV) («to»:Int) (P:Int→Prop) (hP:∀ q,q < A.length→«to»≤(nth A q).toInt→P (nth A q).toInt):∀ j i b s,i+j=A.length→(s=true→P b)→(farL A «to» j i b s).2=true→P (farL A «to» j i b s).1
  | 0,_,b,s,_,h,h2=>h h2
  | j+1,i,b,s,hi,h,h2=>by
    simp only [farL] at h2 ⊢
    by_cases hc:«to»≤(nth A i).toInt
    · have hp:=hP i (by omega) hc
      rw [leI_t hc,cond_true] at h2 ⊢
      cases s with
      | false=>rw [not_f,cond_true] at h2 ⊢; exact farL_spec A «to» P hP j (i+1) _ _ (by omega) (fun _=>hp) h2
      | true =>
        rw [not_t,cond_false] at h2 ⊢
        cases hl:ltI (nth A i).toInt b with
        | true=>rw [hl,cond_true] at h2; rw [cond_true]; exact farL_spec A «to» P hP j (i+1) _ _ (by omega) (fun _=>hp) h2
        | false=>rw [hl,cond_false] at h2; rw [cond_false]; exact farL_spec A «to» P hP j (i+1) _ _ (by omega) h h2
    · rw [leI_f hc,cond_false] at h2 ⊢
      exact farL_spec A «to» P hP j (i+1) _ _ (by omega) h h2
theorem far_l0 (run:Run) (n:Nat) (A:List AV) («to»:Int) (hA:A.length≤1000):∀ (j k i:Nat) (b:Int) (s:Bool),i+j=A.length→j < k →
    f67_l0 run n k «to» b s A (A.length:Int) (i:Int)=some ⟨[.int (farL A «to» j i b s).1,.bool (farL A «to» j i b s).2],[],f67_fresh⟩:=by
  intro j
  induction j with
  | zero =>
    intro k i b s hi hk
    obtain ⟨k,rfl⟩:∃ j,k=j+1:=⟨k-1,by omega⟩
    rw [f67_l0_eq,ltI_f (by omega)]; rfl
  | succ j ih =>
    intro k i b s hi hk
    obtain ⟨k,rfl⟩:∃ j,k=j+1:=⟨k-1,by omega⟩
    have i1:=ih k (i+1) (nth A i).toInt true (by omega) (by omega)
    have i2:=ih k (i+1) b s (by omega) (by omega)
    rw [show ((i+1:Nat):Int)=(i:Int)+1 by omega] at i1 i2
    simp only [farL]
    rw [f67_l0_eq,ltI_t (a:=(i:Int)) (b:=(A.length:Int)) (by omega),cond_true,inR_nat (by omega),cond_true,Int.toNat_natCast,w64 (by omega) (by omega),i1,i2]
    cases leI «to» (nth A i).toInt
    · rfl
    · cases s
      · rfl
      · cases ltI (nth A i).toInt b <;> rfl
theorem allV_lt (L:List AV) (at_:Int):∀ (j:Nat) (lv:Int) (acc:List AV),(∀ y∈acc,0≤y.toInt∧y.toInt < at_.toNat)→∀ y∈allV L at_ acc j lv,0≤y.toInt∧y.toInt < at_.toNat
  | 0,_,_,h=>h
  | j+1,lv,acc,h=>by
    simp only [allV]
    have hn:=nearV_le L lv at_.toNat
    have hs:¬ nearV L lv at_.toNat < 0→∀ y∈acc++[AV.int (nearV L lv at_.toNat)],0≤y.toInt∧y.toInt < at_.toNat:=by
      intro h0 y hy
      rcases List.mem_append.1 hy with h1 | h1
      · exact h y h1
      · rw [List.mem_singleton.1 h1]
        show 0≤nearV L lv at_.toNat∧nearV L lv at_.toNat < at_.toNat
        omega
    split
    · exact h
    · rename_i h0
      split
      · exact hs h0
      · exact allV_lt L at_ j (lv+1) _ (hs h0)
theorem allOf_lt {L:List AV} {x:Int} {q:Nat} (h:q < (allOf L x).length):0≤(nth (allOf L x) q).toInt∧(nth (allOf L x) q).toInt < x:=by
  have hm:nth (allOf L x) q∈allOf L x:=by rw [nth_lt h]; exact List.getElem_mem h
  unfold allOf at h hm ⊢
  by_cases h1:x < 1
  · rw [if_pos h1] at h; simp at h
  · rw [if_neg h1] at h hm ⊢
    by_cases h2:(L.length:Int) < x
    · rw [if_pos h2] at h; simp at h
    · rw [if_neg h2] at h hm ⊢
      have:=allV_lt L x 257 0 [] (fun y hy=>by cases hy) _ hm
      omega
theorem farV_in {L:List AV} {x «to»:Int} (h:(farV L x «to»).2=true):«to»≤(farV L x «to»).1∧(farV L x «to»).1 < x:=by
  have:=farL_spec (allOf L x) «to» (fun b=>«to»≤b∧b < x) (fun q hq hle=>⟨hle,(allOf_lt hq).2⟩) (allOf L x).length 0 0 false (by omega) (fun h=>by cases h) h
  exact this
section
variable {e:Run}
theorem near_e {l:List AV} {at_ lv:Int} (hl:l.length≤maxLen) (h0:0≤at_) (h1:at_≤l.length):Evt fun n=>runE G e n 100 [.slice l,.int at_,.int lv]=some ⟨[.int (nearV l lv at_.toNat)],[],false⟩:=by
  refine Evt.succ ((Evt.ge (at_.toNat+1)).mono fun n hn=>?_)
  rw [f100_run,f100_eq,mn2_eq,show min at_ (l.length:Int)=at_ by omega]
  rw [maxLen_eq] at hl
  rw [w64 (by omega) (by omega),show at_-1=((at_.toNat:Nat):Int)-1 by omega]
  exact nearU_l0s _ _ _ _ _ _ (by omega) (by rw [maxLen_eq]; omega) (by omega)
theorem all_e {l:List AV} {at_:Int} (hl:l.length≤maxLen):Evt fun n=>runE G e n 68 [.slice l,.int at_]=some ⟨[.slice (allOf l at_)],[],true⟩:=by
  unfold allOf
  by_cases h1:at_ < 1
  · refine Evt.succ (.of fun n=>?_)
    rw [f68_run,f68_eq,ltI_t h1,if_pos h1]; rfl
  · by_cases h2:(l.length:Int) < at_
    · refine Evt.succ (.of fun n=>?_)
      rw [f68_run,f68_eq,ltI_f h1,ltI_t h2,if_neg h1,if_pos h2]; rfl
    · refine Evt.succ (((Evt.all 257 fun i _=>near_e (e:=e) (l:=l) (at_:=at_) (lv:=(i:Nat)) hl (by omega) (by omega)).and (Evt.ge 258)).mono fun n hn=>?_)
      rw [f68_run,f68_eq,ltI_f h1,ltI_f h2,if_neg h1,if_neg h2,cond_false,cond_false]
      exact allU_l0s hn.1 n 257 n 0 [] (by omega) (by simp) (by omega)
theorem far_e {A:List AV} {«to»:Int} (hA:A.length≤1000):Evt fun n=>runE G e n 67 [.slice A,.int «to»]=some ⟨[.int (farL A «to» A.length 0 0 false).1,.bool (farL A «to» A.length 0 0 false).2],[],false⟩:=by
  refine Evt.succ ((Evt.ge (A.length+2)).mono fun n hn=>?_)
  rw [f67_run,f67_eq]
  exact far_l0 _ n A «to» hA A.length n 0 0 false (by omega) (by omega)
theorem walk_e {L:List AV} {x «to»:Int} (hL:L.length≤100000):Evt fun n=>runE G e n 35 [.slice L,.int x,.int «to»]=some ⟨[.slice (walkV L x «to»)],[],true⟩:=by
  unfold walkV
  by_cases c1:«to» < 0
  · refine Evt.succ (.of fun n=>?_)
    rw [if_pos (.inl c1),f35_run,f35_eq,ltI_t c1,cond_true]; rfl
  by_cases c2:x < «to»
  · refine Evt.succ (.of fun n=>?_)
    rw [if_pos (.inr (.inl c2)),f35_run,f35_eq,ltI_f c1,cond_false,ltI_t c2,cond_true]; rfl
  by_cases c3:(L.length:Int)≤x
  · refine Evt.succ (.of fun n=>?_)
    rw [if_pos (.inr (.inr c3)),f35_run,f35_eq,ltI_f c1,cond_false,ltI_f c2,cond_false,leI_t c3,cond_true]; rfl
  have hall:=Evt.all L.length fun i (_:i < L.length)=>(all_e (e:=e) (l:=L) (at_:=(i:Int)) (by rw [maxLen_eq]; omega)).and (far_e (e:=e) (A:=allOf L (i:Int)) («to»:=«to») (Nat.le_trans (allOf_len _ _) (by omega)))
  refine Evt.succ ((hall.and (Evt.ge (x.toNat+2))).mono fun n hn=>?_)
  have key:∀ (j k:Nat) (x:Int) (acc:List AV),0≤x→x≤j→x < L.length→j < k→acc.length+j≤1000000→f35_l0 (runE G e n) n k L x «to» acc=some ⟨[.slice (((walkG L «to» j x).map (acc++·)).getD [])],[],true⟩:=by
    intro j
    induction j with
    | zero =>
      intro k x acc h0 hx _ hk _
      obtain ⟨k,rfl⟩:∃ j,k=j+1:=⟨k-1,by omega⟩
      rw [f35_l0_eq,ltI_f (by omega),cond_false]
      simp only [walkG,Option.map_some,Option.getD_some,List.append_nil]; rfl
    | succ j ih =>
      intro k x acc h0 hx hxl hk ha
      obtain ⟨k,rfl⟩:∃ j,k=j+1:=⟨k-1,by omega⟩
      simp only [walkG]
      by_cases h:«to» < x
      · obtain ⟨r1,r2⟩:=hn.1 x.toNat (by omega)
        rw [show ((x.toNat:Nat):Int)=x by omega] at r1 r2
        have r2':runE G e n 67 [.slice (allOf L x),.int «to»]=some ⟨[.int (farV L x «to»).1,.bool (farV L x «to»).2],[],false⟩:=r2
        rw [f35_l0_eq,ltI_t h,cond_true,cond_true,r1,wstep1f,toSlice_s,r2',wstep2,toBool_b,toInt_i]
        cases hf:(farV L x «to»).2 with
        | false=>rfl
        | true =>
          have hin:=farV_in hf
          have ih':=ih k (farV L x «to»).1 (acc++[.int (farV L x «to»).1]) (by omega) (by omega) (by omega) (by omega) (by simp; omega)
          rw [not_t,cond_false,cond_true,Nat.ble_eq_true_of_le (by omega),cond_true,ih']
          cases walkG L «to» j (farV L x «to»).1 with
          | none=>rfl
          | some r=>simp only [Option.map_some,Option.getD_some,List.append_assoc,List.singleton_append]
      · rw [f35_l0_eq,ltI_f h,cond_false,cond_false]
        simp only [Option.map_some,Option.getD_some,List.append_nil]; rfl
  rw [if_neg (by omega),f35_run,f35_eq,ltI_f c1,cond_false,ltI_f c2,cond_false,leI_f c3,cond_false]
  exact key x.toNat n x [.int x] (by omega) (by omega) (by omega) (by omega) (by simp; omega)
end
end Go.Proofs.YteiahdlklppghaaGreat.Ev

namespace Go.Proofs.YteiahdlklppghaaGreat.Ev
open Go Go.RowKit Go.Shelf Go.Sort
attribute [local go_sem] Oper.semAt_some
def IntRow (B:Nat) (w:World) (v:Value) (zs:List Int) (n:Nat):Prop :=
  ∃ ad cap,v=.slice ad n cap∧n≤cap∧(zs≠[]→∃ g cs tid,ad=some ⟨g,0,none⟩∧B≤g∧w.heap[g]?=some (.cells cs tid (0,0))∧cs.size=cap∧cap≤maxLen∧cs.toList.take zs.length=zs.map (Value.int .i64))
theorem walk_calls {S0:Snap} {w:World} {v:Value} {L:List AV} {x «to»:Int} (ha:∀ p u,S0 p=some u→w.cell? p=some u) (hv:VRep S0 (.slice (.int .i64)) v (.slice L)) (hL:L.length≤100000)
    (hx:(Lit.int .i64 x).wf=true) (ht:(Lit.int .i64 «to»).wf=true) :
    Calls Tryz.prog 35 #[v,.int .i64 x,.int .i64 «to»] w fun e w'=>∃ v',e=.returned v'∧IntRow w.heap.size w' v' ((walkV L x «to»).map AV.toInt) (walkV L x «to»).length∧Below w.heap.size w w'∧∀ p u,S0 p=some u→w'.cell? p=some u:=by
  have hr:Runs G noExt 35 [.slice L,.int x,.int «to»] ⟨[.slice (walkV L x «to»)],[],true⟩:=walk_e (e:=noExt) hL
  have hs:=sat_of_runs types_ok fns_ok (f:=35) (i:=f35_info) (by kernel_rfl) hr
  refine (hs S0 w [v,.int .i64 x,.int .i64 «to»] [] ha ?_ (by simp)).mono ?_
  · exact ⟨v,_,_,_,rfl,rfl,hv,.int .i64 x,_,.int x,_,rfl,rfl,VRep.int_mk hx,.int .i64 «to»,_,.int «to»,_,rfl,rfl,VRep.int_mk ht,rfl,rfl,rfl⟩
  · rintro e w' ⟨S,v',rfl,hle,hnew,hag,hk,⟨y,hy,hvr,hown⟩,_⟩
    cases hy
    obtain ⟨E,hE,hrow⟩:=hown rfl
    cases hE
    obtain ⟨a,len,cap,es,rfl,he,hlen,hlc,hcm,_,hes⟩:=hvr.slice
    cases he
    refine ⟨_,rfl,⟨a,cap,by rw [hlen],by omega,fun hne=>?_⟩,hk.below,fun p u h=>hag p u (hle p u h)⟩
    rw [List.length_map,hlen]
    rcases hrow with h | ⟨g,n,cap',cs,h,hB,⟨tid,hg⟩,hcs,hn,hcap,_⟩
    · cases h
      exact absurd (List.map_eq_nil_iff.2 (List.length_eq_zero_iff.1 hlen)) hne
    · cases h
      refine ⟨g,cs.toArray,tid,rfl,hB,hg,by simpa [Ty.size] using hcs,hcap,?_⟩
      apply List.ext_getElem?
      intro j
      rw [List.getElem?_take,List.getElem?_map,List.getElem?_map]
      split
      · rename_i hj
        have hj2:j < (walkV L x «to»).length:=by omega
        obtain ⟨ds,q1,q2,q3⟩:=hes ⟨g,0,none⟩ rfl j _ (List.getElem?_eq_getElem hj2)
        obtain ⟨z,rfl,hz,_⟩:=q3
        have q4:=hag _ _ (q1 0 _ rfl)
        rw [add_plain,add_plain,cell_of_row w' g _ _ tid (0,0) hg] at q4
        rw [List.getElem?_eq_getElem hj2,hz]
        simpa [Ty.size,AV.toInt] using q4
      · rename_i hj
        rw [List.getElem?_eq_none (by omega)]
        rfl
theorem walkV_ints (L:List AV) (x «to»:Int):∃ zs:List Int,walkV L x «to»=zs.map AV.int:=by
  have key:∀ (j:Nat) (x:Int) (r:List AV),walkG L «to» j x=some r→∃ zs:List Int,r=zs.map AV.int:=by
    intro j
    induction j with
    | zero=>intro x r h; cases h; exact ⟨[],rfl⟩
    | succ j ih =>
      intro x r h
      simp only [walkG] at h
      cases h1:ltI «to» x with
      | false=>rw [h1] at h; cases h; exact ⟨[],rfl⟩
      | true =>
        rw [h1,cond_true] at h
        cases h2:(farV L x «to»).2 with
        | false=>rw [h2] at h; cases h
        | true =>
          rw [h2,cond_true] at h
          obtain ⟨r',h3,rfl⟩:=Option.map_eq_some_iff.1 h
          obtain ⟨zs,rfl⟩:=ih _ _ h3
          exact ⟨(farV L x «to»).1::zs,rfl⟩
  unfold walkV
  split
  · exact ⟨[],rfl⟩
  · cases h:walkG L «to» x.toNat x with
    | none=>exact ⟨[],rfl⟩
    | some r =>
      obtain ⟨zs,rfl⟩:=key _ _ _ h
      exact ⟨x::zs,rfl⟩
theorem walkV_two {L:List AV} {x «to»:Int} (h:walkV L x «to»≠[]) (hlt:«to» < x):2≤(walkV L x «to»).length:=by
  unfold walkV at h ⊢
  by_cases hc:«to» < 0∨x < «to»∨(L.length:Int)≤x
  · rw [if_pos hc] at h; exact absurd rfl h
  · rw [if_neg hc] at h ⊢
    obtain ⟨j,hj⟩:∃ j,x.toNat=j+1:=⟨x.toNat-1,by omega⟩
    rw [hj] at h ⊢
    simp only [walkG] at h ⊢
    rw [ltI_t hlt,cond_true] at h ⊢
    cases h2:(farV L x «to»).2 with
    | false=>rw [h2] at h; exact absurd rfl h
    | true =>
      rw [h2,cond_true] at h
      rw [cond_true]
      cases h3:walkG L «to» j (farV L x «to»).1 with
      | none=>rw [h3] at h; exact absurd rfl h
      | some r=>simp
theorem walkV_le {L:List AV} {x «to»:Int}:(walkV L x «to»).length≤L.length:=by
  have key:∀ (j:Nat) (x:Int) (r:List AV),walkG L «to» j x=some r→r.length≤j:=by
    intro j
    induction j with
    | zero=>intro x r h; cases h; exact Nat.le_refl 0
    | succ j ih =>
      intro x r h
      simp only [walkG] at h
      cases h1:ltI «to» x with
      | false=>rw [h1] at h; cases h; exact Nat.zero_le _
      | true =>
        rw [h1,cond_true] at h
        cases h2:(farV L x «to»).2 with
        | false=>rw [h2] at h; cases h
        | true =>
          rw [h2,cond_true] at h
          obtain ⟨r',h3,rfl⟩:=Option.map_eq_some_iff.1 h
          have:=ih _ _ h3
          simp only [List.length_cons]
          omega
  unfold walkV
  split
  · exact Nat.zero_le _
  · rename_i hc
    cases h:walkG L «to» x.toNat x with
    | none=>exact Nat.zero_le _
    | some r =>
      have:=key _ _ _ h
      simp only [Option.map_some,Option.getD_some,List.length_cons]
      omega
theorem wpIn_append_run {F:Fence} {n:Nat} {P:Program} {o:Oper} {a:Act} {w w':World} {K:Act→World→Prop} {Q:Exit→Act→World→Prop} {s x:Operand} {t:TypeId} {v1 v2 v':Value}
    (hop:o.op=Op.call { callee:=Callee.builtin Builtin.append,args:=#[s,x],argTypes:=#[t,t] }) (hs:a.eval s=v1) (hx:a.eval x=v2) (hrun:(Builtin.append_ #[t,t] o.type #[v1,v2]).run P w=.ok v' w') (hK:K (a.put o.dst v') w') :
    Oper.wpIn F n P o a w K Q:=by
  unfold Oper.wpIn
  refine ⟨?_,?_⟩
  · simp [Oper.about,hop,resolve,Target.leads,Sem.run_pure]
  · rw [Oper.semAt_plain F _ _ (by rw [hop]; intro c hc'; cases hc')]
    simp [execOp,hop,resolve,invoke,builtin,hs,hx,hrun,Result.andThen]
    exact hK
theorem row_tail {cs:Array Value} {zs:List Int} (h:cs.toList.take zs.length=zs.map (Value.int .i64)) {j:Nat} {u:Value} (hu:((zs.drop 1).map (Value.int .i64))[j]?=some u):cs[1+j]?=some u:=by
  rw [List.map_drop,List.getElem?_drop,← h,List.getElem?_take] at hu
  split at hu
  · simpa using hu
  · cases hu
theorem run_append_off {P:Program} {B:Nat} (w:World) (t ty e:TypeId) (i:TypeInfo) (z:Value) (ht:P.underlying t=some (.slice e)) (hi:P.info? e=some i) (hz:i.zero=some z) (hsize:i.size=1) (hby:i.bytes=8)
    (g k cap:Nat) (cs:Array Value) (tid:TypeId) (hg:w.heap[g]?=some (.cells cs tid (0,0))) (hcs:cs.size=cap+1) (hk:k≤cap) (hcm:cap≤maxLen) (xs:List Value) (hxl:xs.length=k) (hxs:∀ (j:Nat) u,xs[j]?=some u→cs[1+j]?=some u)
    (p:Addr) (m c:Nat) (news:List Value) (hl:news.length=m) (hnews:∀ j u,news[j]?=some u→w.cell? (p.add j)=some u) (h1:∀ u∈news,u.oneCell'=true) (hb:k+m≤1000000) (hB:B≤g) (hB2:B≤w.heap.size) :
    ∃ v' w',(Builtin.append_ #[t,t] ty #[.slice (some ⟨g,1,none⟩) k cap,.slice (some p) m c]).run P w=.ok v' w'∧Below B w w'∧∃ g' off cap' cs' tid',v'=.slice (some ⟨g',off,none⟩) (k+m) cap'∧B≤g'∧w'.heap[g']?=some (.cells cs' tid' (0,0))∧k+m≤cap'∧cap'≤maxLen∧∀ (j:Nat) u,(xs++news)[j]?=some u→cs'[off+j]?=some u:=by
  by_cases hroom:k+m≤cap
  · have hf:=run_firstCells_some (P:=P) w i.size m p m c news (by rw [hsize,hl,Nat.mul_one]) hnews
    have hst:=run_storeCells_at P g (1+k) tid news 0 cs w hg (by omega) h1
    simp only [Nat.add_zero] at hst
    have had:(⟨g,1,none⟩:Addr).add k=⟨g,1+k,none⟩:=by unfold Addr.add; split <;> simp_all
    refine ⟨.slice (some ⟨g,1,none⟩) (k+m) cap,w.setRow g (cs.toList.take (1+k)++news++cs.toList.drop (1+k+news.length)).toArray,?_,?_,g,1,cap,_,tid,rfl,hB,setRow_heap w g _ _ _ _ hg,hroom,hcm,?_⟩
    · rw [hsize] at hf
      simp [Builtin.append_,run_underlying ht,sizeOf,typeInfo,hi,Builtin.lenOf,hroom,hf,hsize,had,hst]
    · exact ⟨rfl,rfl,rfl,by simp,fun q hq=>setRow_other w g q _ (by omega)⟩
    · intro j u hj
      have htk:(cs.toList.take (1+k)).length=1+k:=by simp; omega
      rw [List.getElem?_toArray,List.append_assoc]
      by_cases hjk:j < k
      · rw [List.getElem?_append_left (by omega),List.getElem?_take,if_pos (by omega)]
        rw [List.getElem?_append_left (by omega)] at hj
        simpa using hxs j u hj
      · rw [List.getElem?_append_right (by omega),htk]
        rw [List.getElem?_append_right (by omega),hxl] at hj
        have:=(List.getElem?_eq_some_iff.1 hj).1
        rw [List.getElem?_append_left (by omega),show 1+j-(1+k)=j-k by omega]
        exact hj
  · have hgrow:=run_append_grow (P:=P) w t ty e i z ht hi hz ⟨g,1,none⟩ k cap xs (by rw [hsize,hxl,Nat.mul_one]) (fun j v hv=>by
      rw [show (⟨g,1,none⟩:Addr).add j=⟨g,1+j,none⟩ by unfold Addr.add; split <;> simp_all,cell_of_row w g _ _ tid (0,0) hg]
      exact hxs j v hv) p m c news (by rw [hsize,hl,Nat.mul_one]) hnews (by omega) (by omega) (by rw [hby]; exact growslice_fits (by omega) (by omega))
    refine ⟨_,_,hgrow,?_,w.heap.size,0,_,_,e,rfl,hB2,heap_alloc_new w.drew _,grownCap_ge _ _ _ _,grownCap_le_maxLen _ _ _ _ (by rw [maxLen_eq]; omega),?_⟩
    · exact ⟨rfl,rfl,rfl,by simp,fun q hq=>Below.heap_alloc w.drew _ q (Nat.lt_of_lt_of_le hq hB2)⟩
    · intro j u hj
      have hlt:=(List.getElem?_eq_some_iff.1 hj).1
      rw [Nat.zero_add,Array.getElem?_append_left (by simpa using hlt)]
      simpa using hj
theorem rev_holds {w:World} {g o:Nat} {cs:Array Value} {tid:TypeId} (hh:w.heap[g]?=some (.cells cs tid (0,0))) {zs:List Int} (h:∀ (j:Nat) u,(zs.map (Value.int .i64))[j]?=some u→cs[o+j]?=some u):Holds (Value.int .i64) w g o zs.dropLast.toArray:=by
  intro j hj
  have hj1:j < zs.dropLast.length:=by simpa using hj
  have hj2:j < zs.length:=by rw [List.length_dropLast] at hj1; omega
  have he:zs.dropLast.toArray[j]! = zs[j]:=by
    rw [getElem!_pos _ j hj,List.getElem_toArray,List.getElem_dropLast]
  refine ⟨?_,by simp [World.frozen?,hh]⟩
  rw [cell_of_row w g _ _ tid (0,0) hh,he]
  exact h j _ (by rw [List.getElem?_map,List.getElem?_eq_getElem hj2]; rfl)
theorem rev_below {w:World} {g o n B:Nat} {d:Array Int} (hB:B≤g):Below B w (putRow (Value.int .i64) (Sort.ahead w n) g o d):=by
  refine ⟨rfl,rfl,rfl,?_,fun q hq=>?_⟩
  · unfold putRow mapBlock
    simp
  · unfold putRow mapBlock
    show (w.heap.modify g _)[q]?=_
    rw [Array.getElem?_modify,if_neg (by omega)]
theorem rev_cells {w:World} {g o n:Nat} {zs:List Int} (h:Holds (Value.int .i64) w g o zs.toArray) {j:Nat} {z:AV} (hz:(zs.reverse.map AV.int)[j]?=some z):(putRow (Value.int .i64) (Sort.ahead w n) g o zs.reverse.toArray).cell? ⟨g,o+j,none⟩=some (.int .i64 z.toInt):=by
  have hj:j < zs.reverse.length:=by simpa using (List.getElem?_eq_some_iff.1 hz).1
  rw [cell?_putRow (Value.int .i64) _ g o zs.toArray _ (holds_ahead _ w n g o _ h) (by simp) j (by simpa using hj)]
  rw [List.getElem?_map,List.getElem?_eq_getElem hj] at hz
  cases hz
  rw [getElem!_pos _ j (by simpa using hj),List.getElem_toArray]
  rfl
theorem callsIn_post {F:Fence} {n:Nat} {P:Program} {f:FuncId} {args:Array Value} {w:World} {R:Ending→World→Prop} (h:∀ Q:Ending→World→Prop,(∀ e w',R e w'→Q e w')→CallsIn F n P f args w Q):CallsIn F n P f args w R:=h R fun _ _ h=>h
set_option maxRecDepth 100000 in
set_option maxHeartbeats 400000 in
theorem between_in (m:Nat) {S0:Snap} {w:World} {ad:Option Addr} {ln cp:Nat} {L:List AV} {high at_ low:Int} (ha:∀ p u,S0 p=some u→w.cell? p=some u) (hv:VRep S0 (.slice (.int .i64)) (.slice ad ln cp) (.slice L)) (hL:L.length≤100000)
    (h1:(Lit.int .i64 high).wf=true) (h2:(Lit.int .i64 at_).wf=true) (h3:(Lit.int .i64 low).wf=true) :
    CallsIn Fence.wide m Tryz.prog 17 #[.slice ad ln cp,.int .i64 high,.int .i64 at_,.int .i64 low] w fun e w'=>∃ v,e=.returned v∧Below w.heap.size w w' ∧
      ∃ ad' cap off,v=.slice ad' (betV L high at_ low).length cap∧(betV L high at_ low).length≤cap∧cap≤maxLen∧(ad'=none→cap=0)∧(betV L high at_ low≠[]→∃ g,ad'=some ⟨g,off,none⟩∧w.heap.size≤g∧∀ j z,(betV L high at_ low)[j]?=some z→w'.cell? ⟨g,off+j,none⟩=some (.int .i64 z.toInt)):=by
  obtain ⟨A,hA⟩:=walkV_ints L high at_
  obtain ⟨C,hC⟩:=walkV_ints L at_ low
  have eA:(walkV L high at_).map AV.toInt=A:=by rw [hA,List.map_map]; exact List.map_id A
  have eC:(walkV L at_ low).map AV.toInt=C:=by rw [hC,List.map_map]; exact List.map_id C
  have c1:=fun k w (ha:∀ p u,S0 p=some u→w.cell? p=some u)=>callsIn_wide (n:=k).2 (walk_calls (w:=w) (x:=high) («to»:=at_) ha hv hL h1 h2)
  have c2:=fun k w (ha:∀ p u,S0 p=some u→w.cell? p=some u)=>callsIn_wide (n:=k).2 (walk_calls (w:=w) (x:=at_) («to»:=low) ha hv hL h2 h3)
  rw [eA] at c1
  rw [eC] at c2
  have lA:(walkV L high at_).length=A.length:=by rw [hA,List.length_map]
  have lC:(walkV L at_ low).length=C.length:=by rw [hC,List.length_map]
  rw [lA] at c1
  rw [lC] at c2
  have hbet:betV L high at_ low=if A.length=0∨C.length=0∨high≤at_∨at_≤low then [] else ((A.drop 1++C.drop 1).dropLast).reverse.map AV.int:=by
    unfold betV
    rw [lA,lC,hA,hC]
    split
    · rfl
    · rw [← List.map_drop,← List.map_drop,← List.map_append,← List.map_dropLast,List.map_reverse]
  rw [hbet]
  have twoA:A.length≠0→at_ < high→2≤A.length:=fun h1 h2=>by
    rw [← lA] at h1 ⊢
    exact walkV_two (fun e=>h1 (by rw [e]; rfl)) h2
  have twoC:C.length≠0→low < at_→2≤C.length:=fun h1 h2=>by
    rw [← lC] at h1 ⊢
    exact walkV_two (fun e=>h1 (by rw [e]; rfl)) h2
  have bA:A.length≤100000:=by rw [← lA]; exact Nat.le_trans walkV_le hL
  have bC:C.length≤100000:=by rw [← lC]; exact Nat.le_trans walkV_le hL
  clear hbet hA hC eA eC lA lC
  generalize hnA:A.length=nA at c1 twoA ⊢
  generalize hnC:C.length=nC at c2 twoC ⊢
  have hmx:Tryz.prog.follows .mixedOrders=true:=by kernel_rfl
  refine callsIn_post (fun Q hQ=>?_)
  refine callsIn_of_wp Tryz.func17 rfl trivial ?_ rfl
  simp only [Tryz.ntmps17,List.size_toArray,List.length_cons,List.length_nil,Nat.reduceAdd,Nat.reduceSub,Array.replicate_succ,Array.replicate_zero,List.push_toArray,List.append_toArray,List.nil_append,List.cons_append]
  have hnil:nA=0∨nC=0∨high≤at_∨at_≤low→∀ w',Below w.heap.size w w'→Q (.returned (.slice none 0 0)) w':=by
    intro h w' hb
    apply hQ
    rw [if_pos h]
    exact ⟨_,rfl,hb,none,0,0,rfl,Nat.le_refl 0,Nat.zero_le _,fun _=>rfl,fun h=>absurd rfl h⟩
  have HQ:Hid _:=hQ
  have HN:Hid _:=hnil
  clear hQ hnil
  gi_wp2
  refine ⟨trivial,fun h=>(by cases h),(c1 _ _ ha).mono ?_⟩
  rintro e w1 ⟨v1,rfl,⟨ad1,cp1,rfl,hle1,hr1⟩,hb1,ha1⟩
  gi_wp2
  refine ⟨trivial,fun h=>(by cases h),(c2 _ _ ha1).mono ?_⟩
  rintro e w2 ⟨v2,rfl,⟨ad2,cp2,rfl,hle2,hr2⟩,hb2,ha2⟩
  clear c1 c2
  have hb12:Below w.heap.size w w2:=hb1.trans (hb2.mono hb1.size)
  by_cases hc0:nA=0∨nC=0∨high≤at_∨at_≤low
  · have hq:=HN.out hc0 w2 hb12
    clear HQ HN hr1 hr2 twoA twoC
    by_cases g1:nA=0
    · subst g1
      gi_wp2
      exact hq
    by_cases g2:nC=0
    · subst g2
      gi_wp2
      exact hq
    by_cases g3:high≤at_
    · gi_wp2
      exact hq
    by_cases g4:at_≤low
    · gi_wp2
      exact hq
    exfalso
    omega
  clear HN
  have hQ1:=HQ.out
  rw [if_neg hc0] at hQ1
  clear HQ
  have HQ:Hid _:=hQ1
  clear hQ1
  have g1:nA≠0:=fun h=>hc0 (.inl h)
  have g2:nC≠0:=fun h=>hc0 (.inr (.inl h))
  have g3:¬ high≤at_:=fun h=>hc0 (.inr (.inr (.inl h)))
  have g4:¬ at_≤low:=fun h=>hc0 (.inr (.inr (.inr h)))
  clear hc0
  obtain ⟨gA,csA,tA,rfl,hgA,hhA,hsA,hmA,htA⟩:=hr1 (fun h=>g1 (by rw [← hnA,h]; rfl))
  obtain ⟨gC,csC,tC,rfl,hgC,hhC,hsC,hmC,htC⟩:=hr2 (fun h=>g2 (by rw [← hnC,h]; rfl))
  clear hr1 hr2
  have tA2:=twoA g1 (by omega)
  have tC2:=twoC g2 (by omega)
  clear twoA twoC
  obtain ⟨a,rfl⟩:∃ a,nA=a+2:=⟨nA-2,by omega⟩
  obtain ⟨c,rfl⟩:∃ c,nC=c+2:=⟨nC-2,by omega⟩
  obtain ⟨pa,rfl⟩:∃ pa,cp1=pa+2:=⟨cp1-2,by omega⟩
  obtain ⟨pc,rfl⟩:∃ pc,cp2=pc+2:=⟨cp2-2,by omega⟩
  gi_wp2_with fail
  · rename_i hc
    exfalso
    simp at hc
    omega
  have hA':w2.heap[gA]?=some (.cells csA tA (0,0)):=by
    rw [hb2.block gA (Array.getElem?_eq_some_iff.1 hhA).1]; exact hhA
  obtain ⟨i0,hi0,hz0,hs0,hy0⟩:∃ i,Tryz.prog.info? 3=some i∧i.zero=some (.int .i64 0)∧i.size=1∧i.bytes=8:=by
    have e1:(Tryz.prog.info? 3).map (fun i=>i.zero)=some (some (.int .i64 0)):=by kernel_rfl
    have e2:(Tryz.prog.info? 3).map (fun i=>i.size)=some 1:=by kernel_rfl
    have e3:(Tryz.prog.info? 3).map (fun i=>i.bytes)=some 8:=by kernel_rfl
    cases h:Tryz.prog.info? 3 with
    | none=>rw [h] at e1; cases e1
    | some i =>
      rw [h] at e1 e2 e3
      exact ⟨i,rfl,Option.some.inj e1,Option.some.inj e2,Option.some.inj e3⟩
  have q1:∀ (j:Nat) u,((A.drop 1).map (Value.int .i64))[j]?=some u→csA[1+j]?=some u:=fun j u hu=>row_tail htA hu
  have q2:∀ j u,((C.drop 1).map (Value.int .i64))[j]?=some u→w2.drew.cell? ((⟨gC,1,none⟩:Addr).add j)=some u:=fun j u hu=>by
    rw [show (⟨gC,1,none⟩:Addr).add j=⟨gC,1+j,none⟩ by unfold Addr.add; split <;> simp_all,cell_of_row w2.drew gC _ _ tC (0,0) hhC]
    exact row_tail htC hu
  have q3:∀ u∈(C.drop 1).map (Value.int .i64),u.oneCell'=true:=fun u hu=>by
    obtain ⟨z,_,rfl⟩:=List.mem_map.1 hu
    rfl
  have q4:w.heap.size≤w2.drew.heap.size:=Nat.le_trans hb1.size hb2.size
  obtain ⟨v4,w4,hrun,hb4,gD,oD,cD,csD,tD,rfl,hgD,hhD,hlD,hmD,htD⟩:=run_append_off (P:=Tryz.prog) (B:=w.heap.size) w2.drew 38 38 3 i0 _ (by kernel_rfl) hi0 hz0 hs0 hy0
    gA (a+1) (pa+1) csA tA hA' (by omega) (by omega) (by omega) ((A.drop 1).map (Value.int .i64)) (by simp; omega) q1
    ⟨gC,1,none⟩ (c+1) (pc+1) ((C.drop 1).map (Value.int .i64)) (by simp; omega) q2 q3 (by omega) hgA q4
  clear hi0 hz0 hs0 hy0 q1 q2 q3 htA htC
  rw [← List.map_append] at htD
  generalize hzs:A.drop 1++C.drop 1=zs at htD ⊢
  have hzl:zs.length=a+c+1+1:=by rw [← hzs,List.length_append,List.length_drop,List.length_drop,hnA,hnC]; omega
  rw [show a+1+(c+1)=a+c+1+1 by omega] at hlD hrun
  generalize hn:a+c+1=n at hzl hlD hrun
  have hbd:a+c≤200000:=by omega
  obtain ⟨pd,rfl⟩:∃ pd,cD=n+1+pd:=⟨cD-(n+1),by omega⟩
  have hH:=rev_holds hhD htD
  have hdl:zs.dropLast.length=n:=by rw [List.length_dropLast]; omega
  have crev:=fun k=>callsIn_wide (n:=k).2 (Tryz.slices_Reverse_int gD oD (n+1+pd) zs.dropLast w4 hH (by rw [hdl]; omega))
  rw [hdl] at crev
  have hfin:∀ nd,∃ v,Ending.returned (Value.slice (some ⟨gD,oD,none⟩) n (n+1+pd))=.returned v∧Below w.heap.size w (putRow (Value.int .i64) (Sort.ahead w4 nd) gD oD zs.dropLast.reverse.toArray) ∧
      ∃ ad' cap off,v=.slice ad' (zs.dropLast.reverse.map AV.int).length cap∧(zs.dropLast.reverse.map AV.int).length≤cap∧cap≤maxLen∧(ad'=none→cap=0)∧(zs.dropLast.reverse.map AV.int≠[]→∃ g,ad'=some ⟨g,off,none⟩∧w.heap.size≤g∧∀ (j:Nat) z,(zs.dropLast.reverse.map AV.int)[j]?=some z→(putRow (Value.int .i64) (Sort.ahead w4 nd) gD oD zs.dropLast.reverse.toArray).cell? ⟨g,off+j,none⟩=some (.int .i64 z.toInt)):=by
    intro nd
    have hll:(zs.dropLast.reverse.map AV.int).length=n:=by rw [List.length_map,List.length_reverse,hdl]
    have hbb:Below w.heap.size w w4:=(hb1.trans (hb2.mono hb1.size)).drew.trans hb4
    refine ⟨_,rfl,hbb.trans (rev_below hgD),some ⟨gD,oD,none⟩,n+1+pd,oD,by rw [hll],by omega,hmD,(fun h=>by cases h),fun _=>⟨gD,rfl,hgD,fun j z hz=>rev_cells hH hz⟩⟩
  have HF:Hid (∀ nd,Q (Ending.returned (Value.slice (some ⟨gD,oD,none⟩) n (n+1+pd))) (putRow (Value.int .i64) (Sort.ahead w4 nd) gD oD zs.dropLast.reverse.toArray)):=fun nd=>HQ.out _ _ (by rw [hzs]; exact hfin nd)
  clear HQ hfin
  refine wpIn_region_any hmx ?_
  try (change wpAnyIn _ _ _ _ _ _ _ _ _ (World.drew _))
  refine wpAnyIn_take (i:=0) (v:=?_) rfl rfl (by kernel_rfl) (by kernel_rfl) (by kernel_rfl) (fun _ _ _ h=>h) ⟨Or.inl ⟨by rfl,?_⟩,fun _=>rfl⟩ ?_
  rotate_left
  · intro w
    go_simp
    try with_reducible rfl
  refine wpAnyIn_take (i:=2) (v:=?_) rfl rfl (by kernel_rfl) (by kernel_rfl) (by kernel_rfl) (fun _ _ _ h=>h) ⟨Or.inl ⟨by rfl,?_⟩,fun _=>rfl⟩ ?_
  rotate_left
  · intro w
    go_simp
    try with_reducible rfl
  refine wpAnyIn_ready (rs:=[1,3]) (by kernel_rfl) (by simp) ?_
  refine AllReadyIn.cons rfl (fun K hK=>?_) (AllReadyIn.cons rfl (fun K hK=>?_) AllReadyIn.nil)
  · go_simp
    rw [if_pos (by omega)]
    go_simp
    refine hK _ _ ?_
    clear hK K
    refine wpAnyIn_ready (rs:=[3]) (by kernel_rfl) (by simp) ?_
    refine AllReadyIn.cons rfl (fun K hK=>?_) AllReadyIn.nil
    go_simp
    rw [if_pos (by omega)]
    go_simp
    refine hK _ _ ?_
    clear hK K
    refine wpAnyIn_ready (rs:=[4]) (by kernel_rfl) (by simp) ?_
    refine AllReadyIn.cons rfl (fun K hK=>?_) AllReadyIn.nil
    rw [if_pos (by kernel_rfl)]
    refine wpIn_append_run rfl rfl rfl hrun ?_
    refine hK _ _ ?_
    clear hK K
    refine wpAnyIn_ready (rs:=[5]) (by kernel_rfl) (by simp) ?_
    refine AllReadyIn.cons rfl (fun K hK=>?_) AllReadyIn.nil
    go_simp
    refine hK _ _ ?_
    clear hK K
    refine wpAnyIn_done (by kernel_rfl) ?_ _
    gi_wp2_with fail
    refine ⟨trivial,fun h=>(by cases h),(crev _).mono ?_⟩
    rintro e w5 ⟨rfl,nd,rfl⟩
    gi_wp2
    exact HF.out nd
  · go_simp
    rw [if_pos (by omega)]
    go_simp
    refine hK _ _ ?_
    clear hK K
    refine wpAnyIn_ready (rs:=[1]) (by kernel_rfl) (by simp) ?_
    refine AllReadyIn.cons rfl (fun K hK=>?_) AllReadyIn.nil
    go_simp
    rw [if_pos (by omega)]
    go_simp
    refine hK _ _ ?_
    clear hK K
    refine wpAnyIn_ready (rs:=[4]) (by kernel_rfl) (by simp) ?_
    refine AllReadyIn.cons rfl (fun K hK=>?_) AllReadyIn.nil
    rw [if_pos (by kernel_rfl)]
    refine wpIn_append_run rfl rfl rfl hrun ?_
    refine hK _ _ ?_
    clear hK K
    refine wpAnyIn_ready (rs:=[5]) (by kernel_rfl) (by simp) ?_
    refine AllReadyIn.cons rfl (fun K hK=>?_) AllReadyIn.nil
    go_simp
    refine hK _ _ ?_
    clear hK K
    refine wpAnyIn_done (by kernel_rfl) ?_ _
    gi_wp2_with fail
    refine ⟨trivial,fun h=>(by cases h),(crev _).mono ?_⟩
    rintro e w5 ⟨rfl,nd,rfl⟩
    gi_wp2
    exact HF.out nd
theorem walkV_mem {L:List AV} {x «to»:Int} {y:AV} (hy:y∈walkV L x «to»):0≤y.toInt∧y.toInt < L.length:=by
  have key:∀ (j:Nat) (x:Int) (r:List AV),0≤«to»→x < L.length→walkG L «to» j x=some r→∀ y∈r,0≤y.toInt∧y.toInt < L.length:=by
    intro j
    induction j with
    | zero=>intro x r _ _ h y hy; cases h; cases hy
    | succ j ih =>
      intro x r h0 hx h
      simp only [walkG] at h
      cases h1:ltI «to» x with
      | false=>rw [h1] at h; cases h; intro y hy; cases hy
      | true =>
        rw [h1,cond_true] at h
        cases h2:(farV L x «to»).2 with
        | false=>rw [h2] at h; cases h
        | true =>
          rw [h2,cond_true] at h
          obtain ⟨r',h3,rfl⟩:=Option.map_eq_some_iff.1 h
          have hin:=farV_in h2
          intro y hy
          rcases List.mem_cons.1 hy with rfl | hy
          · show 0≤(farV L x «to»).1∧(farV L x «to»).1 < _
            omega
          · exact ih _ _ h0 (by omega) h3 y hy
  unfold walkV at hy
  split at hy
  · cases hy
  · rename_i hc
    cases h:walkG L «to» x.toNat x with
    | none=>rw [h] at hy; cases hy
    | some r =>
      rw [h] at hy
      rcases List.mem_cons.1 hy with rfl | hy
      · show 0≤x∧x < _
        omega
      · exact key _ _ _ (by omega) (by omega) h y hy
theorem betV_mem {L:List AV} {high at_ low:Int} {y:AV} (hy:y∈betV L high at_ low):∃ z:Int,y=.int z∧0≤z∧z < L.length:=by
  have key:∀ (x «to»:Int),y∈(walkV L x «to»)→∃ z:Int,y=.int z∧0≤z∧z < L.length:=by
    intro x «to» h
    obtain ⟨zs,hz⟩:=walkV_ints L x «to»
    have h1:=walkV_mem h
    rw [hz] at h
    obtain ⟨z,_,rfl⟩:=List.mem_map.1 h
    exact ⟨z,rfl,h1⟩
  unfold betV at hy
  split at hy
  · cases hy
  · have h1:=List.dropLast_subset _ (List.mem_reverse.1 hy)
    rcases List.mem_append.1 h1 with h2 | h2
    · exact key _ _ (List.mem_of_mem_drop h2)
    · exact key _ _ (List.mem_of_mem_drop h2)
theorem between_sat {xs:List AV} {r:Res} (h:betweenX xs=some r):Sat Tryz.prog f17_info 17 xs r:=by
  intro S0 w0 vs bs ha hargs _
  obtain ⟨v1,vs1,x1,xs1,rfl,rfl,hv1,v2,vs2,x2,xs2,rfl,rfl,hv2,v3,vs3,x3,xs3,rfl,rfl,hv3,v4,vs4,x4,xs4,rfl,rfl,hv4,rfl,rfl,rfl⟩:=hargs
  have hv1':=hv1
  obtain ⟨a,len,cap,L,rfl,rfl,_⟩:=hv1'.slice
  obtain ⟨cs2,rfl,high,rfl,rfl,hw2⟩:=hv2
  obtain ⟨cs3,rfl,at_,rfl,rfl,hw3⟩:=hv3
  obtain ⟨cs4,rfl,low,rfl,rfl,hw4⟩:=hv4
  unfold betweenX at h
  simp only [toInt_i,toSlice_s] at h
  cases hb:Nat.ble L.length 100000 with
  | false=>rw [hb] at h; cases h
  | true =>
  rw [hb,cond_true] at h
  cases h
  have hL:=Nat.le_of_ble_eq_true hb
  rw [val_one rfl,val_one rfl,val_one rfl]
  refine (callsIn_wide.1 (between_in 3 ha hv1 hL hw2 hw3 hw4)).mono fun e w' he=>?_
  obtain ⟨v,rfl,hbel,ad',cap',off,rfl,hlc,hcm,hno,hcells⟩:=he
  have hold:∀ p u,S0 p=some u→w'.cell? p=some u:=fun p u h=>(hbel.cell (cell_parts (ha p u h)).2).trans (ha p u h)
  generalize hB:betV L high at_ low=R at hlc hcells ⊢
  have hRm:∀ (j:Nat) y,R[j]?=some y→∃ z:Int,y=.int z∧(Lit.int .i64 z).wf=true:=fun j y hy=>by
    have hm:=List.mem_of_getElem? hy
    rw [← hB] at hm
    obtain ⟨z,rfl,h0,h1⟩:=betV_mem hm
    refine ⟨z,rfl,?_⟩
    have hw:=wrap_wf .i64 z
    rwa [w64 (by omega) (by omega)] at hw
  by_cases hR:R=[]
  · subst hR
    exact ⟨S0,_,rfl,Snap.le_refl _,fun p u h=>.inl h,hold,keep_of_below hbel,⟨_,rfl,⟨[.slice ad' 0 cap'],(val_one rfl _).symm,ad',0,cap',[],rfl,rfl,rfl,Nat.zero_le _,hcm,hno,fun p hp i y hy=>by simp at hy⟩,fun h=>by cases h⟩,rfl,rfl⟩
  · obtain ⟨g,rfl,hg,hc⟩:=hcells hR
    have hoff:S0.off g off:=fun p hp _=>by
      cases hs:S0 p with
      | none=>rfl
      | some u=>have:=(cell_parts (ha p u hs)).2; omega
    refine ⟨S0.plus g off (R.map fun y=>.int .i64 y.toInt),_,rfl,Snap.le_plus _ _ _ _,fun p u h=>?_,fun p u h=>?_,keep_of_below hbel,⟨_,rfl,⟨[.slice (some ⟨g,off,none⟩) R.length cap'],(val_one rfl _).symm,some ⟨g,off,none⟩,R.length,cap',R,rfl,rfl,rfl,hlc,hcm,(fun h=>by cases h),fun p hp i y hy=>?_⟩,fun h=>by cases h⟩,rfl,rfl⟩
    · rcases Snap.plus_new h with k | ⟨k,_⟩
      · exact .inl k
      · exact .inr (by rw [k]; exact hg)
    · rcases Snap.plus_new h with k | ⟨k1,k2,k3,k4⟩
      · exact hold p u k
      · rw [List.getElem?_map] at k4
        obtain ⟨y,hy,rfl⟩:=Option.map_eq_some_iff.1 k4
        have:=hc _ _ hy
        rw [← this]
        congr 1
        cases p
        simp at k1 k2 k3
        subst k1 k2
        simp; omega
    · cases hp
      obtain ⟨z,rfl,hz⟩:=hRm i y hy
      refine ⟨[.int .i64 z],?_,rfl,⟨z,rfl,rfl,hz⟩⟩
      intro j w hj
      have h5:=Snap.plus_has (R.map fun y=>Value.int .i64 y.toInt) hoff i (.int .i64 z) (by rw [List.getElem?_map,hy]; rfl)
      match j,hj with
      | 0,hj =>
        cases hj
        rw [show ((⟨g,off,none⟩:Addr).add (i*Ty.size (.int .i64))).add 0=(⟨g,off,none⟩:Addr).add i by simp [Addr.add,Ty.size]]
        exact h5
end Go.Proofs.YteiahdlklppghaaGreat.Ev

namespace Go.Proofs.YteiahdlklppghaaGreat.Ev
open Go Go.RowKit
def vn (d:Nat→Nat):Nat→Nat
  | 0=>0
  | n+1=>vn d n+d n*65536^n
def upd1 (d:Nat→Nat) (p v:Nat):Nat→Nat:=fun j=>if j=p then v else d j
theorem vn_zero:∀ n,vn (fun _=>0) n=0
  | 0=>rfl
  | n+1=>by simp only [vn]; rw [vn_zero n,Nat.zero_mul]
theorem vn_lt {d:Nat→Nat} (h:∀ j,d j < 65536):∀ n,vn d n < 65536^n
  | 0=>by simp [vn]
  | n+1=>by
    have h1:=vn_lt h n
    have h2:d n*65536^n≤65535*65536^n:=Nat.mul_le_mul_right _ (by have:=h n; omega)
    have h3:65536^(n+1)=65536*65536^n:=by rw [Nat.pow_succ,Nat.mul_comm]
    simp only [vn]
    omega
theorem vn_upd {d:Nat→Nat} {p v:Nat}:∀ n,(n≤p→vn (upd1 d p v) n=vn d n)∧(p < n→vn (upd1 d p v) n+d p*65536^p=vn d n+v*65536^p)
  | 0=>⟨fun _=>rfl,fun h=>by omega⟩
  | n+1=>by
    obtain ⟨h1,h2⟩:=vn_upd (d:=d) (p:=p) (v:=v) n
    refine ⟨fun h=>?_,fun h=>?_⟩
    · have e:upd1 d p v n=d n:=by unfold upd1; rw [if_neg (by omega)]
      simp only [vn]
      rw [h1 (by omega),e]
    · by_cases hn:n=p
      · subst hn
        have e:upd1 d n v n=v:=by unfold upd1; rw [if_pos rfl]
        simp only [vn]
        rw [h1 (Nat.le_refl _),e]
        omega
      · have e:upd1 d p v n=d n:=by unfold upd1; rw [if_neg hn]
        simp only [vn]
        have:=h2 (by omega)
        rw [e]
        omega
theorem mul_step {d X Y:Nat→Nat} {N i kk m c T w nn:Nat} (hp:i+kk < N) (hw:w=if kk < m then X i*Y kk else 0) (hn:nn=d (i+kk)+c+w) (h:vn d N+c*65536^(i+kk)+X i*65536^i*vn Y m=T+X i*65536^i*vn Y (min kk m)) :
    vn (upd1 d (i+kk) (nn % 65536)) N+nn / 65536*65536^(i+(kk+1))+X i*65536^i*vn Y m=T+X i*65536^i*vn Y (min (kk+1) m):=by
  have hu:=(vn_upd (d:=d) (p:=i+kk) (v:=nn % 65536) N).2 hp
  have e1:nn / 65536*65536^(i+(kk+1))=nn / 65536*65536*65536^(i+kk):=by
    rw [← Nat.add_assoc,Nat.pow_succ,Nat.mul_assoc,Nat.mul_comm (65536^(i+kk)) 65536]
  have e2:nn % 65536*65536^(i+kk)+nn / 65536*65536*65536^(i+kk)=nn*65536^(i+kk):=by
    rw [← Nat.add_mul]
    congr 1
    omega
  have e3:nn*65536^(i+kk)=d (i+kk)*65536^(i+kk)+c*65536^(i+kk)+w*65536^(i+kk):=by rw [hn,Nat.add_mul,Nat.add_mul]
  rw [e1]
  by_cases hk:kk < m
  · rw [if_pos hk] at hw
    rw [show min kk m=kk by omega] at h
    rw [show min (kk+1) m=kk+1 by omega]
    have e4:X i*65536^i*vn Y (kk+1)=X i*65536^i*vn Y kk+w*65536^(i+kk):=by
      simp only [vn]
      rw [Nat.mul_add,hw,Nat.pow_add]
      congr 1
      simp only [Nat.mul_assoc,Nat.mul_left_comm]
    rw [e4]
    omega
  · rw [if_neg hk] at hw
    rw [show min kk m=m by omega] at h
    rw [show min (kk+1) m=m by omega]
    have e5:w*65536^(i+kk)=0:=by rw [hw,Nat.zero_mul]
    omega
theorem mul_room {d X Y:Nat→Nat} {N i kk m c:Nat} (hX:∀ j,X j < 65536) (hY:∀ j,Y j < 65536) (hc:0 < c) (hk:m≤kk) (h:vn d N+c*65536^(i+kk)+X i*65536^i*vn Y m=vn X (i+1)*vn Y m+X i*65536^i*vn Y (min kk m)):kk=m:=by
  rw [show min kk m=m by omega] at h
  have h1:=vn_lt hX (i+1)
  have h2:=vn_lt hY m
  have h3:vn X (i+1)*vn Y m≤vn X (i+1)*65536^m:=Nat.mul_le_mul_left _ (Nat.le_of_lt h2)
  have h4:vn X (i+1)*65536^m < 65536^(i+1)*65536^m:=Nat.mul_lt_mul_of_pos_right h1 (Nat.pow_pos (by decide))
  rw [← Nat.pow_add] at h4
  have h5:65536^(i+kk)≤c*65536^(i+kk):=Nat.le_mul_of_pos_left _ hc
  apply Nat.le_antisymm _ hk
  apply Nat.le_of_not_lt
  intro hlt
  have h6:65536^(i+1+m)≤65536^(i+kk):=Nat.pow_le_pow_right (by decide) (by omega)
  omega
theorem mul_make (w:World) (N:Nat) (h:N≤100000):∃ w1,(Instr.makeSlice 160 (.int .i64 (N:Int)) (.int .i64 (N:Int))).run Tryz.prog w=.ok (.slice (some ⟨w.heap.size,0,none⟩) N N) w1∧Below w.heap.size w w1 ∧
    (∀ t,t < N→w1.cell? ⟨w.heap.size,t,none⟩=some (.int .i64 0))∧∀ t,t < N→w1.frozen? ⟨w.heap.size,t,none⟩=false:=by
  obtain ⟨i0,hi0,hz0,hs0,hy0⟩:∃ i,Tryz.prog.info? 3=some i∧i.zero=some (.int .i64 0)∧i.size=1∧i.bytes=8:=by
    have e1:(Tryz.prog.info? 3).map (fun i=>i.zero)=some (some (.int .i64 0)):=by kernel_rfl
    have e2:(Tryz.prog.info? 3).map (fun i=>i.size)=some 1:=by kernel_rfl
    have e3:(Tryz.prog.info? 3).map (fun i=>i.bytes)=some 8:=by kernel_rfl
    cases h:Tryz.prog.info? 3 with
    | none=>rw [h] at e1; cases e1
    | some i =>
      rw [h] at e1 e2 e3
      exact ⟨i,rfl,Option.some.inj e1,Option.some.inj e2,Option.some.inj e3⟩
  have hr:=run_makeSlice (P:=Tryz.prog) w 160 3 i0 _ (by kernel_rfl) hi0 hz0 .i64 .i64 (N:Int) (N:Int) (by omega) (by omega) (by rw [hs0,Int.toNat_natCast]; omega) (by rw [hy0]; omega) (by omega)
  rw [Int.toNat_natCast,hs0,Nat.mul_one] at hr
  refine ⟨_,hr,⟨rfl,rfl,rfl,by simp,fun q hq=>Below.heap_alloc w _ q hq⟩,fun t ht=>?_,fun t ht=>?_⟩
  · rw [cell_of_row _ _ _ _ _ (0,0) (heap_alloc_new w _)]
    rw [show (Value.int IntKind.i64 0).cells=#[Value.int .i64 0] from rfl]
    simp [madeCells,ht,Nat.mod_one]
  · unfold World.frozen?
    rw [show (w.alloc (.cells (madeCells (Value.int IntKind.i64 0).cells N) 3)).heap[w.heap.size]?=some _ from heap_alloc_new w _]
    simp
theorem upd_cells {w:World} {g N p v:Nat} {d:Nat→Nat} (hp:p < N) (hc:∀ t,t < N→w.cell? ⟨g,t,none⟩=some (.int .i64 (d t:Int))):∀ t,t < N→(w.setCell ⟨g,p,none⟩ (.int .i64 (v:Int))).cell? ⟨g,t,none⟩=some (.int .i64 (upd1 d p v t:Int)):=by
  intro t ht
  obtain ⟨c,e,fr,hb,hcc⟩:=Sort.cells_of_cell? (hc t ht)
  have hpc:p < c.size:=by
    obtain ⟨c',e',fr',hb',hcc'⟩:=Sort.cells_of_cell? (hc p hp)
    rw [hb] at hb'
    cases hb'
    exact (Array.getElem?_eq_some_iff.1 hcc').1
  rw [Sort.setCell_eq,Sort.cell?_mapBlock w g t _ hb]
  unfold upd1
  by_cases h:t=p
  · subst h
    rw [if_pos rfl]
    simp [hpc]
  · rw [if_neg h,Array.getElem?_setIfInBounds_ne (by omega),hcc]
theorem upd_frozen {w:World} {g N p:Nat} {v:Value} (hf:∀ t,t < N→w.frozen? ⟨g,t,none⟩=false):∀ t,t < N→(w.setCell ⟨g,p,none⟩ v).frozen? ⟨g,t,none⟩=false:=by
  intro t ht
  rw [Sort.setCell_eq,Sort.frozen?_mapBlock]
  exact hf t ht
theorem calls_post {P:Program} {f:FuncId} {args:Array Value} {w:World} {R:Ending→World→Prop} (h:∀ Q:Ending→World→Prop,(∀ e w',R e w'→Q e w')→Calls P f args w Q):Calls P f args w R:=h R fun _ _ h=>h
def trimL:List AV→List AV
  | []=>[]
  | a::r=>match trimL r with
    | []=>bif eqI a.toInt 0 then [] else [a]
    | b::s=>a::b::s
theorem trimL_last (a:AV):∀ y:List AV,trimL (y++[a])=bif eqI a.toInt 0 then trimL y else y++[a]
  | []=>by
    show (bif eqI a.toInt 0 then [] else [a])=_
    cases eqI a.toInt 0 <;> rfl
  | b::y=>by
    have ih:=trimL_last a y
    show (match trimL (y++[a]) with | []=>bif eqI b.toInt 0 then [] else [b] | c::s=>b::c::s)=_
    rw [ih]
    cases eqI a.toInt 0 with
    | true=>rfl
    | false =>
      rw [cond_false,cond_false]
      cases y <;> rfl
theorem trim_runs {L:List AV} (hL:L.length≤100000):Runs G noExt 173 [.slice L] ⟨[.slice (trimL L)],[],f173_fresh⟩:=by
  refine Evt.succ ((Evt.ge (L.length+2)).mono fun n hn=>?_)
  have key:∀ (j:Nat) (k:Nat) (y:List AV),y.length=j→j≤100000→j < k→f173_l0 (runE G noExt n) n k y=some ⟨[.slice (trimL y)],[],f173_fresh⟩:=by
    intro j
    induction j with
    | zero =>
      intro k y hy _ hk
      obtain ⟨k,rfl⟩:∃ j,k=j+1:=⟨k-1,by omega⟩
      rw [f173_l0_eq,ltI_f (by omega),cond_false,List.length_eq_zero_iff.1 hy]; rfl
    | succ j ih =>
      intro k y hy hj hk
      obtain ⟨k,rfl⟩:∃ j,k=j+1:=⟨k-1,by omega⟩
      rcases List.eq_nil_or_concat y with rfl | ⟨x,a,rfl⟩
      · simp at hy
      · rw [List.concat_eq_append] at hy ⊢
        have hx:x.length=j:=by simp at hy; omega
        have e1:nth (x++[a]) j=a:=by
          rw [nth_lt (by rw [hy]; omega),List.getElem_append_right (by omega)]
          simp [hx]
        have e2:(x++[a]).take j=x:=by rw [← hx,List.take_left]
        rw [f173_l0_eq,hy,ltI_t (by omega),cond_true,w64 (by omega) (by omega),show ((j+1:Nat):Int)-1=(j:Int) by omega,inR_nat (by omega),cond_true,Int.toNat_natCast,e1,trimL_last]
        cases eqI a.toInt 0 with
        | false=>rfl
        | true =>
          rw [cond_true,show (boundsOk 0 (j:Int) ((j+1:Nat):Int) ((j+1:Nat):Int)&&true)=true by simp [boundsOk]; omega,cond_true,e2,List.drop_zero,ih k x hx (by omega) (by omega)]
          rfl
  rw [f173_run,f173_eq]
  exact key L.length n L rfl hL (by omega)
theorem vn_shift (d:Nat→Nat):∀ n,vn d (n+1)=d 0+65536*vn (fun j=>d (j+1)) n
  | 0=>by simp [vn]
  | n+1=>by
    have ih:=vn_shift d n
    have e:vn d (n+1+1)=vn d (n+1)+d (n+1)*65536^(n+1):=rfl
    have e2:vn (fun j=>d (j+1)) (n+1)=vn (fun j=>d (j+1)) n+d (n+1)*65536^n:=rfl
    have e3:d (n+1)*65536^(n+1)=65536*(d (n+1)*65536^n):=by rw [Nat.pow_succ,← Nat.mul_assoc,Nat.mul_comm]
    rw [e,e2,ih,e3,Nat.mul_add]
    omega
theorem digs_zero:∀ k,digs k 0=[]
  | 0=>rfl
  | k+1=>rfl
theorem trimL_digs:∀ (N:Nat) (d:Nat→Nat),(∀ j,d j < 65536)→trimL ((List.range N).map fun t=>.int (d t:Int))=digs N (vn d N)∧(digs N (vn d N)=[]→vn d N=0)
  | 0,d,_=>⟨rfl,fun _=>rfl⟩
  | N+1,d,h=>by
    obtain ⟨h1,h2⟩:=trimL_digs N (fun j=>d (j+1)) (fun j=>h (j+1))
    have h0:=h 0
    have e:(List.range (N+1)).map (fun t=>AV.int (d t:Int))=.int (d 0:Int)::(List.range N).map (fun t=>AV.int (d (t+1):Int)):=by
      rw [List.range_succ_eq_map,List.map_cons,List.map_map]
      rfl
    rw [e,vn_shift]
    generalize vn (fun j=>d (j+1)) N=v at h1 h2 ⊢
    have e1:(d 0+65536*v) % 65536=d 0:=by omega
    have e2:(d 0+65536*v) / 65536=v:=by omega
    have hd:digs (N+1) (d 0+65536*v)=if d 0+65536*v=0 then [] else .int ((d 0:Nat):Int)::digs N v:=by
      show (if d 0+65536*v=0 then [] else AV.int (((d 0+65536*v) % 65536:Nat):Int)::digs N ((d 0+65536*v) / 65536))=_
      rw [e1,e2]
    rw [hd]
    have ht:trimL (.int (d 0:Int)::(List.range N).map (fun t=>AV.int (d (t+1):Int)))=match digs N v with | []=>bif eqI (d 0:Int) 0 then [] else [.int (d 0:Int)] | b::s=>.int (d 0:Int)::b::s:=by
      rw [← h1]; rfl
    rw [ht]
    cases hg:digs N v with
    | nil =>
      have hv:=h2 hg
      subst hv
      by_cases hz:d 0=0
      · rw [hz]; exact ⟨rfl,fun _=>rfl⟩
      · rw [if_neg (by omega)]
        refine ⟨?_,fun h=>by cases h⟩
        show (bif eqI (d 0:Int) 0 then [] else [AV.int (d 0:Int)])=_
        rw [eqI_f (by omega),cond_false]
    | cons b s =>
      have hv:v≠0:=fun h=>by rw [h,digs_zero] at hg; cases hg
      rw [if_neg (by omega)]
      exact ⟨rfl,fun h=>by cases h⟩
theorem trim_calls {S0:Snap} {w wr:World} {g N:Nat} {d:Nat→Nat} (ha:∀ p u,S0 p=some u→w.cell? p=some u) (hg:g=w.heap.size) (hb:Below g w wr) (hc:∀ t,t < N→wr.cell? ⟨g,t,none⟩=some (.int .i64 (d t:Int))) (hd:∀ j,d j < 65536) (hN:N≤100000) :
    Calls Tryz.prog 173 #[.slice (some ⟨g,0,none⟩) N N] wr fun e w'=>∃ S v',e=.returned v'∧S0.le S∧(∀ p u,S p=some u→S0 p=some u∨w.heap.size≤p.block)∧(∀ p u,S p=some u→w'.cell? p=some u)∧Below w.heap.size w w'∧VRep S (.slice (.int .i64)) v' (.slice (digs N (vn d N))):=by
  have hr:=trim_runs (L:=(List.range N).map fun t=>AV.int (d t:Int)) (by simpa using hN)
  rw [(trimL_digs N d hd).1] at hr
  have hs:=sat_of_runs types_ok fns_ok (f:=173) (i:=f173_info) (by kernel_rfl) hr
  have hoff:S0.off g 0:=fun p hp _=>by
    cases hs:S0 p with
    | none=>rfl
    | some u=>have:=(cell_parts (ha p u hs)).2; omega
  have ha1:∀ p u,S0.plus g 0 ((List.range N).map fun t=>Value.int .i64 (d t:Int)) p=some u→wr.cell? p=some u:=by
    intro p u h
    rcases Snap.plus_new h with k | ⟨k1,k2,_,k4⟩
    · exact (hb.cell (by rw [hg]; exact (cell_parts (ha p u k)).2)).trans (ha p u k)
    · have hlt:=(List.getElem?_eq_some_iff.1 k4).1
      simp at hlt
      have:=hc p.off hlt
      rw [Nat.sub_zero,List.getElem?_map,List.getElem?_range hlt] at k4
      cases k4
      rw [← this]
      congr 1
      cases p
      simp at k1 k2
      simp [k1,k2]
  refine (hs (S0.plus g 0 ((List.range N).map fun t=>Value.int .i64 (d t:Int))) wr [.slice (some ⟨g,0,none⟩) N N] [] ha1 ?_ (by simp)).mono ?_
  · refine ⟨.slice (some ⟨g,0,none⟩) N N,_,_,_,rfl,rfl,⟨[.slice (some ⟨g,0,none⟩) N N],(val_one rfl _).symm,some ⟨g,0,none⟩,N,N,(List.range N).map fun t=>AV.int (d t:Int),rfl,rfl,by simp,Nat.le_refl _,by rw [maxLen_eq]; omega,(fun h=>by cases h),fun p hp i y hy=>?_⟩,rfl,rfl,rfl⟩
    cases hp
    have hlt:=(List.getElem?_eq_some_iff.1 hy).1
    simp at hlt
    rw [List.getElem?_map,List.getElem?_range hlt] at hy
    cases hy
    have hw:=wrap_wf .i64 (d i:Int)
    have hdi:=hd i
    rw [w64 (by omega) (by omega)] at hw
    refine ⟨[.int .i64 (d i:Int)],?_,rfl,⟨_,rfl,rfl,hw⟩⟩
    intro j u hj
    have h5:=Snap.plus_has ((List.range N).map fun t=>Value.int .i64 (d t:Int)) hoff i (.int .i64 (d i:Int)) (by rw [List.getElem?_map,List.getElem?_range hlt]; rfl)
    match j,hj with
    | 0,hj =>
      cases hj
      rw [show ((⟨g,0,none⟩:Addr).add (i*Ty.size (.int .i64))).add 0=(⟨g,0,none⟩:Addr).add i by simp [Addr.add,Ty.size]]
      exact h5
  · rintro e w' ⟨S,v',rfl,hle,hnew,hag,hk,⟨y,hy,hvr,_⟩,_⟩
    cases hy
    refine ⟨S,v',rfl,Snap.le_trans (Snap.le_plus _ _ _ _) hle,fun p u h=>?_,hag,?_,hvr⟩
    · rcases hnew p u h with k | k
      · rcases Snap.plus_new k with k | ⟨k,_⟩
        · exact .inl k
        · exact .inr (by rw [k,hg]; exact Nat.le_refl _)
      · exact .inr (Nat.le_trans hb.size k)
    · rw [hg] at hb
      exact hb.trans (hk.below.mono hb.size)
set_option maxRecDepth 100000 in
set_option maxHeartbeats 800000 in
theorem mul_walk {S0:Snap} {w:World} {ax ay:Option Addr} {bx ox n capx bY oY m capy:Nat} {X Y:Nat→Nat} (ha:∀ p u,S0 p=some u→w.cell? p=some u) (hax:ax=some ⟨bx,ox,none⟩∨n=0) (hay:ay=some ⟨bY,oY,none⟩∨m=0) (hX:∀ j,X j < 65536) (hY:∀ j,Y j < 65536) (hn:n≤1000) (hm:m≤1000) (hbx:0 < n→bx < w.heap.size) (hby:0 < m→bY < w.heap.size)
    (hcx:∀ t,t < n→w.cell? ⟨bx,ox+t,none⟩=some (.int .i64 (X t:Int))) (hcy:∀ t,t < m→w.cell? ⟨bY,oY+t,none⟩=some (.int .i64 (Y t:Int)))
    :
    Calls Tryz.prog 159 #[.slice ax n capx,.slice ay m capy] w fun e w'=>∃ S v',e=.returned v'∧S0.le S∧(∀ p u,S p=some u→S0 p=some u∨w.heap.size≤p.block)∧(∀ p u,S p=some u→w'.cell? p=some u)∧Below w.heap.size w w'∧VRep S (.slice (.int .i64)) v' (.slice (digs (n+m+1) (vn X n*vn Y m))):=by
  refine calls_post (fun Q hQ=>?_)
  have HQ:Hid _:=hQ
  clear hQ
  obtain ⟨w1,hmk,hb1,hc1,hf1⟩:=mul_make w (n+m+1) (by omega)
  have hmk2:(Instr.makeSlice 160 (.int .i64 ((n:Int)+(m:Int)+1)) (.int .i64 ((n:Int)+(m:Int)+1))).run Tryz.prog w=.ok (.slice (some ⟨w.heap.size,0,none⟩) (n+m+1) (n+m+1)) w1:=by
    rw [show ((n:Int)+(m:Int)+1)=((n+m+1:Nat):Int) by omega]; exact hmk
  clear hmk
  go_enter Tryz.func159,Tryz.ntmps159
  obtain ⟨g,hg⟩:∃ g,g=w.heap.size:=⟨_,rfl⟩
  rw [← hg] at hb1 hc1 hf1 hmk2 hbx hby
  have HG:Hid (g=w.heap.size):=hg
  have HA:Hid _:=ha
  clear hg ha
  go_wp2_with fail
  go_loopg [6] n (fun k s6 wr=>∃ (i:Nat) (d:Nat→Nat),s6=.int .i64 (i:Int)∧i≤n∧n-i≤k∧(∀ j,d j < 65536)∧Aside (vn d (n+m+1)=vn X i*vn Y m)∧Below g w wr∧(∀ t,t < n+m+1→wr.cell? ⟨g,t,none⟩=some (.int .i64 (d t:Int)))∧∀ t,t < n+m+1→wr.frozen? ⟨g,t,none⟩=false)
  case atStart=>exact ⟨0,fun _=>0,rfl,by omega,by omega,fun _=>(by decide:0 < 65536),by (show vn _ _=vn X 0*_); rw [vn_zero]; exact (Nat.zero_mul _).symm,hb1,hc1,hf1⟩
  case round =>
    obtain ⟨i,d,rfl,hi,hk,hd,hv,hb,hc,hf⟩:=hrel
    by_cases hin:i < n
    · have hax':ax=some ⟨bx,ox,none⟩:=hax.resolve_right (by omega)
      clear hax
      subst hax'
      have hiz:(i:Int) < (n:Int):=by omega
      go_wp2_with fail
      go_loopg [7,8] (m+2) (fun k s7 s8 wr2=>∃ (c kk:Nat) (d2:Nat→Nat),s7=.int .i64 (c:Int)∧s8=.int .i64 (kk:Int)∧c < 65536∧kk≤m+1∧m+2-kk≤k∧(∀ j,d2 j < 65536)∧Aside (vn d2 (n+m+1)+c*65536^(i+kk)+X i*65536^i*vn Y m=vn X (i+1)*vn Y m+X i*65536^i*vn Y (min kk m))∧Below g w wr2∧(∀ t,t < n+m+1→wr2.cell? ⟨g,t,none⟩=some (.int .i64 (d2 t:Int)))∧∀ t,t < n+m+1→wr2.frozen? ⟨g,t,none⟩=false)
      case atStart =>
        refine ⟨0,0,d,rfl,rfl,by omega,by omega,by omega,hd,?_,hb,hc,hf⟩
        show vn d (n+m+1)+0*65536^(i+0)+X i*65536^i*vn Y m=vn X (i+1)*vn Y m+X i*65536^i*vn Y (min 0 m)
        rw [hv.out,Nat.zero_mul,Nat.zero_min]
        simp only [vn]
        rw [Nat.add_mul,Nat.mul_zero]
        omega
      case round =>
        obtain ⟨c,kk,d2,rfl,rfl,hc2,hkk,hk2,hd2,hv2,hb2,hcd,hfd⟩:=hrel
        clear hc hf hb hv hd
        have hcxr:∀ t,t < n→wr.cell? ⟨bx,ox+t,none⟩=some (.int .i64 (X t:Int)):=fun t ht=>(hb2.cell (hbx (by omega))).trans (hcx t ht)
        have hcyr:∀ t,t < m→wr.cell? ⟨bY,oY+t,none⟩=some (.int .i64 (Y t:Int)):=fun t ht=>(hb2.cell (hby (by omega))).trans (hcy t ht)
        have AA:Hid (Below g w wr):=hb2
        clear hcx hcy hb2
        by_cases hkm:kk < m
        · have hay':ay=some ⟨bY,oY,none⟩:=hay.resolve_right (by omega)
          clear hay
          subst hay'
          have hkz:(kk:Int) < (m:Int):=by omega
          have hikN:i+kk < n+m+1:=by omega
          have hikz:(i:Int)+(kk:Int) < (n:Int)+(m:Int)+1:=by omega
          have hdi:=hd2 (i+kk)
          have hXi:=hX i
          have hYk:=hY kk
          have hp0:(0:Int)≤(X i:Int)*(Y kk:Int):=Int.mul_nonneg (by omega) (by omega)
          have hp1:(X i:Int)*(Y kk:Int)≤4294836225:=by
            have:X i*Y kk≤65535*65535:=Nat.mul_le_mul (by omega) (by omega)
            have h2:((X i*Y kk:Nat):Int)≤((65535*65535:Nat):Int):=by omega
            rw [Int.natCast_mul] at h2
            omega
          go_wp2_with fail
          go_region
          go_wp2_with fail
          go_roundg (m+2-(kk+1))
          case measure=>omega
          case rel =>
            refine ⟨(d2 (i+kk)+c+X i*Y kk) / 65536,kk+1,upd1 d2 (i+kk) ((d2 (i+kk)+c+X i*Y kk) % 65536),?_,by simp,?_,by omega,Nat.le_refl _,?_,?_,?_,?_,?_⟩
            · simp
            · have h2:X i*Y kk≤65535*65535:=Nat.mul_le_mul (by omega) (by omega)
              omega
            · intro j
              unfold upd1
              split
              · omega
              · exact hd2 j
            · exact mul_step hikN (by rw [if_pos hkm]) rfl hv2
            · exact ((AA.out.setCell (Nat.le_refl g) _).drew)
            · have:=upd_cells (v:=(d2 (i+kk)+c+X i*Y kk) % 65536) hikN hcd
              simpa using this
            · exact upd_frozen hfd
        · have hkz:¬ (kk:Int) < (m:Int):=by omega
          by_cases hc0:c=0
          · subst hc0
            go_wp2_with fail
            go_roundg (n-(i+1))
            case measure=>omega
            case rel =>
              refine ⟨i+1,d2,by simp,by omega,Nat.le_refl _,hd2,?_,AA.out,hcd,hfd⟩
              have:=hv2.out
              rw [show min kk m=m by omega,Nat.zero_mul,Nat.add_zero] at this
              exact Nat.add_right_cancel this
          · have hcz:0 < (c:Int):=by omega
            have hroom:=mul_room hX hY (Nat.pos_of_ne_zero hc0) (Nat.le_of_not_lt hkm) hv2.out
            have hikN:i+kk < n+m+1:=by omega
            have hikz:(i:Int)+(kk:Int) < (n:Int)+(m:Int)+1:=by omega
            have hdi:=hd2 (i+kk)
            have HR:Hid (kk=m):=hroom
            clear hroom
            go_wp2_with fail
            go_roundg (m+2-(kk+1))
            case measure=>omega
            case rel =>
              have hroom:=HR.out
              refine ⟨(d2 (i+kk)+c+0) / 65536,kk+1,upd1 d2 (i+kk) ((d2 (i+kk)+c+0) % 65536),?_,by simp,?_,by omega,Nat.le_refl _,?_,?_,?_,?_,?_⟩
              · simp
              · omega
              · intro j
                unfold upd1
                split
                · omega
                · exact hd2 j
              · exact mul_step hikN (by rw [if_neg hkm]) rfl hv2
              · exact AA.out.setCell (Nat.le_refl g) _
              · have:=upd_cells (v:=(d2 (i+kk)+c+0) % 65536) hikN hcd
                simpa using this
              · exact upd_frozen hfd
    · have hiz:¬ (i:Int) < (n:Int):=by omega
      have hin2:i=n:=by omega
      have HV:Hid (vn d (n+m+1)=vn X n*vn Y m):=by
        have h:=hv.out
        rw [hin2] at h
        exact h
      have hcall:=trim_calls (S0:=S0) (w:=w) (wr:=wr) (g:=g) (N:=n+m+1) (d:=d) HA.out HG.out hb hc hd (by omega)
      clear hin2 hv hax hay
      go_wp2_with fail
      refine hcall.mono ?_
      rintro e w' ⟨S,v',rfl,h1,h2,h3,h4,h5⟩
      clear hcall
      rw [HV.out] at h5
      have hq:=HQ.out (.returned v') w' ⟨S,v',rfl,h1,h2,h3,h4,h5⟩
      clear h1 h2 h3 h4 h5 HQ
      go_wp2
      exact hq
theorem slice_cells {S0:Snap} {w0:World} {a:Option Addr} {len cap:Nat} {es:List AV} (ha:∀ p u,S0 p=some u→w0.cell? p=some u) (hlen:es.length=len) (hlc:len≤cap) (hc0:a=none→cap=0)
    (hes:∀ p,a=some p→∀ (i:Nat) y,es[i]?=some y→∃ ds,S0.has (p.add (i*(Ty.int .i64).size)) ds∧ds.length=(Ty.int .i64).size∧Rep S0 (.int .i64) ds y) :
    ∃ b off,(a=some ⟨b,off,none⟩∨len=0)∧(0 < len→b < w0.heap.size)∧∀ j,j < len→w0.cell? ⟨b,off+j,none⟩=some (.int .i64 ((es[j]?.map AV.toInt).getD 0)):=by
  have hcell:∀ p,a=some p→∀ j,j < len→w0.cell? (p.add j)=some (.int .i64 ((es[j]?.map AV.toInt).getD 0)):=by
    intro p hp j hj
    have hj2:j < es.length:=by omega
    obtain ⟨ds,h1,h2,h4⟩:=hes p hp j es[j] (by rw [List.getElem?_eq_getElem hj2])
    obtain ⟨z,rfl,hz,_⟩:=h4
    have h5:=h1 0 _ rfl
    rw [show (p.add (j*Ty.size (.int .i64))).add 0=p.add j by simp [Addr.add,Ty.size]] at h5
    rw [ha _ _ h5,List.getElem?_eq_getElem hj2,hz]
    rfl
  by_cases h0:len=0
  · exact ⟨0,0,.inr h0,fun h=>by omega,fun j hj=>by omega⟩
  · cases a with
    | none=>have:=hc0 rfl; omega
    | some p =>
      have c0:=hcell p rfl 0 (by omega)
      rw [show p.add 0=p by simp [Addr.add]] at c0
      have c1:=cell_parts c0
      refine ⟨p.block,p.off,.inl ?_,fun _=>c1.2,fun j hj=>?_⟩
      · cases p; simp at c1; simp [c1.1]
      · rw [← hcell p rfl j hj]
        congr 1
        cases p
        simp at c1
        simp [Addr.add,c1.1]
def dg (es:List AV) (t:Nat):Nat:=((es[t]?.map AV.toInt).getD 0).toNat
theorem vl_vn:∀ es:List AV,vn (dg es) es.length=vl es
  | []=>rfl
  | a::r=>by
    rw [List.length_cons,vn_shift]
    show (dg (a::r) 0)+65536*vn (dg r) r.length=_
    rw [vl_vn r]; rfl
theorem digOk_at {es:List AV} (h:digOk es=true) (t:Nat):(es[t]?.map AV.toInt).getD 0=(dg es t:Int)∧dg es t < 65536:=by
  unfold dg
  cases ht:es[t]? with
  | none=>exact ⟨rfl,by decide⟩
  | some a =>
    unfold digOk at h
    have:=List.all_eq_true.1 h a (List.mem_of_getElem? ht)
    rw [Bool.and_eq_true] at this
    have h1:=leI_iff.1 this.1
    have h2:=ltI_iff.1 this.2
    show a.toInt=(a.toInt.toNat:Int)∧a.toInt.toNat < 65536
    omega
theorem mul_sat {xs:List AV} {r:Res} (h:mulX xs=some r):Sat Tryz.prog f159_info 159 xs r:=by
  intro S0 w0 vs bs ha hargs _
  obtain ⟨v1,vs1,x1,xs1,rfl,rfl,hv1,v2,vs2,x2,xs2,rfl,rfl,hv2,rfl,rfl,rfl⟩:=hargs
  obtain ⟨a1,n1,cap1,L1,rfl,rfl,g1,g2,g3,g4,g5⟩:=hv1.slice
  obtain ⟨a2,n2,cap2,L2,rfl,rfl,k1,k2,k3,k4,k5⟩:=hv2.slice
  unfold mulX at h
  simp only [toSlice_s] at h
  cases hb:Nat.ble L1.length 1000&&(Nat.ble L2.length 1000&&(digOk L1&&digOk L2)) with
  | false=>rw [hb] at h; cases h
  | true =>
  rw [hb,cond_true] at h
  cases h
  simp only [Bool.and_eq_true] at hb
  obtain ⟨b1,b2,b3,b4⟩:=hb
  have b1:=Nat.le_of_ble_eq_true b1
  have b2:=Nat.le_of_ble_eq_true b2
  obtain ⟨bx,ox,p1,p2,p3⟩:=slice_cells ha g1 g2 g4 g5
  obtain ⟨bY,oY,q1,q2,q3⟩:=slice_cells ha k1 k2 k4 k5
  have hw:=mul_walk (S0:=S0) (w:=w0) (ax:=a1) (ay:=a2) (bx:=bx) (ox:=ox) (n:=n1) (capx:=cap1) (bY:=bY) (oY:=oY) (m:=n2) (capy:=cap2) (X:=dg L1) (Y:=dg L2) ha p1 q1 (fun j=>(digOk_at b3 j).2) (fun j=>(digOk_at b4 j).2) (by omega) (by omega) p2 q2
    (fun t ht=>by rw [p3 t ht,(digOk_at b3 t).1]) (fun t ht=>by rw [q3 t ht,(digOk_at b4 t).1])
  refine hw.mono fun e w' he=>?_
  obtain ⟨S,v',rfl,h1,h2,h3,h4,h5⟩:=he
  rw [← g1,← k1,vl_vn,vl_vn] at h5
  exact ⟨S,v',rfl,h1,h2,h3,keep_of_below h4,⟨_,rfl,h5,fun h=>by cases h⟩,rfl,rfl⟩
end Go.Proofs.YteiahdlklppghaaGreat.Ev

namespace Go.Proofs.YteiahdlklppghaaGreat.Ev
open Go Go.RowKit
theorem str_back {S0:Snap} {w0 w:World} {l:List UInt8} (ha:∀ p v,S0 p=some v→w0.cell? p=some v) (hb:Below w0.heap.size w0 w) (hl:l.length≤maxLen) :
    ∃ S v,(Ending.returned (.string ⟨l.toArray⟩))=.returned v∧S0.le S∧(∀ p u,S p=some u→S0 p=some u∨w0.heap.size≤p.block)∧(∀ p u,S p=some u→w.cell? p=some u) ∧
      Keep w0.heap.size [] w0 w∧ResRel S w w0.heap.size [.val .str] ⟨[.str l],[],false⟩ v∧OutsRel S w [] [] []:=by
  refine ⟨S0,_,rfl,Snap.le_refl _,fun p u h=>.inl h,fun p u h=>?_,keep_of_below hb,⟨.str l,rfl,⟨[.string ⟨l.toArray⟩],(val_one rfl _).symm,l,rfl,rfl,hl⟩,fun h=>by cases h⟩,rfl,rfl⟩
  have h1:=ha p u h
  exact (hb.cell (cell_parts h1).2).trans h1
theorem join_sat {xs:List AV} {r:Res} (h:joinX xs=some r):Sat Tryz.prog f172_info 172 xs r:=by
  intro S0 w0 vs bs ha hargs _
  obtain ⟨v1,vs1,x1,xs1,rfl,rfl,hv1,v2,vs2,x2,xs2,rfl,rfl,hv2,rfl,rfl,rfl⟩:=hargs
  obtain ⟨cs1,rfl,a,len,cap,es,rfl,rfl,hlen,hlc,hcap,hc0,hes⟩:=hv1
  obtain ⟨cs2,rfl,s,rfl,rfl,hs⟩:=hv2
  unfold joinX at h
  simp only [toSlice_s,toStr_s] at h
  cases hb:Nat.ble es.length 1048576&&Nat.ble (Lib.join (es.map AV.toStr) s).length 140737488355328 with
  | false=>rw [hb] at h; cases h
  | true =>
  rw [hb,cond_true] at h
  cases h
  simp only [Bool.and_eq_true] at hb
  have hb1:=Nat.le_of_ble_eq_true hb.1
  have hb2:=Nat.le_of_ble_eq_true hb.2
  rw [val_one rfl,val_one rfl]
  have hj:(Lib.join (es.map AV.toStr) s).length≤maxLen:=by rw [maxLen_eq]; omega
  cases es with
  | nil =>
    obtain rfl:len=0:=by simpa using hlen.symm
    refine (Tryz.strings_Join_none a cap ⟨s.toArray⟩ w0).mono fun e w' ⟨he,hw⟩=>?_
    subst he
    subst hw
    have:=str_back (l:=[]) ha (Below.refl _ w') (by simp)
    exact this
  | cons y0 er =>
    have hget:∀ (i:Nat) y,(y0::er)[i]?=some y→∀ p,a=some p→w0.cell? (p.add i)=some (.string ⟨y.toStr.toArray⟩):=by
      intro i y hi p hp
      obtain ⟨ds,h1,h2,h3⟩:=hes p hp i y hi
      obtain ⟨t,rfl,rfl,_⟩:=h3
      have:=h1 0 _ rfl
      rw [show (p.add (i*Ty.size .str)).add 0=p.add i by simp [Addr.add,Ty.size]] at this
      exact ha _ _ this
    obtain ⟨p,rfl⟩:∃ p,a=some p:=by
      cases a with
      | some p=>exact ⟨p,rfl⟩
      | none =>
        have:=hc0 rfl
        simp at hlen
        omega
    have h0:=cell_parts (hget 0 y0 rfl p rfl)
    have hp0:p.add 0=p:=by simp [Addr.add]
    rw [hp0] at h0
    have hpe:p=⟨p.block,p.off,none⟩:=by
      cases p
      simp at h0
      simp [h0.1]
    have e1:((y0::er).map fun y=>(⟨y.toStr.toArray⟩:ByteArray)).map (·.data.toList)=(y0::er).map AV.toStr:=by
      rw [List.map_map]
      apply List.map_congr_left
      intro y _
      simp
    have e2:((⟨s.toArray⟩:ByteArray).data.toList)=s:=by simp
    have hJ:=Tryz.strings_Join p.block p.off cap ((y0::er).map fun y=>(⟨y.toStr.toArray⟩:ByteArray)) ⟨s.toArray⟩ w0 (by
        intro j x hx
        rw [List.getElem?_map] at hx
        cases hy:(y0::er)[j]? with
        | none=>rw [hy] at hx; cases hx
        | some y =>
          rw [hy] at hx
          cases hx
          have:=hget j y hy p rfl
          rw [← this]
          congr 1
          rw [hpe]
          unfold Addr.add
          split
          · rename_i h; subst h; rfl
          · rfl) h0.2 (by rw [List.length_map]; omega) (by rw [List.length_map]; omega) (by rw [e1,e2]; exact hb2)
    rw [e1,e2,List.length_map,hlen,← hpe] at hJ
    refine hJ.mono fun e w' ⟨he,hw⟩=>?_
    subst he
    exact str_back ha hw hj
theorem repeat_sat {xs:List AV} {r:Res} (h:repeatX xs=some r):Sat Tryz.prog f180_info 180 xs r:=by
  intro S0 w0 vs bs ha hargs _
  obtain ⟨v1,vs1,x1,xs1,rfl,rfl,hv1,v2,vs2,x2,xs2,rfl,rfl,hv2,rfl,rfl,rfl⟩:=hargs
  obtain ⟨cs1,rfl,s,rfl,rfl,hs⟩:=hv1
  obtain ⟨cs2,rfl,n,rfl,rfl,_⟩:=hv2
  unfold repeatX at h
  simp only [toInt_i,toStr_s] at h
  cases hb:leI 0 n&&ltI n 1048576&&Nat.ble s.length 1048576 with
  | false=>rw [hb] at h; cases h
  | true =>
  rw [hb,cond_true] at h
  cases h
  simp only [Bool.and_eq_true] at hb
  have h0:=leI_iff.1 hb.1.1
  have h1:=ltI_iff.1 hb.1.2
  have h2:=Nat.le_of_ble_eq_true hb.2
  rw [val_one rfl,val_one rfl]
  obtain ⟨c,rfl⟩:∃ c:Nat,n=c:=⟨n.toNat,by omega⟩
  have hc:c≤1048576:=by omega
  have hm:s.length*c≤1048576*1048576:=Nat.mul_le_mul h2 hc
  have hR:=Tryz.strings_Repeat ⟨s.toArray⟩ c w0 (by omega) (by show s.toArray.size*c≤_; rw [List.size_toArray]; omega)
  refine hR.mono fun e w' ⟨he,hw⟩=>?_
  subst he
  have e2:((⟨s.toArray⟩:ByteArray).data.toList)=s:=by simp
  rw [e2,Int.toNat_natCast]
  exact str_back ha hw (by rw [Lib.repeatL_length,Nat.mul_comm,maxLen_eq]; omega)
inductive AllSat:List (FuncId × (List AV→Option Res))→Prop
  | nil:AllSat []
  | cons {f:FuncId} {g:List AV→Option Res} {l:List (FuncId × (List AV→Option Res))} {i:FnInfo} (hi:assoc G.fns f=some i) (h:∀ xs r,g xs=some r→Sat Tryz.prog i f xs r) (hl:AllSat l):AllSat ((f,g)::l)
theorem AllSat.at {l:List (FuncId × (List AV→Option Res))} (h:AllSat l):∀ f g i xs r,assoc G.fns f=some i→assoc l f=some g→g xs=some r→Sat Tryz.prog i f xs r:=by
  induction h with
  | nil=>intro f g i xs r _ e; cases e
  | @cons f0 g0 l i0 hi0 h0 _ ih =>
    intro f g i xs r hi e hr
    simp only [assoc] at e
    cases hb:Nat.beq f0 f with
    | false=>rw [hb,cond_false] at e; exact ih f g i xs r hi e hr
    | true =>
      have:f0=f:=Nat.eq_of_beq_eq_true hb
      subst this
      rw [hb,cond_true] at e
      cases e
      rw [hi0] at hi
      cases hi
      exact h0 xs r hr
theorem ext_all:AllSat extL :=
  .cons f180_at (fun _ _ h=>repeat_sat h) <|
  .cons f51_at (fun _ _ h=>places_sat h) <|
  .cons f17_at (fun _ _ h=>between_sat h) <|
  .cons f159_at (fun _ _ h=>mul_sat h) <|
  .cons f172_at (fun _ _ h=>join_sat h) <|
  .nil
theorem ext_sat:∀ f i xs r,assoc G.fns f=some i→ext f xs=some r→Sat Tryz.prog i f xs r:=by
  intro f i xs r hi h
  unfold ext at h
  cases hg:assoc extL f with
  | none=>rw [hg] at h; cases h
  | some g=>rw [hg] at h; exact ext_all.at f g i xs r hi hg h
theorem sat_of_runsX {f:FuncId} {i:FnInfo} {xs:List AV} {r:Res} (hi:assoc G.fns f=some i) (h:RunsX f xs r):Sat Tryz.prog i f xs r:=by
  obtain ⟨n,h⟩:=h.ex
  exact (runE_sound types_ok fns_ok ext_sat n).sat f i xs r hi h
end Go.Proofs.YteiahdlklppghaaGreat.Ev

namespace Go.Proofs.YteiahdlklppghaaGreat.Ev
open Go Go.RowKit
def lev (L:List AV) (i:Nat):Int:=(nth L i).toInt
def cntV (L:List AV) (lv:Int):Nat→Nat
  | 0=>0
  | k+1=>if lv≤lev L k then cntV L lv k+1 else cntV L lv k
theorem cntV_le (L:List AV) (lv:Int):∀ k,cntV L lv k≤k
  | 0=>Nat.le_refl _
  | k+1=>by
    have:=cntV_le L lv k
    simp only [cntV]
    split <;> omega
theorem cntV_step (L:List AV) (lv:Int) (k:Nat):cntV L lv k≤cntV L lv (k+1)∧cntV L lv (k+1)≤cntV L lv k+1:=by
  simp only [cntV]
  split <;> omega
theorem cntV_mono (L:List AV) (lv:Int) {i:Nat}:∀ {k:Nat},i≤k→cntV L lv i≤cntV L lv k∧cntV L lv k≤cntV L lv i+(k-i)
  | 0, h => by obtain rfl : i = 0 := by omega
               exact ⟨Nat.le_refl _,by omega⟩
  | k+1,h=>by
    by_cases e:i=k+1
    · subst e; exact ⟨Nat.le_refl _,by omega⟩
    · have:=cntV_mono L lv (i:=i) (k:=k) (by omega)
      have:=cntV_step L lv k
      omega
def allN (P:Nat→Bool):Nat→Nat→Bool
  | 0,_=>true
  | j+1,i=>bif P i then allN P j (i+1) else false
theorem allN_iff {P:Nat→Bool}:∀ {j i:Nat},allN P j i=true ↔ ∀ x,i≤x→x < i+j→P x=true
  | 0,i=>by
    constructor
    · intro _ x h1 h2; omega
    · intro _; rfl
  | j+1,i=>by
    simp only [allN]
    constructor
    · intro h x h1 h2
      cases hp:P i with
      | false=>rw [hp] at h; cases h
      | true =>
        rw [hp,cond_true] at h
        by_cases e:x=i
        · rw [e]; exact hp
        · exact allN_iff.1 h x (by omega) (by omega)
    · intro h
      rw [h i (Nat.le_refl _) (by omega),cond_true]
      exact allN_iff.2 fun x h1 h2=>h x (by omega) (by omega)
theorem allN_snoc {P:Nat→Bool}:∀ {j i:Nat},allN P (j+1) i=(allN P j i&&P (i+j))
  | 0,i=>by simp only [allN]; cases P i <;> rfl
  | j+1,i=>by
    rw [show allN P (j+1+1) i=bif P i then allN P (j+1) (i+1) else false from rfl,allN_snoc,show allN P (j+1) i=bif P i then allN P j (i+1) else false from rfl]
    cases P i
    · rfl
    · rw [cond_true,cond_true,show i+1+j=i+(j+1) by omega]
def cntL (L:List AV) (lv:Int) (N:Nat):List AV:=(List.range (N+1)).map fun j=>.int ((cntV L lv j:Nat):Int)
def cntSt (L:List AV) (lv:Int) (N i:Nat):List AV:=(List.range (N+1)).map fun j=>if j≤i then .int ((cntV L lv j:Nat):Int) else .int 0
theorem nth_rng {m i:Nat} {f:Nat→AV} (h:i < m):nth ((List.range m).map f) i=f i:=by
  rw [nth_lt (by simpa using h)]; simp
theorem set_rng (m i:Nat) (f:Nat→AV) (v:AV):((List.range m).map f).set i v=(List.range m).map (fun j=>if j=i then v else f j):=by
  apply List.ext_getElem
  · simp
  · intro j h1 h2
    simp [List.getElem_set]
    by_cases h:i=j
    · simp [h]
    · rw [if_neg h,if_neg (Ne.symm h)]
theorem cntL_len (L:List AV) (lv:Int) (N:Nat):(cntL L lv N).length=N+1:=by simp [cntL]
theorem cntL_nth (L:List AV) (lv:Int) {N i:Nat} (h:i < N+1):(nth (cntL L lv N) i).toInt=((cntV L lv i:Nat):Int):=by
  unfold cntL; rw [nth_rng h]; rfl
theorem cntSt_set (L:List AV) (lv:Int) (N i:Nat) (_:i < N):(cntSt L lv N i).set (i+1) (.int ((cntV L lv (i+1):Nat):Int))=cntSt L lv N (i+1):=by
  unfold cntSt
  rw [set_rng]
  congr 1
  funext j
  by_cases e:j=i+1
  · subst e; rw [if_pos rfl,if_pos (Nat.le_refl _)]
  · rw [if_neg e]
    by_cases e2:j≤i
    · rw [if_pos e2,if_pos (by omega)]
    · rw [if_neg e2,if_neg (by omega)]
theorem cntSt_zero (L:List AV) (lv:Int) (N:Nat):cntSt L lv N 0=List.replicate (N+1) (.int 0):=by
  unfold cntSt
  apply List.ext_getElem
  · simp
  · intro j h1 h2
    simp
    intro h
    subst h
    rfl
theorem cntSt_all (L:List AV) (lv:Int) (N:Nat):cntSt L lv N N=cntL L lv N:=by
  unfold cntSt cntL
  apply List.map_congr_left
  intro j hj
  rw [if_pos (by have:=List.mem_range.1 hj; omega)]
theorem counts_runs {L:List AV} {lv:Int} (hL:L.length≤100000):RunsX 132 [.slice L,.int lv] ⟨[.slice (cntL L lv L.length)],[],f132_fresh⟩:=by
  refine Evt.succ ((Evt.ge (L.length+2)).mono fun m hm=>?_)
  have e1:IntKind.wrap .i64 ((L.length:Int)+1)=((L.length+1:Nat):Int):=by rw [w64 (by omega) (by omega)]; omega
  have key:∀ (j k i:Nat),i+j=L.length→j < k→f132_l0 (runE G ext m) m k lv (L.length+1) L (L.length:Int) (i:Int) (cntSt L lv L.length i)=some ⟨[.slice (cntL L lv L.length)],[],f132_fresh⟩:=by
    intro j
    induction j with
    | zero =>
      intro k i hi hk
      obtain ⟨k,rfl⟩:∃ j,k=j+1:=⟨k-1,by omega⟩
      rw [f132_l0_eq,ltI_f (by omega),cond_false,show i=L.length by omega,cntSt_all,List.drop_zero,List.take_of_length_le (by rw [cntL_len]; omega)]
    | succ j ih =>
      intro k i hi hk
      obtain ⟨k,rfl⟩:∃ j,k=j+1:=⟨k-1,by omega⟩
      have hf:(AV.fld (.agg (cntSt L lv L.length i)) (0+i)).toInt=((cntV L lv i:Nat):Int):=by
        unfold AV.fld cntSt
        rw [toAgg_a,Nat.zero_add,nth_rng (by omega),if_pos (Nat.le_refl _)]; rfl
      have hf2:(AV.fld (.agg ((cntSt L lv L.length i).set (0+(i+1)) (.int ((cntV L lv i:Nat):Int)))) (0+(i+1))).toInt=((cntV L lv i:Nat):Int):=by
        unfold AV.fld cntSt
        rw [toAgg_a,Nat.zero_add,set_rng,nth_rng (by omega),if_pos rfl]; rfl
      have hc:=cntV_le L lv i
      rw [f132_l0_eq,ltI_t (by omega),cond_true,inR_nat (by omega),cond_true,inR_nat (by omega),cond_true,w64 (x:=(i:Int)+1) (by omega) (by omega),show (i:Int)+1=((i+1:Nat):Int) by omega,inR_nat (by omega),cond_true,cond_true,cond_true,Int.toNat_natCast,Int.toNat_natCast,hf,hf2,w64 (x:=((cntV L lv i:Nat):Int)+1) (by omega) (by omega)]
      by_cases h:lv≤(nth L i).toInt
      · have ec:cntV L lv (i+1)=cntV L lv i+1:=if_pos h
        rw [leI_t h,cond_true,List.set_set,Nat.zero_add,show ((cntV L lv i:Nat):Int)+1=((cntV L lv (i+1):Nat):Int) by omega,cntSt_set L lv L.length i (by omega)]
        exact ih k (i+1) (by omega) (by omega)
      · have ec:cntV L lv (i+1)=cntV L lv i:=if_neg h
        rw [leI_f h,cond_false,Nat.zero_add,← ec,cntSt_set L lv L.length i (by omega)]
        exact ih k (i+1) (by omega) (by omega)
  rw [f132_run,f132_eq,e1,eqI_t rfl,leI_t (by omega),Int.toNat_natCast,Nat.ble_eq_true_of_le (show (L.length+1)*8≤140737488355328 by omega),← cntSt_zero L lv]
  exact key L.length m 0 (by omega) (by omega)
def strP (L:List AV) (lv low:Int) (M:Int) (a b:Int) (i k:Nat):Bool :=
  bif leI M ((cntV L low k-cntV L low i:Nat):Int) then (eqI (cmpR (cntV L lv k-cntV L lv i) (cntV L low k-cntV L low i) (lv-low) a b) 1 || eqI (cmpR (cntV L lv k-cntV L lv i) (cntV L low k-cntV L low i) (lv-low) a b) 0) else true
def strV (L:List AV) (lv low M a b:Int) (N:Nat):Bool:=allN (fun i=>allN (strP L lv low M a b i) (N-i) (i+1)) N 0
theorem stretches_runs {L:List AV} {lv low M a b:Int} (hL:L.length≤1024):RunsX 133 [.slice (cntL L lv L.length),.slice (cntL L low L.length),.int (lv-low),.int M,.int a,.int b] ⟨[.bool (strV L lv low M a b L.length)],[],false⟩:=by
  have hall:=Evt.all 1025 fun x (hx:x < 1025)=>Evt.all 1025 fun y (hy:y < 1025)=>(ratioAbove_runs (n:=x) (of_:=y) (up:=lv-low) (a:=a) (b:=b) (by omega) (by omega)).2
  refine Evt.succ ((hall.and (Evt.ge (L.length+3))).mono fun m hm=>?_)
  obtain ⟨hm,hn⟩:=hm
  have k2:∀ (i:Nat) (rest:Bool) (k0:Nat),i≤L.length→f133_l0 (runE G ext m) m k0 (cntL L lv L.length) (cntL L low L.length) (lv-low) M a b ((L.length+1:Nat):Int) ((i+1:Nat):Int)=some ⟨[.bool rest],[],false⟩ →
      ∀ (j k2 k:Nat),k+j=L.length+1→i < k→j < k2→f133_l2 (runE G ext m) m k0 k2 (cntL L lv L.length) (cntL L low L.length) (lv-low) M a b (i:Int) (k:Int) ((L.length+1:Nat):Int) (i:Int)=some ⟨[.bool (allN (strP L lv low M a b i) j k&&rest)],[],false⟩:=by
    intro i rest k0 hi hrest j
    induction j with
    | zero =>
      intro k2 k hk _ hk2
      obtain ⟨k2,rfl⟩:∃ j,k2=j+1:=⟨k2-1,by omega⟩
      rw [f133_l2_eq,cntL_len,ltI_f (by omega),cond_false,w64 (by omega) (by omega),show (i:Int)+1=((i+1:Nat):Int) by omega,hrest]
      rfl
    | succ j ih =>
      intro k2 k hk hik hk2
      obtain ⟨k2,rfl⟩:∃ j,k2=j+1:=⟨k2-1,by omega⟩
      have ih':=ih k2 (k+1) (by omega) (by omega) (by omega)
      have c1:=cntV_mono L lv (i:=i) (k:=k) (by omega)
      have c2:=cntV_mono L low (i:=i) (k:=k) (by omega)
      have c3:=cntV_le L lv k
      have c4:=cntV_le L low k
      have e1:((cntV L low k:Nat):Int)-((cntV L low i:Nat):Int)=((cntV L low k-cntV L low i:Nat):Int):=by omega
      have e2:((cntV L lv k:Nat):Int)-((cntV L lv i:Nat):Int)=((cntV L lv k-cntV L lv i:Nat):Int):=by omega
      rw [f133_l2_eq,cntL_len,cntL_len,ltI_t (by omega),cond_true,inR_nat (by omega),cond_true,inR_nat (by omega),cond_true,cond_true,cond_true,Int.toNat_natCast,Int.toNat_natCast,cntL_nth L lv (by omega),cntL_nth L lv (by omega),cntL_nth L low (by omega),cntL_nth L low (by omega),e1,e2,w64 (x:=((cntV L low k-cntV L low i:Nat):Int)) (by omega) (by omega),w64 (x:=((cntV L lv k-cntV L lv i:Nat):Int)) (by omega) (by omega),w64 (x:=(k:Int)+1) (by omega) (by omega),show (k:Int)+1=((k+1:Nat):Int) by omega,ih']
      have u1:IntKind.wrap .u32 ((cntV L lv k-cntV L lv i:Nat):Int)=((cntV L lv k-cntV L lv i:Nat):Int):=by rw [wrap32]; omega
      have u2:IntKind.wrap .u32 ((cntV L low k-cntV L low i:Nat):Int)=((cntV L low k-cntV L low i:Nat):Int):=by rw [wrap32]; omega
      rw [u1,u2,hm (cntV L lv k-cntV L lv i) (by omega) (cntV L low k-cntV L low i) (by omega),step1,toBool_b]
      rw [show allN (strP L lv low M a b i) (j+1) k=bif strP L lv low M a b i k then allN (strP L lv low M a b i) j (k+1) else false from rfl]
      unfold strP
      cases leI M ((cntV L low k-cntV L low i:Nat):Int) with
      | false=>rfl
      | true =>
        rw [cond_true,cond_true]
        cases (eqI (cmpR (cntV L lv k-cntV L lv i) (cntV L low k-cntV L low i) (lv-low) a b) 1 || eqI (cmpR (cntV L lv k-cntV L lv i) (cntV L low k-cntV L low i) (lv-low) a b) 0) <;> rfl
  have k0:∀ (j k i:Nat),i+j=L.length+1→j < k→f133_l0 (runE G ext m) m k (cntL L lv L.length) (cntL L low L.length) (lv-low) M a b ((L.length+1:Nat):Int) (i:Int)=some ⟨[.bool (allN (fun i=>allN (strP L lv low M a b i) (L.length-i) (i+1)) j i)],[],false⟩:=by
    intro j
    induction j with
    | zero =>
      intro k i hi hk
      obtain ⟨k,rfl⟩:∃ j,k=j+1:=⟨k-1,by omega⟩
      rw [f133_l0_eq,ltI_f (by omega),cond_false]; rfl
    | succ j ih =>
      intro k i hi hk
      obtain ⟨k,rfl⟩:∃ j,k=j+1:=⟨k-1,by omega⟩
      rw [f133_l0_eq,ltI_t (by omega),cond_true,w64 (by omega) (by omega),show (i:Int)+1=((i+1:Nat):Int) by omega]
      rw [k2 i _ k (by omega) (ih k (i+1) (by omega) (by omega)) (L.length-i) m (i+1) (by omega) (by omega) (by omega)]
      rw [show allN (fun i=>allN (strP L lv low M a b i) (L.length-i) (i+1)) (j+1) i=bif allN (strP L lv low M a b i) (L.length-i) (i+1) then allN (fun i=>allN (strP L lv low M a b i) (L.length-i) (i+1)) j (i+1) else false from rfl]
      cases allN (strP L lv low M a b i) (L.length-i) (i+1) <;> rfl
  have hs:allN (fun i=>allN (strP L lv low M a b i) (L.length-i) (i+1)) (L.length+1) 0=strV L lv low M a b L.length:=by
    rw [allN_snoc,Nat.zero_add,Nat.sub_self]
    show (_&&true)=_
    rw [Bool.and_true]; rfl
  have hk:=k0 (L.length+1) m 0 (by omega) (by omega)
  rw [hs] at hk
  rw [f133_run,f133_eq,cntL_len]
  exact hk
def multiV (L:List AV) (lv m a b:Int):Bool :=
  bif decide (1024 < L.length) then false else bif decide (255 < lv) then false else allN (fun low:Nat=>strV L lv (low:Int) (max m 1) a b L.length) lv.toNat 0
theorem multi_runs {L:List AV} {lv m a b:Int} (hm0:-9223372036854775808≤lv) (hL:L.length≤maxLen):RunsX 112 [.slice L,.int lv,.int m,.int a,.int b] ⟨[.bool (multiV L lv m a b)],[],false⟩:=by
  rw [maxLen_eq] at hL
  unfold multiV
  by_cases h1:1024 < L.length
  · refine Evt.succ (.of fun n=>?_)
    rw [f112_run,f112_eq,ltI_t (by omega),decide_eq_true h1]; rfl
  by_cases h2:255 < lv
  · refine Evt.succ (.of fun n=>?_)
    rw [f112_run,f112_eq,ltI_f (by omega),decide_eq_false h1,ltI_t h2,decide_eq_true h2]; rfl
  have hall:=Evt.all 256 fun low (_:low < 256)=>(counts_runs (L:=L) (lv:=(low:Int)) (by omega)).and (stretches_runs (L:=L) (lv:=lv) (low:=(low:Int)) (M:=max m 1) (a:=a) (b:=b) (by omega))
  refine Evt.succ ((hall.and ((counts_runs (L:=L) (lv:=lv) (by omega)).and (Evt.ge 300))).mono fun n hn=>?_)
  obtain ⟨g1,g2,g3⟩:=hn
  rw [f112_run,f112_eq,ltI_f (by omega),decide_eq_false h1,ltI_f h2,decide_eq_false h2,cond_false,cond_false,cond_false,cond_false,g2,step1,toSlice_s,mx2_eq]
  have key:∀ (j k i:Nat),i+j=lv.toNat→j < k→f112_l0 (runE G ext n) n k L lv m a b (cntL L lv L.length) (max lv 0) (i:Int)=some ⟨[.bool (allN (fun low:Nat=>strV L lv (low:Int) (max m 1) a b L.length) j i)],[],false⟩:=by
    intro j
    induction j with
    | zero =>
      intro k i hi hk
      obtain ⟨k,rfl⟩:∃ j,k=j+1:=⟨k-1,by omega⟩
      rw [f112_l0_eq,ltI_f (by omega),cond_false]; rfl
    | succ j ih =>
      intro k i hi hk
      obtain ⟨k,rfl⟩:∃ j,k=j+1:=⟨k-1,by omega⟩
      have ih':=ih k (i+1) (by omega) (by omega)
      rw [show ((i+1:Nat):Int)=(i:Int)+1 by omega] at ih'
      obtain ⟨c1,c2⟩:=g1 i (by omega)
      rw [f112_l0_eq,ltI_t (by omega),cond_true,c1,step1,toSlice_s,w64 (x:=lv-(i:Int)) (by omega) (by omega),mx2_eq,c2,step1,toBool_b,w64 (x:=(i:Int)+1) (by omega) (by omega),ih']
      rw [show allN (fun low:Nat=>strV L lv (low:Int) (max m 1) a b L.length) (j+1) i=bif strV L lv (i:Int) (max m 1) a b L.length then allN (fun low:Nat=>strV L lv (low:Int) (max m 1) a b L.length) j (i+1) else false from rfl]
      cases strV L lv (i:Int) (max m 1) a b L.length <;> rfl
  exact key lv.toNat n 0 (by omega) (by omega)
def hitN (L:List AV) (s:Nat) (lv:Int) (n:Nat):List Nat:=(List.range n).filter fun j=>decide (s≤j)&&decide (lv≤lev L j)
theorem lev_map (L:List AV) (j:Nat):(L.map AV.toInt)[j]?.getD 0=lev L j:=by
  unfold lev nth
  rw [List.getElem?_map,List.getD_eq_getElem?_getD]
  cases L[j]? <;> rfl
theorem hitsV_hitN (L:List AV) (s:Nat) (lv:Int):hitsV (L.map AV.toInt) s lv=hitN L s lv L.length:=by
  unfold hitsV hitN
  rw [List.length_map]
  congr 1
  funext j
  rw [lev_map]
theorem hitN_succ (L:List AV) (s:Nat) (lv:Int) (n:Nat):hitN L s lv (n+1)=hitN L s lv n++if s≤n∧lv≤lev L n then [n] else []:=by
  unfold hitN
  rw [List.range_succ,List.filter_append]
  congr 1
  by_cases h1:s≤n
  · by_cases h2:lv≤lev L n
    · simp [h1,h2]
    · simp [h1,h2]
  · simp [h1]
theorem hitN_mem {L:List AV} {s:Nat} {lv:Int} {n p:Nat}:p∈hitN L s lv n ↔ p < n∧s≤p∧lv≤lev L p:=by
  unfold hitN
  simp
theorem hitN_len (L:List AV) (s:Nat) (lv:Int) (n:Nat):(hitN L s lv n).length≤n:=by
  unfold hitN
  exact Nat.le_trans (List.length_filter_le _ _) (by simp)
theorem hitN_cnt (L:List AV) (lv:Int):∀ n,(hitN L 0 lv n).length=cntV L lv n
  | 0=>rfl
  | n+1=>by
    rw [hitN_succ,List.length_append,hitN_cnt L lv n]
    simp only [cntV]
    by_cases h:lv≤lev L n
    · rw [if_pos ⟨by omega,h⟩,if_pos h]; rfl
    · rw [if_neg (by intro k; exact h k.2),if_neg h]; rfl
theorem hitN_get {L:List AV} {lv:Int}:∀ {n i p:Nat},(hitN L 0 lv n)[i]?=some p→p < n∧lv≤lev L p∧cntV L lv p=i
  | 0,i,p,h=>by simp [hitN] at h
  | n+1,i,p,h=>by
    rw [hitN_succ] at h
    by_cases hi:i < (hitN L 0 lv n).length
    · rw [List.getElem?_append_left hi] at h
      have:=hitN_get h
      exact ⟨by omega,this.2⟩
    · rw [List.getElem?_append_right (by omega)] at h
      by_cases hc:0≤n∧lv≤lev L n
      · rw [if_pos hc] at h
        have h0:i-(hitN L 0 lv n).length=0:=by
          cases hq:i-(hitN L 0 lv n).length with
          | zero=>rfl
          | succ q=>rw [hq] at h; simp at h
        rw [h0] at h
        cases h
        rw [hitN_cnt] at h0 hi
        exact ⟨by omega,hc.2,by omega⟩
      · rw [if_neg hc] at h; simp at h
theorem hitN_at {L:List AV} {lv:Int}:∀ {n p:Nat},p < n→lv≤lev L p→(hitN L 0 lv n)[cntV L lv p]?=some p
  | 0,p,h,_=>by omega
  | n+1,p,h,hl=>by
    rw [hitN_succ]
    by_cases hp:p < n
    · have:=hitN_at hp hl
      rw [List.getElem?_append_left (List.getElem?_eq_some_iff.1 this).1]
      exact this
    · obtain rfl:p=n:=by omega
      rw [List.getElem?_append_right (by rw [hitN_cnt]; omega),hitN_cnt,Nat.sub_self,if_pos ⟨by omega,hl⟩]
      rfl
def hitL (L:List AV) (s:Nat) (lv:Int):List AV:=(hitN L s lv L.length).map fun (j:Nat)=>AV.int (j:Int)
theorem hitL_len (L:List AV) (s:Nat) (lv:Int):(hitL L s lv).length=(hitN L s lv L.length).length:=by simp [hitL]
theorem places_runs {L:List AV} {s lv:Int} (hL:L.length≤1000000):RunsX 51 [.slice L,.int s,.int lv] ⟨[.slice (hitL L s.toNat lv)],[],true⟩:=by
  refine RunsX.of_eval 0 ?_
  show ext 51 _=_
  have e:ext 51 [.slice L,.int s,.int lv]=placesX [.slice L,.int s,.int lv]:=by
    unfold ext
    rw [show assoc extL 51=some placesX from by rfl]
    rfl
  rw [e]
  show (bif Nat.ble L.length 1000000 then some (⟨[.slice ((hitsV (L.map AV.toInt) s.toNat lv).map fun (j:Nat)=>.int (j:Int))],[],true⟩:Res) else none)=_
  rw [Nat.ble_eq_true_of_le hL,cond_true,hitsV_hitN]
  rfl
def localV (n of_:Nat) (lv a b:Int):Bool:=bif decide (n≤1024)&&decide (of_≤1024) then eqI (cmpR n of_ lv a b) 1 else false
theorem local_runs {n of_:Nat} {lv a b:Int} (hn:n≤100000) (ho:of_≤100000):RunsX 131 [.int (n:Int),.int (of_:Int),.int lv,.int a,.int b] ⟨[.bool (localV n of_ lv a b)],[],false⟩:=by
  refine Evt.succ (((ratioAbove_runs (n:=n) (of_:=of_) (up:=lv) (a:=a) (b:=b) (by omega) (by omega)).1).mono fun m h=>?_)
  have u1:IntKind.wrap .u32 (n:Int)=(n:Int):=by rw [wrap32]; omega
  have u2:IntKind.wrap .u32 (of_:Int)=(of_:Int):=by rw [wrap32]; omega
  unfold localV
  rw [f131_run,f131_eq,leI_t (by omega),cond_true,leI_t (by omega),cond_true,u1,u2]
  by_cases h1:n≤1024
  · rw [leI_t (by omega),cond_true,decide_eq_true h1]
    by_cases h2:of_≤1024
    · rw [leI_t (by omega),cond_true,decide_eq_true h2,h,step1,toBool_b]; rfl
    · rw [leI_f (by omega),cond_false,decide_eq_false h2]; rfl
  · rw [leI_f (by omega),cond_false,decide_eq_false h1]; rfl
def endP (L:List AV) (lv M a b:Int) (N p:Nat):Bool :=
  bif decide (lv≤lev L p)&&leI M ((cntV L lv N-cntV L lv p:Nat):Int) then localV (cntV L lv N-cntV L lv p) (N-p) lv a b else true
def superV (L:List AV) (lv m a b:Int):Bool:=bif decide (1024 < L.length) then false else allN (endP L lv (max m 1) a b L.length) L.length 0
theorem hitL_nth {L:List AV} {lv:Int} {i p:Nat} (h:(hitN L 0 lv L.length)[i]?=some p):(nth (hitL L 0 lv) i).toInt=(p:Int):=by
  unfold hitL nth
  rw [List.getD_eq_getElem?_getD,List.getElem?_map,h]
  rfl
theorem super_runs {L:List AV} {lv m a b:Int} (hL:L.length≤100000) (hm:m≤9223372036854775807):RunsX 111 [.slice L,.int lv,.int m,.int a,.int b] ⟨[.bool (superV L lv m a b)],[],false⟩:=by
  have hp:=places_runs (L:=L) (s:=0) (lv:=lv) (by omega)
  rw [show (0:Int).toNat=0 from rfl] at hp
  unfold superV
  by_cases h1:1024 < L.length
  · refine Evt.succ (hp.mono fun n h=>?_)
    rw [f111_run,f111_eq,h,step1f,ltI_t (by omega),decide_eq_true h1]; rfl
  have hall:=Evt.all 1025 fun x (hx:x < 1025)=>Evt.all 1025 fun y (hy:y < 1025)=>local_runs (n:=x) (of_:=y) (lv:=lv) (a:=a) (b:=b) (by omega) (by omega)
  refine Evt.succ ((hp.and (hall.and (Evt.ge 2000))).mono fun n hn=>?_)
  obtain ⟨g1,g2,g3⟩:=hn
  have hlen:=hitL_len L 0 lv
  rw [hitN_cnt] at hlen
  have hle:=cntV_le L lv L.length
  let Q:Nat→Bool:=fun x=>bif decide (x≤cntV L lv L.length) then localV x (L.length-((hitN L 0 lv L.length)[cntV L lv L.length-x]?.getD 0)) lv a b else true
  have hget:∀ x,1≤x→x≤cntV L lv L.length→∃ p,(hitN L 0 lv L.length)[cntV L lv L.length-x]?=some p:=by
    intro x hx1 hx2
    have hlt:cntV L lv L.length-x < (hitN L 0 lv L.length).length:=by rw [hitN_cnt]; omega
    exact ⟨_,List.getElem?_eq_getElem hlt⟩
  have key:∀ (j k x:Nat),x+j=cntV L lv L.length+1→1≤x→j < k→f111_l0 (runE G ext n) n k L lv a b (hitL L 0 lv) (x:Int)=some ⟨[.bool (allN Q j x)],[],false⟩:=by
    intro j
    induction j with
    | zero =>
      intro k x hx _ hk
      obtain ⟨k,rfl⟩:∃ j,k=j+1:=⟨k-1,by omega⟩
      rw [f111_l0_eq,hlen,leI_f (by omega),cond_false]; rfl
    | succ j ih =>
      intro k x hx hx1 hk
      obtain ⟨k,rfl⟩:∃ j,k=j+1:=⟨k-1,by omega⟩
      have ih':=ih k (x+1) (by omega) (by omega) (by omega)
      rw [show ((x+1:Nat):Int)=(x:Int)+1 by omega] at ih'
      obtain ⟨p,hp⟩:=hget x hx1 (by omega)
      have hpp:=hitN_get hp
      have e1:IntKind.wrap .i64 (((cntV L lv L.length:Nat):Int)-(x:Int))=((cntV L lv L.length-x:Nat):Int):=by rw [w64 (by omega) (by omega)]; omega
      rw [f111_l0_eq,hlen,leI_t (by omega),cond_true,e1,inR_nat (by omega),cond_true,Int.toNat_natCast,hitL_nth hp,w64 (x:=(L.length:Int)-(p:Int)) (by omega) (by omega),show (L.length:Int)-(p:Int)=((L.length-p:Nat):Int) by omega,g2 x (by omega) (L.length-p) (by omega),step1,toBool_b,w64 (x:=(x:Int)+1) (by omega) (by omega),ih']
      rw [show allN Q (j+1) x=bif Q x then allN Q j (x+1) else false from rfl]
      have eQ:Q x=localV x (L.length-p) lv a b:=by
        show (bif decide (x≤cntV L lv L.length) then localV x (L.length-((hitN L 0 lv L.length)[cntV L lv L.length-x]?.getD 0)) lv a b else true)=_
        rw [decide_eq_true (by omega),cond_true,hp]; rfl
      rw [eQ]
      cases localV x (L.length-p) lv a b <;> rfl
  rw [f111_run,f111_eq,g1,step1f,ltI_f (by omega),cond_false,decide_eq_false h1,cond_false,toSlice_s,mx2_eq]
  by_cases hM:max m 1≤((cntV L lv L.length:Nat):Int)
  · obtain ⟨M,hMn⟩:∃ M:Nat,max m 1=(M:Int):=⟨(max m 1).toNat,by omega⟩
    rw [hMn,key (cntV L lv L.length+1-M) n M (by omega) (by omega) (by omega)]
    have e:allN Q (cntV L lv L.length+1-M) M=allN (endP L lv (max m 1) a b L.length) L.length 0:=by
      apply Bool.eq_iff_iff.2
      rw [allN_iff,allN_iff]
      constructor
      · intro h p _ hp
        unfold endP
        by_cases hl:lv≤lev L p
        · rw [decide_eq_true hl,Bool.true_and,hMn]
          have c1:=cntV_mono L lv (i:=p+1) (k:=L.length) (by omega)
          have c2:cntV L lv (p+1)=cntV L lv p+1:=if_pos hl
          by_cases hc:(M:Int)≤((cntV L lv L.length-cntV L lv p:Nat):Int)
          · rw [leI_t hc,cond_true]
            have hq:=h (cntV L lv L.length-cntV L lv p) (by omega) (by omega)
            have hat:=hitN_at (n:=L.length) (by omega) hl
            have hq2:(bif decide (cntV L lv L.length-cntV L lv p≤cntV L lv L.length) then localV (cntV L lv L.length-cntV L lv p) (L.length-((hitN L 0 lv L.length)[cntV L lv L.length-(cntV L lv L.length-cntV L lv p)]?.getD 0)) lv a b else true)=true:=hq
            rw [decide_eq_true (by omega),cond_true,show cntV L lv L.length-(cntV L lv L.length-cntV L lv p)=cntV L lv p by omega,hat] at hq2
            exact hq2
          · rw [leI_f hc]; rfl
        · rw [decide_eq_false hl]; rfl
      · intro h x h1 h2
        show (bif decide (x≤cntV L lv L.length) then localV x (L.length-((hitN L 0 lv L.length)[cntV L lv L.length-x]?.getD 0)) lv a b else true)=true
        obtain ⟨p,hp⟩:=hget x (by omega) (by omega)
        obtain ⟨p1,p2,p3⟩:=hitN_get hp
        have hq:=h p (by omega) (by omega)
        unfold endP at hq
        rw [decide_eq_true p2,Bool.true_and,hMn,leI_t (by omega),cond_true,p3,show cntV L lv L.length-(cntV L lv L.length-x)=x by omega] at hq
        rw [decide_eq_true (by omega),cond_true,hp]
        exact hq
    rw [e,hMn]
  · obtain ⟨k,rfl⟩:∃ k,n=k+1:=⟨n-1,by omega⟩
    rw [f111_l0_eq,hlen,leI_f (by omega),cond_false]
    have e:allN (endP L lv (max m 1) a b L.length) L.length 0=true:=by
      rw [allN_iff]
      intro p _ hp
      unfold endP
      rw [leI_f (by omega),Bool.and_false]; rfl
    rw [e]; rfl
def goodV (L:List AV) (lv m a b:Int):Bool:=superV L lv m a b&&multiV L lv m a b
theorem good_runs {L:List AV} {lv m a b:Int} (hm0:-9223372036854775808≤lv) (hL:L.length≤100000) (hm:m≤9223372036854775807):RunsX 82 [.slice L,.int lv,.int m,.int a,.int b] ⟨[.bool (goodV L lv m a b)],[],false⟩:=by
  refine Evt.succ (((super_runs (L:=L) (lv:=lv) (m:=m) (a:=a) (b:=b) hL hm).and (multi_runs (L:=L) (lv:=lv) (m:=m) (a:=a) (b:=b) hm0 (by rw [maxLen_eq]; omega))).mono fun n h=>?_)
  obtain ⟨h1,h2⟩:=h
  unfold goodV
  rw [f82_run,f82_eq,h1,step1,toBool_b]
  cases superV L lv m a b with
  | false=>rfl
  | true=>rw [cond_true,h2,step1,toBool_b]; rfl
end Go.Proofs.YteiahdlklppghaaGreat.Ev

namespace Go.Proofs.YteiahdlklppghaaGreat.Ev
open Go Go.RowKit
theorem refMayR_runs {a b:Int}:RunsX 66 [.int a,.int b] ⟨[.bool (mayR a b)],[],false⟩:=by
  refine Evt.succ (.of fun n=>?_)
  unfold mayR
  rw [f66_run,f66_eq]
  by_cases h1:0 < a
  · rw [ltI_t h1,cond_true,decide_eq_true h1]
    by_cases h2:a < b
    · rw [ltI_t h2,cond_true,decide_eq_true h2]; rfl
    · rw [ltI_f h2,cond_false,decide_eq_false h2]; rfl
  · rw [ltI_f h1,cond_false,decide_eq_false h1]; rfl
theorem refCmp_bad {n of_:Nat} {up a b:Int} (h:¬ (mayR a b=true∧0≤up∧up≤255)):RunsX 141 [.int (n:Int),.int (of_:Int),.int up,.int a,.int b] ⟨[.int (cmpR n of_ up a b)],[],false⟩:=by
  have e:cmpR n of_ up a b=2:=by unfold cmpR; rw [if_neg h]
  rw [e]
  refine Evt.succ ((refMayR_runs (a:=a) (b:=b)).mono fun m hm=>?_)
  rw [f141_run,f141_eq,hm,step1,toBool_b]
  cases hM:mayR a b with
  | false=>rfl
  | true =>
    rw [not_t,cond_false]
    by_cases h0:up < 0
    · rw [ltI_t h0]; rfl
    · rw [ltI_f h0,cond_false,ltI_t (by
        rw [hM] at h
        have:¬ (0≤up∧up≤255):=fun k=>h ⟨rfl,k⟩
        omega)]; rfl
theorem refCmp_small {n of_:Nat} {up a b:Int} (hn:n < 65536) (ho:of_ < 65536) (hup:up≤16∨255 < up):RunsX 141 [.int (n:Int),.int (of_:Int),.int up,.int a,.int b] ⟨[.int (cmpR n of_ up a b)],[],false⟩:=by
  by_cases h:mayR a b=true∧0≤up∧up≤255
  case neg=>exact refCmp_bad h
  obtain ⟨m1,m2,m3⟩:=mayR_iff.1 h.1
  obtain ⟨bn,rfl⟩:∃ bn:Nat,b=(bn:Int):=⟨b.toNat,by omega⟩
  obtain ⟨dn,hd⟩:∃ dn:Nat,(bn:Int)-a=(dn:Int):=⟨((bn:Int)-a).toNat,by omega⟩
  obtain ⟨u,rfl⟩:∃ u:Nat,up=(u:Int):=⟨up.toNat,by omega⟩
  have hu:u≤16:=by omega
  have h1:n*bn≤65535*65536:=Nat.mul_le_mul (by omega) (by omega)
  have h2:of_*dn≤65535*65536:=Nat.mul_le_mul (by omega) (by omega)
  have h3:2^u≤65536:=by
    calc 2^u≤2^16:=Nat.pow_le_pow_right (by omega) hu
      _=65536:=by decide
  have h4:n*bn*2^u≤65535*65536*65536:=Nat.mul_le_mul h1 h3
  have e1:IntKind.wrap .i64 (IntKind.wrap .i64 (n:Int)*(bn:Int))=((n*bn:Nat):Int):=by
    rw [w64 (x:=(n:Int)) (by omega) (by omega),show (n:Int)*(bn:Int)=((n*bn:Nat):Int) by push_cast; rfl,w64 (by omega) (by omega)]
  have e2:IntKind.wrap .i64 (((n*bn:Nat):Int)*2^(min (Int.toNat (u:Int)) 64))=((n*bn*2^u:Nat):Int):=by
    rw [Int.toNat_natCast,show min u 64=u by omega,show (((n*bn:Nat):Int)*2^u)=((n*bn*2^u:Nat):Int) by push_cast; rfl,w64 (by omega) (by omega)]
  have e3:IntKind.wrap .i64 (IntKind.wrap .i64 (of_:Int)*IntKind.wrap .i64 ((bn:Int)-a))=((of_*dn:Nat):Int):=by
    rw [hd,w64 (x:=(of_:Int)) (by omega) (by omega),w64 (x:=(dn:Int)) (by omega) (by omega),show (of_:Int)*(dn:Int)=((of_*dn:Nat):Int) by push_cast; rfl,w64 (by omega) (by omega)]
  have e:cmpR n of_ (u:Int) a (bn:Int)=cmpN (n*bn*2^u) (of_*dn):=by
    unfold cmpR; rw [if_pos h,Int.toNat_natCast,hd,Int.toNat_natCast,Int.toNat_natCast]
  rw [e]
  refine Evt.succ ((refMayR_runs (a:=a) (b:=(bn:Int))).mono fun m hm=>?_)
  rw [f141_run,f141_eq,hm,step1,toBool_b,h.1,not_t,cond_false,ltI_f (by omega),cond_false,ltI_f (by omega),cond_false,ltI_t (by omega),cond_true,ltI_t (by omega),cond_true,leI_t (by omega),cond_true,leI_t (by omega),cond_true,e1,e2,e3]
  unfold cmpN
  by_cases c1:of_*dn < n*bn*2^u
  · rw [ltI_t (by omega),cond_true,if_neg (by omega),if_pos c1]; rfl
  · rw [ltI_f (by omega),cond_false]
    by_cases c2:n*bn*2^u < of_*dn
    · rw [ltI_t (by omega),cond_true,if_pos c2]; rfl
    · rw [ltI_f (by omega),cond_false,if_neg c2,if_neg c1]; rfl
def CmpAt (lv a b:Int):Prop:=∀ n of_:Nat,n≤1024→of_≤1024→∀ up:Int,(up=lv∨(1≤up∧up≤lv∧lv≤255))→RunsX 141 [.int (n:Int),.int (of_:Int),.int up,.int a,.int b] ⟨[.int (cmpR n of_ up a b)],[],false⟩
theorem count_runs {X:List AV} {lv:Int} (hX:X.length≤100000):RunsX 139 [.slice X,.int lv] ⟨[.int ((cntV X lv X.length:Nat):Int)],[],false⟩:=by
  refine Evt.succ ((Evt.ge (X.length+2)).mono fun n hn=>?_)
  have key:∀ (j k i:Nat),i+j=X.length→j < k→f139_l0 (runE G ext n) n k X lv ((cntV X lv i:Nat):Int) (i:Int)=some ⟨[.int ((cntV X lv X.length:Nat):Int)],[],false⟩:=by
    intro j
    induction j with
    | zero =>
      intro k i hi hk
      obtain ⟨k,rfl⟩:∃ j,k=j+1:=⟨k-1,by omega⟩
      rw [f139_l0_eq,ltI_f (by omega),cond_false,show i=X.length by omega]; rfl
    | succ j ih =>
      intro k i hi hk
      obtain ⟨k,rfl⟩:∃ j,k=j+1:=⟨k-1,by omega⟩
      have ih':=ih k (i+1) (by omega) (by omega)
      have hc:=cntV_le X lv i
      rw [f139_l0_eq,ltI_t (by omega),cond_true,inR_nat (by omega),cond_true,Int.toNat_natCast,w64 (x:=(i:Int)+1) (by omega) (by omega),show (i:Int)+1=((i+1:Nat):Int) by omega]
      by_cases h:lv≤(nth X i).toInt
      · have ec:cntV X lv (i+1)=cntV X lv i+1:=if_pos h
        rw [leI_t h,cond_true,w64 (by omega) (by omega),show ((cntV X lv i:Nat):Int)+1=((cntV X lv (i+1):Nat):Int) by omega,ih']
      · have ec:cntV X lv (i+1)=cntV X lv i:=if_neg h
        rw [leI_f h,cond_false,← ec,ih']
  rw [f139_run,f139_eq]
  exact key X.length n 0 (by omega) (by omega)
theorem lev_part (L:List AV) (i k j:Nat) (h:i+j < k):lev ((L.take k).drop i) j=lev L (i+j):=by
  unfold lev nth
  rw [List.getD_eq_getElem?_getD,List.getD_eq_getElem?_getD,List.getElem?_drop,List.getElem?_take,if_pos h]
theorem cntV_part (L:List AV) (lv:Int) (i k:Nat):∀ j,i+j≤k→cntV ((L.take k).drop i) lv j+cntV L lv i=cntV L lv (i+j)
  | 0,_=>by show 0+_=_; rw [Nat.zero_add]; rfl
  | j+1,h=>by
    have ih:=cntV_part L lv i k j (by omega)
    have e:=lev_part L i k j (by omega)
    rw [show cntV ((L.take k).drop i) lv (j+1)=if lv≤lev ((L.take k).drop i) j then cntV ((L.take k).drop i) lv j+1 else cntV ((L.take k).drop i) lv j from rfl,show cntV L lv (i+(j+1))=if lv≤lev L (i+j) then cntV L lv (i+j)+1 else cntV L lv (i+j) from rfl,e]
    split <;> omega
theorem part_len (L:List AV) {i k:Nat} (h1:i≤k) (h2:k≤L.length):((L.take k).drop i).length=k-i:=by simp; omega
theorem part_runs {L:List AV} {lv:Int} {i k:Nat} (hL:L.length≤100000) (h1:i≤k) (h2:k≤L.length):RunsX 139 [.slice (List.drop i (List.take k L)),.int lv] ⟨[.int ((cntV L lv k-cntV L lv i:Nat):Int)],[],false⟩:=by
  have h:=count_runs (X:=(L.take k).drop i) (lv:=lv) (by rw [part_len L h1 h2]; omega)
  rw [part_len L h1 h2] at h
  have e:=cntV_part L lv i k (k-i) (by omega)
  rw [show i+(k-i)=k by omega] at e
  rw [show cntV L lv k-cntV L lv i=cntV ((L.take k).drop i) lv (k-i) by omega]
  exact h
theorem refPlaces_runs {L:List AV} {s lv:Int} (hL:L.length≤100000):RunsX 55 [.slice L,.int s,.int lv] ⟨[.slice (hitL L s.toNat lv)],[],true⟩:=by
  refine Evt.succ ((Evt.ge (L.length+2)).mono fun n hn=>?_)
  have key:∀ (j k i:Nat),i+j=L.length→j < k→f55_l0 (runE G ext n) n k L s lv ((hitN L s.toNat lv i).map fun (j:Nat)=>AV.int (j:Int)) (i:Int)=some ⟨[.slice (hitL L s.toNat lv)],[],true⟩:=by
    intro j
    induction j with
    | zero =>
      intro k i hi hk
      obtain ⟨k,rfl⟩:∃ j,k=j+1:=⟨k-1,by omega⟩
      rw [f55_l0_eq,ltI_f (by omega),cond_false,show i=L.length by omega]; rfl
    | succ j ih =>
      intro k i hi hk
      obtain ⟨k,rfl⟩:∃ j,k=j+1:=⟨k-1,by omega⟩
      have ih':=ih k (i+1) (by omega) (by omega)
      rw [hitN_succ] at ih'
      have hle:=hitN_len L s.toNat lv i
      rw [f55_l0_eq,ltI_t (by omega),cond_true,w64 (x:=(i:Int)+1) (by omega) (by omega),show (i:Int)+1=((i+1:Nat):Int) by omega,inR_nat (by omega),cond_true,Int.toNat_natCast]
      by_cases h1:s≤(i:Int)
      · rw [leI_t h1,cond_true]
        by_cases h:lv≤(nth L i).toInt
        · rw [if_pos ⟨by omega,h⟩,List.map_append] at ih'
          rw [leI_t h,cond_true,Nat.ble_eq_true_of_le (by rw [List.length_map]; omega),cond_true]
          exact ih'
        · rw [if_neg (fun k=>h k.2),List.append_nil] at ih'
          rw [leI_f h,cond_false,ih']
      · rw [if_neg (by omega),List.append_nil] at ih'
        rw [leI_f h1,cond_false,ih']
  rw [f55_run,f55_eq]
  exact key L.length n 0 (by omega) (by omega)
theorem refLocal_runs {n of_:Nat} {lv a b:Int} (hC:CmpAt lv a b) (hn:n≤100000) (ho:of_≤100000):RunsX 140 [.int (n:Int),.int (of_:Int),.int lv,.int a,.int b] ⟨[.bool (localV n of_ lv a b)],[],false⟩:=by
  have u1:IntKind.wrap .u32 (n:Int)=(n:Int):=by rw [wrap32]; omega
  have u2:IntKind.wrap .u32 (of_:Int)=(of_:Int):=by rw [wrap32]; omega
  unfold localV
  by_cases h1:n≤1024
  · by_cases h2:of_≤1024
    · refine Evt.succ ((hC n of_ h1 h2 lv (.inl rfl)).mono fun m h=>?_)
      rw [f140_run,f140_eq,leI_t (by omega),cond_true,leI_t (by omega),cond_true,u1,u2,leI_t (by omega),cond_true,leI_t (by omega),cond_true,decide_eq_true h1,decide_eq_true h2,h,step1,toInt_i]; rfl
    · refine Evt.succ (.of fun m=>?_)
      rw [f140_run,f140_eq,leI_t (by omega),cond_true,leI_t (by omega),cond_true,leI_t (by omega),cond_true,leI_f (by omega),cond_false,decide_eq_false h2,Bool.and_false]; rfl
  · refine Evt.succ (.of fun m=>?_)
    rw [f140_run,f140_eq,leI_t (by omega),cond_true,leI_f (by omega),cond_false,decide_eq_false h1]; rfl
theorem refSuper_runs {L:List AV} {lv m a b:Int} (hC:CmpAt lv a b) (hL:L.length≤100000):RunsX 116 [.slice L,.int lv,.int m,.int a,.int b] ⟨[.bool (superV L lv m a b)],[],false⟩:=by
  unfold superV
  by_cases h1:1024 < L.length
  · refine Evt.succ (.of fun n=>?_)
    rw [f116_run,f116_eq,ltI_t (by omega),decide_eq_true h1]; rfl
  have hall:=Evt.all 1025 fun x (hx:x < 1025)=>Evt.all 1025 fun y (hy:y < 1025)=>refLocal_runs (n:=x) (of_:=y) (lv:=lv) (a:=a) (b:=b) hC (by omega) (by omega)
  have hcnt:=Evt.all L.length fun i (hi:i < L.length)=>part_runs (L:=L) (lv:=lv) (i:=i) (k:=L.length) hL (by omega) (by omega)
  refine Evt.succ ((hcnt.and (hall.and (Evt.ge 2000))).mono fun n hn=>?_)
  obtain ⟨g1,g2,g3⟩:=hn
  have key:∀ (j k i:Nat),i+j=L.length→j < k→f116_l0 (runE G ext n) n k L lv (max m 1) a b (i:Int)=some ⟨[.bool (allN (endP L lv (max m 1) a b L.length) j i)],[],false⟩:=by
    intro j
    induction j with
    | zero =>
      intro k i hi hk
      obtain ⟨k,rfl⟩:∃ j,k=j+1:=⟨k-1,by omega⟩
      rw [f116_l0_eq,ltI_f (by omega),cond_false]; rfl
    | succ j ih =>
      intro k i hi hk
      obtain ⟨k,rfl⟩:∃ j,k=j+1:=⟨k-1,by omega⟩
      have ih':=ih k (i+1) (by omega) (by omega)
      have hb:boundsOk (i:Int) (L.length:Int) (L.length:Int) (L.length:Int)=true:=by unfold boundsOk; simp; omega
      have hc1:=cntV_mono L lv (i:=i) (k:=L.length) (by omega)
      have hc2:=cntV_le L lv L.length
      rw [f116_l0_eq,ltI_t (by omega),cond_true,hb,Bool.and_true,cond_true,Int.toNat_natCast,Int.toNat_natCast,g1 i (by omega),step1,toInt_i,inR_nat (by omega),cond_true,part_len L (by omega) (Nat.le_refl _),g2 (cntV L lv L.length-cntV L lv i) (by omega) (L.length-i) (by omega),step1,toBool_b,w64 (x:=(i:Int)+1) (by omega) (by omega),show (i:Int)+1=((i+1:Nat):Int) by omega,ih']
      rw [show allN (endP L lv (max m 1) a b L.length) (j+1) i=bif endP L lv (max m 1) a b L.length i then allN (endP L lv (max m 1) a b L.length) j (i+1) else false from rfl]
      unfold endP
      rw [show (decide (lv≤lev L i))=leI lv (nth L i).toInt from rfl]
      cases leI lv (nth L i).toInt with
      | false=>rfl
      | true =>
        rw [Bool.true_and,cond_true]
        cases leI (max m 1) ((cntV L lv L.length-cntV L lv i:Nat):Int) with
        | false=>rfl
        | true =>
          rw [cond_true,cond_true]
          cases localV (cntV L lv L.length-cntV L lv i) (L.length-i) lv a b <;> rfl
  rw [f116_run,f116_eq,ltI_f (by omega),cond_false,decide_eq_false h1,cond_false]
  by_cases hm:m < 1
  · have k:=key L.length n 0 (by omega) (by omega)
    rw [show max m 1=1 by omega] at k ⊢
    rw [ltI_t hm,cond_true]
    exact k
  · have k:=key L.length n 0 (by omega) (by omega)
    rw [show max m 1=m by omega] at k ⊢
    rw [ltI_f hm,cond_false]
    exact k
theorem refMulti_runs {L:List AV} {lv m a b:Int} (hC:CmpAt lv a b) (hL:L.length≤100000):RunsX 117 [.slice L,.int lv,.int m,.int a,.int b] ⟨[.bool (multiV L lv m a b)],[],false⟩:=by
  unfold multiV
  by_cases h1:1024 < L.length
  · refine Evt.succ (.of fun n=>?_)
    rw [f117_run,f117_eq,ltI_t (by omega),decide_eq_true h1]; rfl
  by_cases h2:255 < lv
  · refine Evt.succ (.of fun n=>?_)
    rw [f117_run,f117_eq,ltI_f (by omega),decide_eq_false h1,ltI_t h2,decide_eq_true h2]; rfl
  have hcmp:=Evt.all lv.toNat fun low (hlow:low < lv.toNat)=>Evt.all 1025 fun x (hx:x < 1025)=>Evt.all 1025 fun y (hy:y < 1025)=>hC x y (by omega) (by omega) (lv-(low:Int)) (.inr (by omega))
  have hcnt:=Evt.all (L.length+1) fun i (hi:i < L.length+1)=>Evt.all (L.length+1) fun k (hk:k < L.length+1)=>Evt.all 256 fun low (_:low < 256)=>(show Evt fun n=>i≤k→runE G ext n 139 [.slice (List.drop i (List.take k L)),.int (low:Int)]=some ⟨[.int ((cntV L (low:Int) k-cntV L (low:Int) i:Nat):Int)],[],false⟩∧runE G ext n 139 [.slice (List.drop i (List.take k L)),.int lv]=some ⟨[.int ((cntV L lv k-cntV L lv i:Nat):Int)],[],false⟩ from by
    by_cases hik:i≤k
    · exact ((part_runs (L:=L) (lv:=(low:Int)) (i:=i) (k:=k) hL hik (by omega)).and (part_runs (L:=L) (lv:=lv) (i:=i) (k:=k) hL hik (by omega))).mono fun n h _=>h
    · exact .of fun n h=>absurd h hik)
  refine Evt.succ ((hcmp.and (hcnt.and (Evt.ge 3000))).mono fun n hn=>?_)
  obtain ⟨g1,g2,g3⟩:=hn
  have k4:∀ (low i:Nat) (rest:Bool) (k0 k2:Nat),low < lv.toNat→i≤L.length→f117_l2 (runE G ext n) n k0 k2 L lv (max m 1) a b (low:Int) ((i+1:Nat):Int)=some ⟨[.bool rest],[],false⟩ →
      ∀ (j k4 k:Nat),k+j=L.length+1→i < k→j < k4→f117_l4 (runE G ext n) n k0 k2 k4 L lv (max m 1) a b (low:Int) (i:Int) (k:Int)=some ⟨[.bool (allN (strP L lv (low:Int) (max m 1) a b i) j k&&rest)],[],false⟩:=by
    intro low i rest k0 k2 hlow hi hrest j
    induction j with
    | zero =>
      intro k4 k hk _ hk4
      obtain ⟨k4,rfl⟩:∃ j,k4=j+1:=⟨k4-1,by omega⟩
      rw [f117_l4_eq,leI_f (by omega),cond_false,w64 (by omega) (by omega),show (i:Int)+1=((i+1:Nat):Int) by omega,hrest]
      rfl
    | succ j ih =>
      intro k4 k hk hik hk4
      obtain ⟨k4,rfl⟩:∃ j,k4=j+1:=⟨k4-1,by omega⟩
      have ih':=ih k4 (k+1) (by omega) (by omega) (by omega)
      have hb:boundsOk (i:Int) (k:Int) (L.length:Int) (L.length:Int)=true:=by unfold boundsOk; simp; omega
      obtain ⟨q1,q2⟩:=g2 i (by omega) k (by omega) low (by omega) (by omega)
      have c1:=cntV_mono L lv (i:=i) (k:=k) (by omega)
      have c2:=cntV_mono L (low:Int) (i:=i) (k:=k) (by omega)
      have c3:=cntV_le L lv k
      have c4:=cntV_le L (low:Int) k
      have u1:IntKind.wrap .u32 ((cntV L lv k-cntV L lv i:Nat):Int)=((cntV L lv k-cntV L lv i:Nat):Int):=by rw [wrap32]; omega
      have u2:IntKind.wrap .u32 ((cntV L (low:Int) k-cntV L (low:Int) i:Nat):Int)=((cntV L (low:Int) k-cntV L (low:Int) i:Nat):Int):=by rw [wrap32]; omega
      rw [f117_l4_eq,leI_t (by omega),cond_true,hb,Bool.and_true,cond_true,Int.toNat_natCast,Int.toNat_natCast,q1,step1,toInt_i,cond_true,q2,step1,toInt_i,u1,u2,w64 (x:=lv-(low:Int)) (by omega) (by omega),g1 low hlow (cntV L lv k-cntV L lv i) (by omega) (cntV L (low:Int) k-cntV L (low:Int) i) (by omega),step1,toInt_i,w64 (x:=(k:Int)+1) (by omega) (by omega),show (k:Int)+1=((k+1:Nat):Int) by omega,ih']
      rw [show allN (strP L lv (low:Int) (max m 1) a b i) (j+1) k=bif strP L lv (low:Int) (max m 1) a b i k then allN (strP L lv (low:Int) (max m 1) a b i) j (k+1) else false from rfl]
      unfold strP
      by_cases hM:max m 1≤((cntV L (low:Int) k-cntV L (low:Int) i:Nat):Int)
      · rw [ltI_f (by omega),cond_false,leI_t hM,cond_true]
        cases eqI (cmpR (cntV L lv k-cntV L lv i) (cntV L (low:Int) k-cntV L (low:Int) i) (lv-(low:Int)) a b) 0 <;> cases eqI (cmpR (cntV L lv k-cntV L lv i) (cntV L (low:Int) k-cntV L (low:Int) i) (lv-(low:Int)) a b) 1 <;> rfl
      · rw [ltI_t (by omega),cond_true,leI_f hM]; rfl
  have k2:∀ (low:Nat) (rest:Bool) (k0:Nat),low < lv.toNat→f117_l0 (runE G ext n) n k0 L lv (max m 1) a b ((low+1:Nat):Int)=some ⟨[.bool rest],[],false⟩ →
      ∀ (j k i:Nat),i+j=L.length→j < k→f117_l2 (runE G ext n) n k0 k L lv (max m 1) a b (low:Int) (i:Int)=some ⟨[.bool (allN (fun i=>allN (strP L lv (low:Int) (max m 1) a b i) (L.length-i) (i+1)) j i&&rest)],[],false⟩:=by
    intro low rest k0 hlow hrest j
    induction j with
    | zero =>
      intro k i hi hk
      obtain ⟨k,rfl⟩:∃ j,k=j+1:=⟨k-1,by omega⟩
      rw [f117_l2_eq,ltI_f (by omega),cond_false,w64 (by omega) (by omega),show (low:Int)+1=((low+1:Nat):Int) by omega,hrest]; rfl
    | succ j ih =>
      intro k i hi hk
      obtain ⟨k,rfl⟩:∃ j,k=j+1:=⟨k-1,by omega⟩
      have ih':=ih k (i+1) (by omega) (by omega)
      rw [f117_l2_eq,ltI_t (by omega),cond_true,w64 (x:=(i:Int)+1) (by omega) (by omega),show (i:Int)+1=((i+1:Nat):Int) by omega,k4 low i _ k0 k hlow (by omega) ih' (L.length-i) n (i+1) (by omega) (by omega) (by omega)]
      rw [show allN (fun i=>allN (strP L lv (low:Int) (max m 1) a b i) (L.length-i) (i+1)) (j+1) i=bif allN (strP L lv (low:Int) (max m 1) a b i) (L.length-i) (i+1) then allN (fun i=>allN (strP L lv (low:Int) (max m 1) a b i) (L.length-i) (i+1)) j (i+1) else false from rfl]
      cases allN (strP L lv (low:Int) (max m 1) a b i) (L.length-i) (i+1) <;> rfl
  have k0:∀ (j k low:Nat),low+j=lv.toNat→j < k→f117_l0 (runE G ext n) n k L lv (max m 1) a b (low:Int)=some ⟨[.bool (allN (fun low:Nat=>strV L lv (low:Int) (max m 1) a b L.length) j low)],[],false⟩:=by
    intro j
    induction j with
    | zero =>
      intro k low hi hk
      obtain ⟨k,rfl⟩:∃ j,k=j+1:=⟨k-1,by omega⟩
      rw [f117_l0_eq,ltI_f (by omega),cond_false]; rfl
    | succ j ih =>
      intro k low hi hk
      obtain ⟨k,rfl⟩:∃ j,k=j+1:=⟨k-1,by omega⟩
      have h:=k2 low _ k (by omega) (ih k (low+1) (by omega) (by omega)) L.length n 0 (by omega) (by omega)
      rw [f117_l0_eq,ltI_t (by omega),cond_true]
      refine h.trans ?_
      rw [show allN (fun low:Nat=>strV L lv (low:Int) (max m 1) a b L.length) (j+1) low=bif strV L lv (low:Int) (max m 1) a b L.length then allN (fun low:Nat=>strV L lv (low:Int) (max m 1) a b L.length) j (low+1) else false from rfl]
      show some (⟨[.bool (strV L lv (low:Int) (max m 1) a b L.length&&_)],[],false⟩:Res)=_
      cases strV L lv (low:Int) (max m 1) a b L.length <;> rfl
  rw [f117_run,f117_eq,ltI_f (by omega),cond_false,decide_eq_false h1,cond_false,ltI_f h2,cond_false,decide_eq_false h2,cond_false]
  by_cases hm:m < 1
  · have k:=k0 lv.toNat n 0 (by omega) (by omega)
    rw [show max m 1=1 by omega] at k ⊢
    rw [ltI_t hm,cond_true]
    exact k
  · have k:=k0 lv.toNat n 0 (by omega) (by omega)
    rw [show max m 1=m by omega] at k ⊢
    rw [ltI_f hm,cond_false]
    exact k
theorem refGood_runs {L:List AV} {lv m a b:Int} (hC:CmpAt lv a b) (hL:L.length≤100000):RunsX 87 [.slice L,.int lv,.int m,.int a,.int b] ⟨[.bool (goodV L lv m a b)],[],false⟩:=by
  refine Evt.succ (((refSuper_runs (L:=L) (lv:=lv) (m:=m) (a:=a) (b:=b) hC hL).and (refMulti_runs (L:=L) (lv:=lv) (m:=m) (a:=a) (b:=b) hC hL)).mono fun n h=>?_)
  obtain ⟨h1,h2⟩:=h
  unfold goodV
  rw [f87_run,f87_eq,h1,step1,toBool_b]
  cases superV L lv m a b with
  | false=>rfl
  | true=>rw [cond_true,h2,step1,toBool_b]; rfl
end Go.Proofs.YteiahdlklppghaaGreat.Ev

namespace Go.Proofs.YteiahdlklppghaaGreat.Ev
open Go Go.RowKit
def beginV (L:List AV) (s lv m a b:Int):Int :=
  if m < 1∨((hitL L s.toNat lv).length:Int)≤m∨s < 0 then s else bif goodV (L.drop s.toNat) lv m a b then (nth (hitL L s.toNat lv) ((hitL L s.toNat lv).length-m.toNat)).toInt else s
theorem hitL_at {L:List AV} {s:Nat} {lv:Int} {i:Nat} (h:i < (hitL L s lv).length):∃ p:Nat,nth (hitL L s lv) i=.int (p:Int)∧p < L.length∧s≤p∧lv≤lev L p:=by
  rw [hitL_len] at h
  have hm:=hitN_mem.1 (List.getElem_mem h)
  refine ⟨(hitN L s lv L.length)[i],?_,hm⟩
  unfold hitL nth
  rw [List.getD_eq_getElem?_getD,List.getElem?_map,List.getElem?_eq_getElem h]
  rfl
theorem beginV_in {L:List AV} {s lv m a b:Int} (h0:0≤s) (h1:s≤L.length):s≤beginV L s lv m a b∧beginV L s lv m a b≤L.length:=by
  unfold beginV
  by_cases hc:m < 1∨((hitL L s.toNat lv).length:Int)≤m∨s < 0
  · rw [if_pos hc]; exact ⟨Int.le_refl _,h1⟩
  · rw [if_neg hc]
    cases goodV (L.drop s.toNat) lv m a b with
    | false=>exact ⟨Int.le_refl _,h1⟩
    | true =>
      obtain ⟨p,e,p1,p2,_⟩:=hitL_at (L:=L) (s:=s.toNat) (lv:=lv) (i:=(hitL L s.toNat lv).length-m.toNat) (by omega)
      rw [cond_true,e,toInt_i]
      omega
theorem hitL_le (L:List AV) (s:Nat) (lv:Int):(hitL L s lv).length≤L.length:=by rw [hitL_len]; exact hitN_len L s lv _
theorem begin_runs {L:List AV} {s lv m a b:Int} (hv:-9223372036854775808≤lv) (hL:L.length≤100000) (hm:m≤9223372036854775807):RunsX 52 [.slice L,.int s,.int lv,.int m,.int a,.int b] ⟨[.int (beginV L s lv m a b)],[],false⟩:=by
  have hle:=hitL_le L s.toNat lv
  refine Evt.succ (((places_runs (L:=L) (s:=s) (lv:=lv) (by omega)).and (good_runs (L:=L.drop s.toNat) (lv:=lv) (m:=m) (a:=a) (b:=b) hv (by rw [List.length_drop]; omega) hm)).mono fun n h=>?_)
  obtain ⟨g1,g2⟩:=h
  unfold beginV
  rw [f52_run,f52_eq,g1,step1f,toSlice_s]
  by_cases c1:m < 1
  · rw [ltI_t c1,cond_true,if_pos (.inl c1)]; rfl
  rw [ltI_f c1,cond_false]
  by_cases c2:((hitL L s.toNat lv).length:Int)≤m
  · rw [leI_t c2,cond_true,if_pos (.inr (.inl c2))]; rfl
  rw [leI_f c2,cond_false]
  by_cases c3:s < 0
  · rw [ltI_t c3,cond_true,if_pos (.inr (.inr c3))]; rfl
  obtain ⟨p,e,p1,p2,_⟩:=hitL_at (L:=L) (s:=s.toNat) (lv:=lv) (i:=(hitL L s.toNat lv).length-m.toNat) (by omega)
  have hb:boundsOk s (L.length:Int) (L.length:Int) (L.length:Int)=true:=by unfold boundsOk; simp <;> omega
  rw [ltI_f c3,cond_false,hb,Bool.and_true,cond_true,Int.toNat_natCast,List.take_length,g2,step1,toBool_b,if_neg (by intro h; rcases h with h | h | h; exact c1 h; exact c2 h; exact c3 h)]
  cases goodV (L.drop s.toNat) lv m a b with
  | false=>rfl
  | true =>
    rw [not_t,cond_false,cond_true,w64 (by omega) (by omega),show ((hitL L s.toNat lv).length:Int)-m=(((hitL L s.toNat lv).length-m.toNat:Nat):Int) by omega,inR_nat (by omega),cond_true,Int.toNat_natCast]
    rfl
theorem refBegin_runs {L:List AV} {s lv m a b:Int} (hC:CmpAt lv a b) (hL:L.length≤100000):RunsX 56 [.slice L,.int s,.int lv,.int m,.int a,.int b] ⟨[.int (beginV L s lv m a b)],[],false⟩:=by
  have hle:=hitL_le L s.toNat lv
  refine Evt.succ (((refPlaces_runs (L:=L) (s:=s) (lv:=lv) (by omega)).and (refGood_runs (L:=L.drop s.toNat) (lv:=lv) (m:=m) (a:=a) (b:=b) hC (by rw [List.length_drop]; omega))).mono fun n h=>?_)
  obtain ⟨g1,g2⟩:=h
  unfold beginV
  rw [f56_run,f56_eq,g1,step1f,toSlice_s]
  by_cases c1:m < 1
  · rw [ltI_t c1,cond_true,if_pos (.inl c1)]; rfl
  rw [ltI_f c1,cond_false]
  by_cases c3:s < 0
  · rw [ltI_t c3,cond_true,if_pos (.inr (.inr c3))]; rfl
  rw [ltI_f c3,cond_false]
  by_cases c2:((hitL L s.toNat lv).length:Int)≤m
  · rw [leI_t c2,cond_true,if_pos (.inr (.inl c2))]; rfl
  obtain ⟨p,e,p1,p2,_⟩:=hitL_at (L:=L) (s:=s.toNat) (lv:=lv) (i:=(hitL L s.toNat lv).length-m.toNat) (by omega)
  have hb:boundsOk s (L.length:Int) (L.length:Int) (L.length:Int)=true:=by unfold boundsOk; simp <;> omega
  rw [leI_f c2,cond_false,hb,Bool.and_true,cond_true,Int.toNat_natCast,List.take_length,g2,step1,toBool_b,if_neg (by intro h; rcases h with h | h | h; exact c1 h; exact c2 h; exact c3 h)]
  cases goodV (L.drop s.toNat) lv m a b with
  | false=>rfl
  | true =>
    rw [not_t,cond_false,cond_true,w64 (by omega) (by omega),show ((hitL L s.toNat lv).length:Int)-m=(((hitL L s.toNat lv).length-m.toNat:Nat):Int) by omega,inR_nat (by omega),cond_true,Int.toNat_natCast]
    rfl
def mayP (m k a b:Int):Bool:=decide (1≤m∧m≤1024∧1≤k∧k≤1024)&&mayR a b
theorem mayP_runs {m k a b:Int}:RunsX 32 [.int m,.int k,.int a,.int b] ⟨[.bool (mayP m k a b)],[],false⟩:=by
  refine Evt.succ ((ratioMay_runs (a:=a) (b:=b)).mono fun n h=>?_)
  unfold mayP
  rw [f32_run,f32_eq,h,step1,toBool_b]
  by_cases c1:1≤m
  · by_cases c2:m≤1024
    · by_cases c3:1≤k
      · by_cases c4:k≤1024
        · rw [leI_t c1,leI_t c2,leI_t c3,leI_t c4,decide_eq_true ⟨c1,c2,c3,c4⟩]; rfl
        · rw [leI_t c1,leI_t c2,leI_t c3,leI_f c4,decide_eq_false (by omega)]; rfl
      · rw [leI_t c1,leI_t c2,leI_f c3,decide_eq_false (by omega)]; rfl
    · rw [leI_t c1,leI_f c2,decide_eq_false (by omega)]; rfl
  · rw [leI_f c1,decide_eq_false (by omega)]; rfl
theorem refMayP_runs {m k a b:Int}:RunsX 34 [.int m,.int k,.int a,.int b] ⟨[.bool (mayP m k a b)],[],false⟩:=by
  refine Evt.succ ((refMayR_runs (a:=a) (b:=b)).mono fun n h=>?_)
  unfold mayP
  rw [f34_run,f34_eq,h,step1,toBool_b]
  by_cases c1:1≤m
  · by_cases c2:m≤1024
    · by_cases c3:1≤k
      · by_cases c4:k≤1024
        · rw [leI_t c1,leI_t c2,leI_t c3,leI_t c4,decide_eq_true ⟨c1,c2,c3,c4⟩]; rfl
        · rw [leI_t c1,leI_t c2,leI_t c3,leI_f c4,decide_eq_false (by omega)]; rfl
      · rw [leI_t c1,leI_t c2,leI_f c3,decide_eq_false (by omega)]; rfl
    · rw [leI_t c1,leI_f c2,decide_eq_false (by omega)]; rfl
  · rw [leI_f c1,decide_eq_false (by omega)]; rfl
def topF (B:List AV):Nat→Int
  | 0=>0
  | i+1=>if 0 < i then max (topF B i) (lev B i) else topF B i
theorem topF_nonneg (B:List AV):∀ i,0≤topF B i
  | 0=>Int.le_refl _
  | i+1=>by
    have:=topF_nonneg B i
    simp only [topF]
    split <;> omega
def topLv (B:List AV):Int:=min (topF B B.length) 255
theorem topLv_in (B:List AV):0≤topLv B∧topLv B≤255:=by
  have:=topF_nonneg B B.length
  unfold topLv; omega
theorem top_runsP {B:List AV} (hB:B.length≤100000):RunsX 50 [.slice B] ⟨[.int (topLv B)],[],false⟩:=by
  refine Evt.succ ((Evt.ge (B.length+2)).mono fun n hn=>?_)
  have key:∀ (j k i:Nat),i+j=B.length→j < k→f50_l0 (runE G ext n) n k (topF B i) B (B.length:Int) (i:Int)=some ⟨[.int (topLv B)],[],false⟩:=by
    intro j
    induction j with
    | zero =>
      intro k i hi hk
      obtain ⟨k,rfl⟩:∃ j,k=j+1:=⟨k-1,by omega⟩
      rw [f50_l0_eq,ltI_f (by omega),cond_false,show i=B.length by omega,mn2_eq]; rfl
    | succ j ih =>
      intro k i hi hk
      obtain ⟨k,rfl⟩:∃ j,k=j+1:=⟨k-1,by omega⟩
      have ih':=ih k (i+1) (by omega) (by omega)
      rw [f50_l0_eq,ltI_t (by omega),cond_true,inR_nat (by omega),cond_true,Int.toNat_natCast,mx2_eq,w64 (x:=(i:Int)+1) (by omega) (by omega),show (i:Int)+1=((i+1:Nat):Int) by omega]
      by_cases h:0 < i
      · rw [ltI_t (by omega),cond_true]
        rw [show topF B (i+1)=max (topF B i) (lev B i) from if_pos h] at ih'
        exact ih'
      · rw [ltI_f (by omega),cond_false]
        rw [show topF B (i+1)=topF B i from if_neg h] at ih'
        exact ih'
  rw [f50_run,f50_eq]
  exact key B.length n 0 (by omega) (by omega)
def takeT (B:List AV) (s:Int) (lv:Int) (T:Nat→Bool):Nat→Bool:=fun p=>T p || (decide (s.toNat≤p)&&decide (lv≤lev B p))
def pickSt (B:List AV) (m a b:Int):Nat→Int→(Nat→Bool)→Nat→Bool
  | 0,_,T=>T
  | j+1,s,T=>pickSt B m a b j (beginV B s (j:Int) m a b) (takeT B s (j:Int) T)
def tkL (N:Nat) (T:Nat→Bool):List AV:=(List.range N).map fun p=>.bool (T p)
theorem tkL_congr {N:Nat} {T U:Nat→Bool} (h:∀ p,p < N→T p=U p):tkL N T=tkL N U:=by
  unfold tkL
  apply List.map_congr_left
  intro p hp
  rw [h p (List.mem_range.1 hp)]
theorem tkL_set (N:Nat) (T:Nat→Bool) (i:Nat):(tkL N T).set i (.bool true)=tkL N (fun p=>T p || decide (p=i)):=by
  unfold tkL
  rw [set_rng]
  congr 1
  funext j
  by_cases e:j=i
  · rw [if_pos e]; subst e; simp
  · rw [if_neg e]; simp [e]
theorem tkL_none (N:Nat):tkL N (fun _=>false)=List.replicate N (.bool false):=by
  unfold tkL
  apply List.ext_getElem
  · simp
  · intro j h1 h2; simp
def pickL (N:Nat) (T:Nat→Bool):List AV:=((List.range N).filter T).map fun (p:Nat)=>AV.int (p:Int)
theorem pickL_succ (i:Nat) (T:Nat→Bool):pickL (i+1) T=pickL i T++bif T i then [.int (i:Int)] else []:=by
  unfold pickL
  rw [List.range_succ,List.filter_append,List.map_append]
  congr 1
  cases h:T i <;> simp [h]
theorem pickL_len (N:Nat) (T:Nat→Bool):(pickL N T).length≤N:=by
  unfold pickL
  rw [List.length_map]
  exact Nat.le_trans (List.length_filter_le _ _) (by simp)
def pickV (L:List AV) (m k a b:Int):List AV :=
  bif !(mayP m k a b) then [] else if (L.length:Int)≤k then [] else if 1024 < L.length then [] else
    pickL (L.length-k.toNat) (pickSt (L.take (L.length-k.toNat)) m a b ((topLv (L.take (L.length-k.toNat))).toNat+1) 0 (fun _=>false))
def markT (B:List AV) (s:Nat) (lv:Int) (T:Nat→Bool) (i:Nat):Nat→Bool:=fun p=>T p || decide (p∈(hitN B s lv B.length).take i)
theorem markT_zero (B:List AV) (s:Nat) (lv:Int) (T:Nat→Bool):markT B s lv T 0=T:=by
  funext p; unfold markT; simp
theorem markT_succ {B:List AV} {s:Nat} {lv:Int} {T:Nat→Bool} {i q:Nat} (h:(hitN B s lv B.length)[i]?=some q) (N:Nat):tkL N (fun p=>markT B s lv T i p || decide (p=q))=tkL N (markT B s lv T (i+1)):=by
  apply tkL_congr
  intro p _
  unfold markT
  rw [List.take_add_one,h]
  rw [show ((hitN B s lv B.length).take i++(some q).toList)=(hitN B s lv B.length).take i++[q] from rfl]
  cases T p <;> simp
theorem markT_all (B:List AV) (s:Int) (lv:Int) (T:Nat→Bool) {i:Nat} (hi:i=(hitN B s.toNat lv B.length).length):tkL B.length (markT B s.toNat lv T i)=tkL B.length (takeT B s lv T):=by
  apply tkL_congr
  intro p hp
  unfold markT takeT
  rw [hi,List.take_length]
  congr 1
  rw [Bool.eq_iff_iff]
  simp [hitN_mem,hp]
section
variable {B:List AV} {m a b:Int}
theorem pickU_l4 (run:Run) (n k0:Nat) {N:Nat} {T:Nat→Bool} (hN:N≤100000):∀ (j k i:Nat),i+j=N→j < k→f25_l4 run n k0 k (pickL i T) N (N:Int) (i:Int) (tkL N T)=some ⟨[.slice (pickL N T)],[],true⟩:=by
  intro j
  induction j with
  | zero =>
    intro k i hi hk
    obtain ⟨k,rfl⟩:∃ j,k=j+1:=⟨k-1,by omega⟩
    rw [f25_l4_eq,ltI_f (by omega),cond_false,show i=N by omega]; rfl
  | succ j ih =>
    intro k i hi hk
    obtain ⟨k,rfl⟩:∃ j,k=j+1:=⟨k-1,by omega⟩
    have ih':=ih k (i+1) (by omega) (by omega)
    rw [pickL_succ] at ih'
    have hf:(AV.fld (.agg (tkL N T)) (0+i)).toBool=T i:=by
      unfold AV.fld tkL
      rw [toAgg_a,Nat.zero_add,nth_rng (by omega)]; rfl
    have hl:=pickL_len i T
    rw [f25_l4_eq,ltI_t (by omega),cond_true,inR_nat (by omega),cond_true,Int.toNat_natCast,hf,w64 (x:=(i:Int)+1) (by omega) (by omega),show (i:Int)+1=((i+1:Nat):Int) by omega,Nat.ble_eq_true_of_le (by omega)]
    cases hT:T i with
    | true=>rw [hT,cond_true] at ih'; rw [cond_true,cond_true]; exact ih'
    | false=>rw [hT,cond_false,List.append_nil] at ih'; rw [cond_false]; exact ih'
theorem pickR_l6 (run:Run) (n k0 k2:Nat) {N:Nat} {T:Nat→Bool} (hN:N≤100000):∀ (j k i:Nat),i+j=N→j < k→f27_l6 run n k0 k2 k N (pickL i T) (i:Int) (tkL N T)=some ⟨[.slice (pickL N T)],[],true⟩:=by
  intro j
  induction j with
  | zero =>
    intro k i hi hk
    obtain ⟨k,rfl⟩:∃ j,k=j+1:=⟨k-1,by omega⟩
    rw [f27_l6_eq,ltI_f (by omega),cond_false,show i=N by omega]; rfl
  | succ j ih =>
    intro k i hi hk
    obtain ⟨k,rfl⟩:∃ j,k=j+1:=⟨k-1,by omega⟩
    have ih':=ih k (i+1) (by omega) (by omega)
    rw [pickL_succ] at ih'
    have hf:(AV.fld (.agg (tkL N T)) (0+i)).toBool=T i:=by
      unfold AV.fld tkL
      rw [toAgg_a,Nat.zero_add,nth_rng (by omega)]; rfl
    have hl:=pickL_len i T
    rw [f27_l6_eq,ltI_t (by omega),cond_true,inR_nat (by omega),cond_true,Int.toNat_natCast,hf,w64 (x:=(i:Int)+1) (by omega) (by omega),show (i:Int)+1=((i+1:Nat):Int) by omega,Nat.ble_eq_true_of_le (by omega)]
    cases hT:T i with
    | true=>rw [hT,cond_true] at ih'; rw [cond_true,cond_true]; exact ih'
    | false=>rw [hT,cond_false,List.append_nil] at ih'; rw [cond_false]; exact ih'
theorem pickLoop (hB:B.length≤1024) (hm:m≤9223372036854775807):Evt fun n=>∀ (k0:Nat) (s:Int) (T:Nat→Bool),∀ (j:Nat),j≤256→j < k0→0≤s→s≤B.length →
    f25_l0 (runE G ext n) n k0 m a b B B.length s ((j:Int)-1) (tkL B.length T)=some ⟨[.slice (pickL B.length (pickSt B m a b j s T))],[],true⟩:=by
  have hp:=Evt.all (B.length+1) fun s (hs:s < B.length+1)=>Evt.all 256 fun lv (hlv:lv < 256)=>(places_runs (L:=B) (s:=(s:Int)) (lv:=(lv:Int)) (by omega)).and (begin_runs (L:=B) (s:=(s:Int)) (lv:=(lv:Int)) (m:=m) (a:=a) (b:=b) (by omega) (by omega) hm)
  refine (hp.and (Evt.ge 3000)).mono fun n hn=>?_
  obtain ⟨g1,g2⟩:=hn
  intro k0 s T j
  induction j generalizing k0 s T with
  | zero =>
    intro _ hk h0 h1
    obtain ⟨k0,rfl⟩:∃ j,k0=j+1:=⟨k0-1,by omega⟩
    have h4:=pickU_l4 (runE G ext n) n k0 (N:=B.length) (T:=T) (by omega) B.length n 0 (by omega) (by omega)
    rw [f25_l0_eq,leI_f (by omega),cond_false]
    exact h4
  | succ j ih =>
    intro hj hk h0 h1
    obtain ⟨k0,rfl⟩:∃ j,k0=j+1:=⟨k0-1,by omega⟩
    obtain ⟨sn,rfl⟩:∃ sn:Nat,s=(sn:Int):=⟨s.toNat,by omega⟩
    obtain ⟨q1,q2⟩:=g1 sn (by omega) j (by omega)
    have hbi:=beginV_in (L:=B) (s:=(sn:Int)) (lv:=(j:Int)) (m:=m) (a:=a) (b:=b) h0 h1
    have ih':=ih k0 (beginV B (sn:Int) (j:Int) m a b) (takeT B (sn:Int) (j:Int) T) (by omega) (by omega) (by omega) hbi.2
    have hlen:=hitL_len B sn (j:Int)
    have hle:=hitL_le B sn (j:Int)
    have k2:∀ (d k i:Nat),i+d=(hitL B sn (j:Int)).length→d < k→f25_l2 (runE G ext n) n k0 k m a b B B.length (sn:Int) (j:Int) (hitL B sn (j:Int)) ((hitL B sn (j:Int)).length:Int) (i:Int) (tkL B.length (markT B sn (j:Int) T i))=some ⟨[.slice (pickL B.length (pickSt B m a b (j+1) (sn:Int) T))],[],true⟩:=by
      intro d
      induction d with
      | zero =>
        intro k i hi hk
        obtain ⟨k,rfl⟩:∃ j,k=j+1:=⟨k-1,by omega⟩
        have e:=markT_all B (sn:Int) (j:Int) T (i:=i) (by rw [Int.toNat_natCast]; omega)
        rw [Int.toNat_natCast] at e
        rw [f25_l2_eq,ltI_f (by omega),cond_false,q2,step1,toInt_i,w64 (x:=(j:Int)-1) (by omega) (by omega),e]
        exact ih'
      | succ d ih2 =>
        intro k i hi hk
        obtain ⟨k,rfl⟩:∃ j,k=j+1:=⟨k-1,by omega⟩
        have hlt:i < (hitN B sn (j:Int) B.length).length:=by omega
        have hm2:=hitN_mem.1 (List.getElem_mem hlt)
        have e1:(nth (hitL B sn (j:Int)) i).toInt=(((hitN B sn (j:Int) B.length)[i]:Nat):Int):=by
          unfold hitL nth
          rw [List.getD_eq_getElem?_getD,List.getElem?_map,List.getElem?_eq_getElem hlt]
          rfl
        rw [f25_l2_eq,ltI_t (by omega),cond_true,inR_nat (by omega),cond_true,Int.toNat_natCast,e1,inR_nat hm2.1,cond_true,Int.toNat_natCast,Nat.zero_add,tkL_set,markT_succ (List.getElem?_eq_getElem hlt),w64 (x:=(i:Int)+1) (by omega) (by omega),show (i:Int)+1=((i+1:Nat):Int) by omega]
        exact ih2 k (i+1) (by omega) (by omega)
    have hk2:=k2 (hitL B sn (j:Int)).length n 0 (by omega) (by omega)
    rw [markT_zero] at hk2
    rw [Int.toNat_natCast] at q1
    rw [f25_l0_eq,show ((j+1:Nat):Int)-1=(j:Int) by omega,leI_t (by omega),cond_true,q1,step1f,toSlice_s]
    exact hk2
theorem pick_runs {L:List AV} {k:Int} (hL:L.length≤100000):RunsX 25 [.slice L,.int m,.int k,.int a,.int b] ⟨[.slice (pickV L m k a b)],[],true⟩:=by
  unfold pickV
  cases hM:mayP m k a b with
  | false =>
    refine Evt.succ ((mayP_runs (m:=m) (k:=k) (a:=a) (b:=b)).mono fun n h=>?_)
    rw [f25_run,f25_eq,h,step1,toBool_b,hM]; rfl
  | true =>
    have hM':=hM
    unfold mayP at hM'
    rw [Bool.and_eq_true,decide_eq_true_iff] at hM'
    obtain ⟨⟨_,m2,k1,k2⟩,_⟩:=hM'
    by_cases c1:(L.length:Int)≤k
    · refine Evt.succ ((mayP_runs (m:=m) (k:=k) (a:=a) (b:=b)).mono fun n h=>?_)
      rw [f25_run,f25_eq,h,step1,toBool_b,hM,not_t,cond_false,leI_t c1,cond_true,cond_false,if_pos c1]; rfl
    by_cases c2:1024 < L.length
    · refine Evt.succ ((mayP_runs (m:=m) (k:=k) (a:=a) (b:=b)).mono fun n h=>?_)
      rw [f25_run,f25_eq,h,step1,toBool_b,hM,not_t,cond_false,leI_f c1,cond_false,ltI_t (by omega),cond_true,cond_false,if_neg c1,if_pos c2]; rfl
    have hBl:(L.take (L.length-k.toNat)).length=L.length-k.toNat:=by rw [List.length_take]; omega
    have ht:=topLv_in (L.take (L.length-k.toNat))
    refine Evt.succ (((mayP_runs (m:=m) (k:=k) (a:=a) (b:=b)).and ((top_runsP (B:=L.take (L.length-k.toNat)) (by omega)).and ((pickLoop (B:=L.take (L.length-k.toNat)) (m:=m) (a:=a) (b:=b) (by omega) (by omega)).and (Evt.ge 300)))).mono fun n h=>?_)
    obtain ⟨g1,g2,g3,g4⟩:=h
    have hb:boundsOk 0 ((L.length-k.toNat:Nat):Int) (L.length:Int) (L.length:Int)=true:=by unfold boundsOk; simp <;> omega
    have g:=g3 n 0 (fun _=>false) ((topLv (L.take (L.length-k.toNat))).toNat+1) (by omega) (by omega) (by omega) (by omega)
    rw [tkL_none,hBl,show ((((topLv (L.take (L.length-k.toNat))).toNat+1:Nat):Int)-1)=topLv (L.take (L.length-k.toNat)) by omega] at g
    rw [f25_run,f25_eq,g1,step1,toBool_b,hM,not_t,cond_false,cond_false,leI_f c1,cond_false,ltI_f (by omega),cond_false,if_neg c1,if_neg c2,w64 (by omega) (by omega),show (L.length:Int)-k=((L.length-k.toNat:Nat):Int) by omega,hb,Bool.and_true,cond_true,Int.toNat_natCast,List.drop_zero,hBl,eqI_t rfl,leI_t (by omega),Int.toNat_natCast,Nat.ble_eq_true_of_le (by omega),Bool.and_true,Bool.and_true,cond_true,g2,step1,toInt_i]
    exact g
theorem pickLoopR (hB:B.length≤1024) {J:Nat} (hJ:J≤256) (hC:∀ lv:Nat,lv < J→CmpAt (lv:Int) a b):Evt fun n=>∀ (k0 k:Nat) (s:Int) (T:Nat→Bool),∀ (j:Nat),j≤J→j < k→0≤s→s≤B.length →
    f27_l2 (runE G ext n) n k0 k m a b B ((j:Int)-1) B.length s (tkL B.length T)=some ⟨[.slice (pickL B.length (pickSt B m a b j s T))],[],true⟩:=by
  have hp:=Evt.all (B.length+1) fun s (hs:s < B.length+1)=>Evt.all J fun lv (hlv:lv < J)=>(refPlaces_runs (L:=B) (s:=(s:Int)) (lv:=(lv:Int)) (by omega)).and (refBegin_runs (L:=B) (s:=(s:Int)) (lv:=(lv:Int)) (m:=m) (a:=a) (b:=b) (hC lv hlv) (by omega))
  refine (hp.and (Evt.ge 3000)).mono fun n hn=>?_
  obtain ⟨g1,g2⟩:=hn
  intro k0 k s T j
  induction j generalizing k s T with
  | zero =>
    intro _ hk h0 h1
    obtain ⟨k,rfl⟩:∃ j,k=j+1:=⟨k-1,by omega⟩
    have h4:=pickR_l6 (runE G ext n) n k0 k (N:=B.length) (T:=T) (by omega) B.length n 0 (by omega) (by omega)
    rw [f27_l2_eq,leI_f (by omega),cond_false]
    exact h4
  | succ j ih =>
    intro hj hk h0 h1
    obtain ⟨k,rfl⟩:∃ j,k=j+1:=⟨k-1,by omega⟩
    obtain ⟨sn,rfl⟩:∃ sn:Nat,s=(sn:Int):=⟨s.toNat,by omega⟩
    obtain ⟨q1,q2⟩:=g1 sn (by omega) j (by omega)
    have hbi:=beginV_in (L:=B) (s:=(sn:Int)) (lv:=(j:Int)) (m:=m) (a:=a) (b:=b) h0 h1
    have ih':=ih k (beginV B (sn:Int) (j:Int) m a b) (takeT B (sn:Int) (j:Int) T) (by omega) (by omega) (by omega) hbi.2
    have hlen:=hitL_len B sn (j:Int)
    have hle:=hitL_le B sn (j:Int)
    have k4:∀ (d k4 i:Nat),i+d=(hitL B sn (j:Int)).length→d < k4→f27_l4 (runE G ext n) n k0 k k4 m a b B (j:Int) B.length (sn:Int) (hitL B sn (j:Int)) (i:Int) (tkL B.length (markT B sn (j:Int) T i))=some ⟨[.slice (pickL B.length (pickSt B m a b (j+1) (sn:Int) T))],[],true⟩:=by
      intro d
      induction d with
      | zero =>
        intro k4 i hi hk4
        obtain ⟨k4,rfl⟩:∃ j,k4=j+1:=⟨k4-1,by omega⟩
        have e:=markT_all B (sn:Int) (j:Int) T (i:=i) (by rw [Int.toNat_natCast]; omega)
        rw [Int.toNat_natCast] at e
        rw [f27_l4_eq,ltI_f (by omega),cond_false,q2,step1,toInt_i,w64 (x:=(j:Int)-1) (by omega) (by omega),e]
        exact ih'
      | succ d ih2 =>
        intro k4 i hi hk4
        obtain ⟨k4,rfl⟩:∃ j,k4=j+1:=⟨k4-1,by omega⟩
        have hlt:i < (hitN B sn (j:Int) B.length).length:=by omega
        have hm2:=hitN_mem.1 (List.getElem_mem hlt)
        have e1:(nth (hitL B sn (j:Int)) i).toInt=(((hitN B sn (j:Int) B.length)[i]:Nat):Int):=by
          unfold hitL nth
          rw [List.getD_eq_getElem?_getD,List.getElem?_map,List.getElem?_eq_getElem hlt]
          rfl
        rw [f27_l4_eq,ltI_t (by omega),cond_true,inR_nat (by omega),cond_true,Int.toNat_natCast,e1,inR_nat hm2.1,cond_true,Int.toNat_natCast,Nat.zero_add,tkL_set,markT_succ (List.getElem?_eq_getElem hlt),w64 (x:=(i:Int)+1) (by omega) (by omega),show (i:Int)+1=((i+1:Nat):Int) by omega]
        exact ih2 k4 (i+1) (by omega) (by omega)
    have hk2:=k4 (hitL B sn (j:Int)).length n 0 (by omega) (by omega)
    rw [markT_zero] at hk2
    rw [Int.toNat_natCast] at q1
    rw [f27_l2_eq,show ((j+1:Nat):Int)-1=(j:Int) by omega,leI_t (by omega),cond_true,q1,step1f,toSlice_s]
    exact hk2
theorem refPick_runs {L:List AV} {k:Int} (hL:L.length≤100000) (hC:mayP m k a b=true→k < L.length→∀ lv:Nat,(lv:Int)≤topLv (L.take (L.length-k.toNat))→CmpAt (lv:Int) a b):RunsX 27 [.slice L,.int m,.int k,.int a,.int b] ⟨[.slice (pickV L m k a b)],[],true⟩:=by
  unfold pickV
  cases hM:mayP m k a b with
  | false =>
    refine Evt.succ ((refMayP_runs (m:=m) (k:=k) (a:=a) (b:=b)).mono fun n h=>?_)
    rw [f27_run,f27_eq,h,step1,toBool_b,hM]; rfl
  | true =>
    have hM':=hM
    unfold mayP at hM'
    rw [Bool.and_eq_true,decide_eq_true_iff] at hM'
    obtain ⟨⟨_,_,k1,k2⟩,_⟩:=hM'
    by_cases c1:(L.length:Int)≤k
    · refine Evt.succ ((refMayP_runs (m:=m) (k:=k) (a:=a) (b:=b)).mono fun n h=>?_)
      rw [f27_run,f27_eq,h,step1,toBool_b,hM,not_t,cond_false,leI_t c1,cond_true,cond_false,if_pos c1]; rfl
    by_cases c2:1024 < L.length
    · refine Evt.succ ((refMayP_runs (m:=m) (k:=k) (a:=a) (b:=b)).mono fun n h=>?_)
      rw [f27_run,f27_eq,h,step1,toBool_b,hM,not_t,cond_false,leI_f c1,cond_false,ltI_t (by omega),cond_true,cond_false,if_neg c1,if_pos c2]; rfl
    have hBl:(L.take (L.length-k.toNat)).length=L.length-k.toNat:=by rw [List.length_take]; omega
    have ht:=topLv_in (L.take (L.length-k.toNat))
    generalize hBe:L.take (L.length-k.toNat)=B at hBl ht
    have hCB:∀ lv:Nat,lv < (topLv B).toNat+1→CmpAt (lv:Int) a b:=fun lv hlv=>by
      have:=hC hM (by omega) lv
      rw [hBe] at this
      exact this (by omega)
    refine Evt.succ (((refMayP_runs (m:=m) (k:=k) (a:=a) (b:=b)).and ((pickLoopR (B:=B) (m:=m) (a:=a) (b:=b) (by omega) (J:=(topLv B).toNat+1) (by omega) hCB).and (Evt.ge 3000))).mono fun n h=>?_)
    obtain ⟨g1,g3,g4⟩:=h
    have hb:boundsOk 0 ((L.length-k.toNat:Nat):Int) (L.length:Int) (L.length:Int)=true:=by unfold boundsOk; simp <;> omega
    have key:∀ (j k i:Nat),i+j=B.length→1≤i→j < k→f27_l0 (runE G ext n) n k m a b B (topF B i) (i:Int)=some ⟨[.slice (pickL B.length (pickSt B m a b ((topLv B).toNat+1) 0 (fun _=>false)))],[],true⟩:=by
      intro j
      induction j with
      | zero =>
        intro k i hi _ hk
        obtain ⟨k,rfl⟩:∃ j,k=j+1:=⟨k-1,by omega⟩
        have g:=g3 k n 0 (fun _=>false) ((topLv B).toNat+1) (Nat.le_refl _) (by omega) (by omega) (by omega)
        rw [tkL_none,show ((((topLv B).toNat+1:Nat):Int)-1)=topLv B by omega] at g
        have e:topLv B=min (topF B B.length) 255:=rfl
        rw [f27_l0_eq,ltI_f (by omega),cond_false,show i=B.length by omega,eqI_t rfl,leI_t (by omega),Int.toNat_natCast,Nat.ble_eq_true_of_le (by omega),Bool.and_true,Bool.and_true,cond_true,cond_true]
        by_cases h:255 < topF B B.length
        · rw [ltI_t h,cond_true]
          rw [show topLv B=255 by omega] at g ⊢
          exact g
        · rw [ltI_f h,cond_false,show topF B B.length=topLv B by omega]
          exact g
      | succ j ih =>
        intro k i hi h1 hk
        obtain ⟨k,rfl⟩:∃ j,k=j+1:=⟨k-1,by omega⟩
        have ih':=ih k (i+1) (by omega) (by omega) (by omega)
        rw [show topF B (i+1)=max (topF B i) (lev B i) from if_pos (by omega)] at ih'
        rw [f27_l0_eq,ltI_t (by omega),cond_true,inR_nat (by omega),cond_true,Int.toNat_natCast,w64 (x:=(i:Int)+1) (by omega) (by omega),show (i:Int)+1=((i+1:Nat):Int) by omega]
        by_cases h:topF B i < (nth B i).toInt
        · rw [ltI_t h,cond_true,cond_true]
          rw [show max (topF B i) (lev B i)=(nth B i).toInt from by show max (topF B i) (nth B i).toInt=_; omega] at ih'
          exact ih'
        · rw [ltI_f h,cond_false]
          rw [show max (topF B i) (lev B i)=topF B i from by show max (topF B i) (nth B i).toInt=_; omega] at ih'
          exact ih'
    rw [f27_run,f27_eq,g1,step1,toBool_b,hM,not_t,cond_false,cond_false,leI_f c1,cond_false,ltI_f (by omega),cond_false,if_neg c1,if_neg c2,w64 (by omega) (by omega),show (L.length:Int)-k=((L.length-k.toNat:Nat):Int) by omega,hb,Bool.and_true,cond_true,Int.toNat_natCast,List.drop_zero,hBe,← hBl]
    have hk:=key (B.length-1) n 1 (by omega) (by omega) (by omega)
    rw [show topF B 1=0 from rfl] at hk
    exact hk
end
end Go.Proofs.YteiahdlklppghaaGreat.Ev

namespace Go.Proofs.YteiahdlklppghaaGreat.Ev
open Go Go.RowKit
theorem two_ints {l:List AV} (h:l.length=2) (hy:∀ (i:Nat) y,l[i]?=some y→(Ty.int .i64).Has y):∃ x y:Int,l=[.int x,.int y]∧(-9223372036854775808≤x∧x≤9223372036854775807):=by
  match l,h with
  | [p,q],_ =>
    obtain ⟨x,rfl,wx⟩:=hy 0 p rfl
    obtain ⟨y,rfl,_⟩:=hy 1 q rfl
    exact ⟨x,y,rfl,wf64 wx⟩
end Go.Proofs.YteiahdlklppghaaGreat.Ev

namespace Go.Proofs.YteiahdlklppghaaGreat.Ev
open Go Go.RowKit
theorem tk_nat {b:List UInt8} {at_:Nat}:∀ i,i≤8→at_+i≤b.length→(tk b at_ i).toNat=natN ((b.drop at_).take i)
  | 0,_,_=>rfl
  | i+1,hi,hl=>by
    have ih:=tk_nat (b:=b) (at_:=at_) i (by omega) (by omega)
    have hlt:=natN_lt ((b.drop at_).take i)
    rw [List.length_take,List.length_drop,show min i (b.length-at_)=i by omega] at hlt
    have hp:256^i≤256^7:=Nat.pow_le_pow_right (by omega) (by omega)
    have hb:(byteAt b (at_+i)).toNat=(b.getD (at_+i) 0).toNat:=by
      unfold byteAt
      rw [BitVec.toNat_ofNat,Nat.mod_eq_of_lt]
      have:=(b.getD (at_+i) 0).toNat_lt
      omega
    have hb2:=(b.getD (at_+i) 0).toNat_lt
    have ht:(b.drop at_).take (i+1)=(b.drop at_).take i++[b.getD (at_+i) 0]:=by
      rw [List.take_succ_eq_append_getElem (by rw [List.length_drop]; omega),List.getElem_drop]
      simp [show at_+i < b.length by omega]
    simp only [tk]
    rw [ht,natN_snoc,← add_or _ _ (by rw [hb]; exact hb2),BitVec.toNat_add,BitVec.toNat_shiftLeft,Nat.shiftLeft_eq,hb,ih]
    simp only [Nat.reducePow] at hp ⊢
    omega
theorem tk_lb {id:List UInt8} (h:id.length=32) {i:Nat} (hi:i < 4):tk id (8*i) 8=lb (natN id) (3-i):=by
  apply BitVec.eq_of_toNat_eq
  rw [tk_nat 8 (Nat.le_refl _) (by omega),lb_toNat]
  have e:id=(id.take (8*i))++((id.drop (8*i)).take 8++id.drop (8*i+8)):=by
    rw [← List.drop_drop,List.take_append_drop,List.take_append_drop]
  have hB:=natN_lt ((id.drop (8*i)).take 8)
  have hC:=natN_lt (id.drop (8*i+8))
  have lB:((id.drop (8*i)).take 8).length=8:=by simp; omega
  have lC:(id.drop (8*i+8)).length=8*(3-i):=by simp; omega
  rw [lB] at hB
  rw [lC] at hC
  have e2:natN id=(natN (id.take (8*i))*18446744073709551616+natN ((id.drop (8*i)).take 8))*18446744073709551616^(3-i)+natN (id.drop (8*i+8)):=by
    conv=>lhs; rw [e]
    rw [natN_append,natN_append,List.length_append,lB,lC,Nat.pow_add,show (256:Nat)^(8*(3-i))=18446744073709551616^(3-i) by rw [Nat.pow_mul],← Nat.mul_assoc,Nat.add_mul,Nat.add_assoc]
  rw [Nat.pow_mul] at hC
  have hC:natN (id.drop (8*i+8)) < 18446744073709551616^(3-i):=hC
  rw [e2,Nat.mul_comm _ (18446744073709551616^(3-i)),Nat.mul_add_div (Nat.pow_pos (by omega)),Nat.div_eq_of_lt hC,Nat.add_zero,Nat.mul_comm _ 18446744073709551616,Nat.mul_add_mod,Nat.mod_eq_of_lt]
  exact hB
theorem take64_at (n:Nat) (hn:2000≤n) {b:List UInt8} (hb:b.length≤maxLen) {at_:Nat} (ha:at_≤1000000):runE G ext (n+2) 113 [.str b,.int at_]=some ⟨[.int (U (tk b at_ 8))],[],false⟩:=by
  rw [f113_run,f113_eq,show ((8:Int))=((8:Nat):Int) from rfl,take_at n hn hb ha (by omega)]
  rfl
theorem wideOf_runs {id:List UInt8} (h:id.length=32):RunsX 83 [.blob id] ⟨[.agg (limbs (natN id))],[],false⟩:=by
  refine Evt.succ ((Evt.ge 3000).mono fun n hn=>?_)
  obtain ⟨m,rfl⟩:∃ j,n=j+5:=⟨n-5,by omega⟩
  have t:∀ i:Nat,i < 4→runE G ext (m+5) 113 [.str id,.int ((8*i:Nat):Int)]=some ⟨[.int (U (lb (natN id) (3-i)))],[],false⟩:=by
    intro i hi
    rw [← tk_lb h hi]
    exact take64_at (m+3) (by omega) (by rw [maxLen_eq]; omega) (by omega)
  have step:∀ (i:Nat) (k:Nat) (o:List AV) (o2:List AV),i < 4→f83_l0 (runE G ext (m+5)) (m+5) (k+1) (i:Int) id o2 o=f83_l0 (runE G ext (m+5)) (m+5) k ((i+1:Nat):Int) id o2 (o.set (3-i) (.int (U (lb (natN id) (3-i))))):=by
    intro i k o o2 hi
    rw [f83_l0_eq,ltI_t (by omega),cond_true,raw32 h,w64 (x:=8*(i:Int)) (by omega) (by omega),show 8*(i:Int)=((8*i:Nat):Int) by omega,t i hi,step1,toInt_i,w64 (x:=3-(i:Int)) (by omega) (by omega),show 3-(i:Int)=((3-i:Nat):Int) by omega,inR_nat (by omega),cond_true,Int.toNat_natCast,w64 (x:=(i:Int)+1) (by omega) (by omega),show (i:Int)+1=((i+1:Nat):Int) by omega]
  have s0:=step 0 (m+4) [.int 0,.int 0,.int 0,.int 0] [.int 0,.int 0,.int 0,.int 0] (by omega)
  have s1:=step 1 (m+3) [.int 0,.int 0,.int 0,.int (U (lb (natN id) 3))] [.int 0,.int 0,.int 0,.int 0] (by omega)
  have s2:=step 2 (m+2) [.int 0,.int 0,.int (U (lb (natN id) 2)),.int (U (lb (natN id) 3))] [.int 0,.int 0,.int 0,.int 0] (by omega)
  have s3:=step 3 (m+1) [.int 0,.int (U (lb (natN id) 1)),.int (U (lb (natN id) 2)),.int (U (lb (natN id) 3))] [.int 0,.int 0,.int 0,.int 0] (by omega)
  rw [f83_run,f83_eq]
  refine s0.trans (s1.trans (s2.trans (s3.trans ?_)))
  rw [f83_l0_eq,ltI_f (by omega)]
  rfl
theorem wideCmp_runs {a b:Nat} (ha:a < Big) (hb:b < Big):RunsX 84 [.agg (limbs a),.agg (limbs b)] ⟨[.int (cmpN a b)],[],false⟩:=by
  refine Evt.succ ((Evt.ge 10).mono fun n hn=>?_)
  obtain ⟨m,rfl⟩:∃ j,n=j+5:=⟨n-5,by omega⟩
  have ea:=lb_all ha
  have eb:=lb_all hb
  have fa:=fun j=>(lb a j).isLt
  have fb:=fun j=>(lb b j).isLt
  have step:∀ (i k:Nat),i < 4→f84_l0 (runE G ext (m+5)) (m+5) (k+1) (i:Int) (limbs a) (limbs b)=if (lb a (3-i)).toNat < (lb b (3-i)).toNat then some ⟨[.int (-1)],[],false⟩ else if (lb b (3-i)).toNat < (lb a (3-i)).toNat then some ⟨[.int 1],[],false⟩ else f84_l0 (runE G ext (m+5)) (m+5) k ((i+1:Nat):Int) (limbs a) (limbs b):=by
    intro i k hi
    rw [f84_l0_eq,ltI_t (by omega),cond_true,w64 (x:=3-(i:Int)) (by omega) (by omega),show 3-(i:Int)=((3-i:Nat):Int) by omega,inR_nat (by omega),cond_true,cond_true,Int.toNat_natCast,limbs_fld a (by omega),limbs_fld b (by omega),toInt_i,toInt_i,w64 (x:=(i:Int)+1) (by omega) (by omega),show (i:Int)+1=((i+1:Nat):Int) by omega]
    unfold U
    by_cases h1:(lb a (3-i)).toNat < (lb b (3-i)).toNat
    · rw [if_pos h1,ltI_t (by omega)]; rfl
    · rw [if_neg h1,ltI_f (by omega),cond_false]
      by_cases h2:(lb b (3-i)).toNat < (lb a (3-i)).toNat
      · rw [if_pos h2,ltI_t (by omega)]; rfl
      · rw [if_neg h2,ltI_f (by omega)]; rfl
  have s0:=step 0 (m+4) (by omega)
  have s1:=step 1 (m+3) (by omega)
  have s2:=step 2 (m+2) (by omega)
  have s3:=step 3 (m+1) (by omega)
  have s4:f84_l0 (runE G ext (m+5)) (m+5) (m+1) ((4:Nat):Int) (limbs a) (limbs b)=some ⟨[.int 0],[],false⟩:=by
    rw [f84_l0_eq,ltI_f (by omega)]; rfl
  rw [f84_run,f84_eq]
  refine s0.trans ?_
  rw [s1,s2,s3,s4]
  simp only [Nat.sub_zero,Nat.reduceSub]
  have a0:=fa 0
  have a1:=fa 1
  have a2:=fa 2
  have a3:=fa 3
  have b0:=fb 0
  have b1:=fb 1
  have b2:=fb 2
  have b3:=fb 3
  generalize (lb a 0).toNat=p0 at *
  generalize (lb a 1).toNat=p1 at *
  generalize (lb a 2).toNat=p2 at *
  generalize (lb a 3).toNat=p3 at *
  generalize (lb b 0).toNat=q0 at *
  generalize (lb b 1).toNat=q1 at *
  generalize (lb b 2).toNat=q2 at *
  generalize (lb b 3).toNat=q3 at *
  simp only [Nat.reducePow] at a0 a1 a2 a3 b0 b1 b2 b3
  unfold cmpN
  have lt:a < b→(if a < b then (-1:Int) else if b < a then 1 else 0)=-1:=fun h=>if_pos h
  have gt:b < a→(if a < b then (-1:Int) else if b < a then 1 else 0)=1:=fun h=>by rw [if_neg (by omega),if_pos h]
  have eq:a=b→(if a < b then (-1:Int) else if b < a then 1 else 0)=0:=fun h=>by rw [if_neg (by omega),if_neg (by omega)]
  by_cases c1:p3 < q3
  · rw [if_pos c1,lt (by omega)]
  rw [if_neg c1]
  by_cases c2:q3 < p3
  · rw [if_pos c2,gt (by omega)]
  rw [if_neg c2]
  by_cases c3:p2 < q2
  · rw [if_pos c3,lt (by omega)]
  rw [if_neg c3]
  by_cases c4:q2 < p2
  · rw [if_pos c4,gt (by omega)]
  rw [if_neg c4]
  by_cases c5:p1 < q1
  · rw [if_pos c5,lt (by omega)]
  rw [if_neg c5]
  by_cases c6:q1 < p1
  · rw [if_pos c6,gt (by omega)]
  rw [if_neg c6]
  by_cases c7:p0 < q0
  · rw [if_pos c7,lt (by omega)]
  rw [if_neg c7]
  by_cases c8:q0 < p0
  · rw [if_pos c8,gt (by omega)]
  rw [if_neg c8,eq (by omega)]
def okV (id target:List UInt8):Bool:=decide (natN id≤natN target)
theorem workOk_runs {id target:List UInt8} (h:id.length=32) (ht:target.length=32):RunsX 95 [.blob id,.blob target] ⟨[.bool (okV id target)],[],false⟩:=by
  refine Evt.succ (((wideOf_runs h).and ((wideOf_runs ht).and (wideCmp_runs (natN_big h) (natN_big ht)))).mono fun n hn=>?_)
  obtain ⟨g1,g2,g3⟩:=hn
  rw [f95_run,f95_eq]
  repeat (first | rw [step1] | rw [step1f] | rw [step2] | rw [step3] | rw [toBool_b] | rw [toInt_i] | rw [toStr_s] | rw [toBlob_b] | rw [toSlice_s] | rw [fld0] | rw [fld1] | rw [fld2] | rw [fld3] | rw [cond_true] | rw [cond_false] | rw [not_t] | rw [not_f] | rw [g1] | rw [g2] | rw [toAgg_a] | rw [g3] | rw [cmpN_le])
  rfl
theorem refOf_l2 (run:Run) (n k0:Nat) (id:List UInt8) (N m c:Nat) (hm:m < 32) (hc:c < 256) (hN:∀ k,k < 8→N.testBit (8*m+k)=c.testBit k):∀ (j k i:Nat),i+j=8→j < k →
    f88_l2 run n k0 k ((List.range (8*m+i)).map fun x=>.bool (N.testBit x)) ((31-m:Nat):Int) ((c / 2^i:Nat):Int) (i:Int) id=f88_l0 run n k0 ((List.range (8*(m+1))).map fun x=>.bool (N.testBit x)) ((31-m:Nat)-1:Int) id:=by
  intro j
  induction j with
  | zero =>
    intro k i hi hk
    obtain ⟨k,rfl⟩:∃ j,k=j+1:=⟨k-1,by omega⟩
    obtain rfl:i=8:=by omega
    rw [f88_l2_eq,ltI_f (by omega),cond_false,w64 (by omega) (by omega),show 8*m+8=8*(m+1) by omega]
  | succ j ih =>
    intro k i hi hk
    obtain ⟨k,rfl⟩:∃ j,k=j+1:=⟨k-1,by omega⟩
    have ih':=ih k (i+1) (by omega) (by omega)
    have hlt:c / 2^i < 256:=Nat.lt_of_le_of_lt (Nat.div_le_self _ _) hc
    have e1:eqI (Int.tmod ((c / 2^i:Nat):Int) 2) 1=N.testBit (8*m+i):=by
      rw [hN i (by omega),Nat.testBit_eq_decide_div_mod_eq]
      have:Int.tmod ((c / 2^i:Nat):Int) 2=((c / 2^i % 2:Nat):Int):=rfl
      rw [this]
      by_cases hq:c / 2^i % 2=1
      · rw [eqI_t (by omega),decide_eq_true hq]
      · rw [eqI_f (by omega),decide_eq_false hq]
    have e2:IntKind.wrap .i64 (Int.tdiv ((c / 2^i:Nat):Int) 2)=((c / 2^(i+1):Nat):Int):=by
      rw [Nat.pow_succ,← Nat.div_div_eq_div_mul]
      generalize c / 2^i=q at hlt
      have:Int.tdiv (q:Int) 2=((q / 2:Nat):Int):=rfl
      rw [this,w64 (by omega) (by omega)]
    have e3:((List.range (8*m+i)).map fun x=>AV.bool (N.testBit x))++[.bool (N.testBit (8*m+i))]=(List.range (8*m+(i+1))).map fun x=>AV.bool (N.testBit x):=by
      rw [← Nat.add_assoc,List.range_succ]; simp
    rw [f88_l2_eq,ltI_t (by omega),cond_true,show Nat.ble (((((List.range (8*m+i)).map fun x=>AV.bool (N.testBit x)).length+1))*1) 140737488355328=true from Nat.ble_eq_true_of_le (by simp; omega),cond_true,e1,e2,e3,w64 (x:=(i:Int)+1) (by omega) (by omega),show (i:Int)+1=((i+1:Nat):Int) by omega]
    exact ih'
theorem refOf_runs {id:List UInt8} (h:id.length=32):RunsX 88 [.blob id] ⟨[.slice (bitsL (natN id))],[],true⟩:=by
  refine Evt.succ ((Evt.ge 100).mono fun n hn=>?_)
  have key:∀ (j k m:Nat),m+j=32→j < k→f88_l0 (runE G ext n) n k ((List.range (8*m)).map fun x=>.bool ((natN id).testBit x)) (31-(m:Int)) id=some ⟨[.slice (bitsL (natN id))],[],true⟩:=by
    intro j
    induction j with
    | zero =>
      intro k m hm hk
      obtain ⟨k,rfl⟩:∃ j,k=j+1:=⟨k-1,by omega⟩
      obtain rfl:m=32:=by omega
      rw [f88_l0_eq,leI_f (by omega)]; rfl
    | succ j ih =>
      intro k m hm hk
      obtain ⟨k,rfl⟩:∃ j,k=j+1:=⟨k-1,by omega⟩
      have ih':=ih k (m+1) (by omega) (by omega)
      have hg:=natN_get id m (by omega)
      rw [h,show 32-1-m=31-m by omega] at hg
      have hN:∀ k,k < 8→(natN id).testBit (8*m+k)=((id.getD (31-m) 0).toNat).testBit k:=by
        intro k hk
        rw [← hg,show (256:Nat)=2^8 from rfl,Nat.testBit_mod_two_pow,decide_eq_true hk,Bool.true_and,← Nat.pow_mul,testBit_shift,Nat.add_comm]
      have hc:=(id.getD (31-m) 0).toNat_lt
      have:=refOf_l2 (runE G ext n) n k id (natN id) m _ (by omega) hc hN 8 n 0 (by omega) (by omega)
      rw [Nat.pow_zero,Nat.div_one,Nat.add_zero] at this
      rw [f88_l0_eq,leI_t (by omega),cond_true,show 31-(m:Int)=((31-m:Nat):Int) by omega,inR_nat (by omega),cond_true,Int.toNat_natCast,w64 (by omega) (by omega)]
      refine this.trans ?_
      rw [show ((31-m:Nat)-1:Int)=31-((m+1:Nat):Int) by omega]
      exact ih'
  rw [f88_run,f88_eq]
  exact key 32 n 0 (by omega) (by omega)
theorem refCmp_runs {a b:Nat} (ha:a < Big) (hb:b < Big):RunsX 89 [.slice (bitsL a),.slice (bitsL b)] ⟨[.int (cmpN a b)],[],false⟩:=by
  refine Evt.succ ((Evt.ge 300).mono fun n hn=>?_)
  have fin:∀ (k:Nat),a=b→f89_l0 (runE G ext n) n (k+1) (bitsL a) (bitsL b) (-1)=some ⟨[.int (cmpN a b)],[],false⟩:=by
    intro k he
    rw [f89_l0_eq,leI_f (by omega)]
    unfold cmpN
    rw [if_neg (by omega),if_neg (by omega)]; rfl
  have key:∀ (i k:Nat),i≤256→i < k→a / 2^i=b / 2^i→f89_l0 (runE G ext n) n k (bitsL a) (bitsL b) ((i:Int)-1)=some ⟨[.int (cmpN a b)],[],false⟩:=by
    intro i
    induction i with
    | zero =>
      intro k _ hk he
      obtain ⟨k,rfl⟩:∃ j,k=j+1:=⟨k-1,by omega⟩
      exact fin k (by simpa using he)
    | succ i ih =>
      intro k h2 hk he
      obtain ⟨k,rfl⟩:∃ j,k=j+1:=⟨k-1,by omega⟩
      have ih':=ih k (by omega) (by omega)
      have sa:=bit_step a i
      have sb:=bit_step b i
      rw [f89_l0_eq,show ((i+1:Nat):Int)-1=(i:Int) by omega,leI_t (by omega),cond_true,inR_nat (by rw [bitsL_len]; omega),inR_nat (by rw [bitsL_len]; omega),cond_true,cond_true,cond_true,Int.toNat_natCast,bitsL_nth a (by omega),bitsL_nth b (by omega),toBool_b,toBool_b,w64 (x:=(i:Int)-1) (by omega) (by omega)]
      have mono:∀ x y:Nat,x / 2^i < y / 2^i→x < y:=fun x y hxy=>by
        refine Nat.lt_of_not_le fun hle=>?_
        have:=Nat.div_le_div_right (c:=2^i) hle
        omega
      cases ta:a.testBit i <;> cases tb:b.testBit i
      · rw [eqO_same,not_t,cond_false]
        rw [ta] at sa
        rw [tb] at sb
        exact ih' (by rw [sa,sb,he])
      · rw [ta] at sa
        rw [tb] at sb
        have:a < b:=mono a b (by rw [sa,sb,he]; show _+0 < _+1; omega)
        unfold cmpN
        rw [if_pos this]; rfl
      · rw [ta] at sa
        rw [tb] at sb
        have:b < a:=mono b a (by rw [sa,sb,he]; show _+0 < _+1; omega)
        unfold cmpN
        rw [if_neg (by omega),if_pos this]; rfl
      · rw [eqO_same,not_t,cond_false]
        rw [ta] at sa
        rw [tb] at sb
        exact ih' (by rw [sa,sb,he])
  have top:∀ x,x < Big→x / 2^256=0:=fun x hx=>Nat.div_eq_of_lt hx
  rw [f89_run,f89_eq,bitsL_len,w64 (by omega) (by omega)]
  exact key 256 n (by omega) (by omega) (by rw [top a ha,top b hb])
theorem refOk_runs {id target:List UInt8} (h:id.length=32) (ht:target.length=32):RunsX 65 [.blob id,.blob target] ⟨[.bool (okV id target)],[],false⟩:=by
  refine Evt.succ (((refOf_runs h).and ((refOf_runs ht).and (refCmp_runs (natN_big h) (natN_big ht)))).mono fun n hn=>?_)
  obtain ⟨g1,g2,g3⟩:=hn
  rw [f65_run,f65_eq]
  repeat (first | rw [step1] | rw [step1f] | rw [step2] | rw [step3] | rw [toBool_b] | rw [toInt_i] | rw [toStr_s] | rw [toBlob_b] | rw [toSlice_s] | rw [fld0] | rw [fld1] | rw [fld2] | rw [fld3] | rw [cond_true] | rw [cond_false] | rw [not_t] | rw [not_f] | rw [g1] | rw [g2] | rw [g3] | rw [cmpN_le])
  rfl
end Go.Proofs.YteiahdlklppghaaGreat.Ev

