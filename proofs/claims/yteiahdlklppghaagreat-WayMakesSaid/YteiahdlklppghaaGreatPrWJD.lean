import Derived.Test.YteiahdlklppghaaGreatPrWJC
namespace Go.Proofs.YteiahdlklppghaaGreat.Ev
open Go Go.RowKit
theorem refFar_l2 (run:Run) (n k0:Nat) (L acc A:List AV) («to»:Int) (h0:0≤«to») (hA:A.length≤1000):∀ (j k i:Nat) (b:Int) (s:Bool),i+j=A.length→j < k→(s=true→0≤b) →
    f37_l2 run n k0 k L «to» acc A (bif s then b else -1) (i:Int)=bif (farL A «to» j i b s).2 then (bif Nat.ble ((acc.length+1)*8) 140737488355328 then f37_l0 run n k0 L (farL A «to» j i b s).1 «to» (acc++[.int (farL A «to» j i b s).1]) else none) else some ⟨[.slice []],[],f37_fresh⟩:=by
  intro j
  induction j with
  | zero =>
    intro k i b s hi hk hs
    obtain ⟨k,rfl⟩:∃ j,k=j+1:=⟨k-1,by omega⟩
    rw [f37_l2_eq,ltI_f (by omega),cond_false]
    simp only [farL]
    cases s with
    | false=>rw [cond_false,ltI_t (by omega)]; rfl
    | true=>rw [cond_true,ltI_f (by have:=hs rfl; omega)]; rfl
  | succ j ih =>
    intro k i b s hi hk hs
    obtain ⟨k,rfl⟩:∃ j,k=j+1:=⟨k-1,by omega⟩
    rw [f37_l2_eq,ltI_t (by omega),cond_true,inR_nat (by omega),cond_true,Int.toNat_natCast,w64 (x:=(i:Int)+1) (by omega) (by omega),show (i:Int)+1=((i+1:Nat):Int) by omega]
    simp only [farL]
    by_cases hc:«to»≤(nth A i).toInt
    · have i1:=ih k (i+1) (nth A i).toInt true (by omega) (by omega) (fun _=>by omega)
      rw [cond_true] at i1
      rw [leI_t hc,cond_true,cond_true]
      cases s with
      | false=>rw [cond_false,ltI_t (by omega),cond_true,cond_true,i1]; rfl
      | true =>
        have i2:=ih k (i+1) b true (by omega) (by omega) hs
        rw [cond_true] at i2
        rw [cond_true,ltI_f (by have:=hs rfl; omega),cond_false,cond_true]
        cases hl:ltI (nth A i).toInt b with
        | true=>rw [cond_true,cond_true,i1]; rfl
        | false=>rw [cond_false,i2]; rfl
    · have i3:=ih k (i+1) b s (by omega) (by omega) hs
      rw [leI_f hc,cond_false,i3]; rfl
theorem refWalk_runs {L:List AV} {x «to»:Int} (hL:L.length≤100000):RunsX 37 [.slice L,.int x,.int «to»] ⟨[.slice (walkV L x «to»)],[],true⟩:=by
  unfold walkV
  by_cases c1:«to» < 0
  · refine Evt.succ (.of fun n=>?_)
    rw [if_pos (.inl c1),f37_run,f37_eq,ltI_t c1,cond_true]; rfl
  by_cases c2:x < «to»
  · refine Evt.succ (.of fun n=>?_)
    rw [if_pos (.inr (.inl c2)),f37_run,f37_eq,ltI_f c1,cond_false,ltI_t c2,cond_true]; rfl
  by_cases c3:(L.length:Int)≤x
  · refine Evt.succ (.of fun n=>?_)
    rw [if_pos (.inr (.inr c3)),f37_run,f37_eq,ltI_f c1,cond_false,ltI_f c2,cond_false,leI_t c3,cond_true]; rfl
  have hall:=Evt.all L.length fun i (_:i < L.length)=>(allR_runs (l:=L) (at_:=(i:Int)) (by rw [maxLen_eq]; omega))
  refine Evt.succ ((hall.and (Evt.ge (x.toNat+1002))).mono fun n hn=>?_)
  have key:∀ (j k:Nat) (x:Int) (acc:List AV),0≤x→x≤j→x < L.length→j < k→acc.length+j≤1000000→f37_l0 (runE G ext n) n k L x «to» acc=some ⟨[.slice (((walkG L «to» j x).map (acc++·)).getD [])],[],true⟩:=by
    intro j
    induction j with
    | zero =>
      intro k x acc h0 hx _ hk _
      obtain ⟨k,rfl⟩:∃ j,k=j+1:=⟨k-1,by omega⟩
      rw [f37_l0_eq,ltI_f (by omega),cond_false]
      simp only [walkG,Option.map_some,Option.getD_some,List.append_nil]; rfl
    | succ j ih =>
      intro k x acc h0 hx hxl hk ha
      obtain ⟨k,rfl⟩:∃ j,k=j+1:=⟨k-1,by omega⟩
      simp only [walkG]
      by_cases h:«to» < x
      · have r1:=hn.1 x.toNat (by omega)
        rw [show ((x.toNat:Nat):Int)=x by omega] at r1
        have hA:=allOf_len L x
        have hf:=refFar_l2 (runE G ext n) n k L acc (allOf L x) «to» (by omega) (by omega) (allOf L x).length n 0 0 false (by omega) (by omega) (fun h=>by cases h)
        rw [cond_false] at hf
        rw [f37_l0_eq,ltI_t h,cond_true,cond_true,r1,wstep1f,toSlice_s]
        refine hf.trans ?_
        have e:farV L x «to»=farL (allOf L x) «to» (allOf L x).length 0 0 false:=rfl
        rw [← e]
        cases hf:(farV L x «to»).2 with
        | false=>rfl
        | true =>
          have hin:=farV_in hf
          have ih':=ih k (farV L x «to»).1 (acc++[.int (farV L x «to»).1]) (by omega) (by omega) (by omega) (by omega) (by simp; omega)
          rw [cond_true,cond_true,Nat.ble_eq_true_of_le (by omega),cond_true,ih']
          cases walkG L «to» j (farV L x «to»).1 with
          | none=>rfl
          | some r=>simp only [Option.map_some,Option.getD_some,List.append_assoc,List.singleton_append]
      · rw [f37_l0_eq,ltI_f h,cond_false,cond_false]
        simp only [Option.map_some,Option.getD_some,List.append_nil]; rfl
  rw [if_neg (by omega),f37_run,f37_eq,ltI_f c1,cond_false,ltI_f c2,cond_false,leI_f c3,cond_false]
  exact key x.toNat n x [.int x] (by omega) (by omega) (by omega) (by omega) (by simp; omega)
theorem walkG_last {L:List AV} {«to»:Int} (h0:0≤«to»):∀ (j:Nat) (x:Int) (r:List AV),«to»≤x→x≤j→walkG L «to» j x=some r→(AV.int x::r).getLast?=some (.int «to»)
  | 0,x,r,h1,h2,h=>by
    cases h
    obtain rfl:x=«to»:=by omega
    rfl
  | j+1,x,r,h1,h2,h=>by
    simp only [walkG] at h
    by_cases hc:«to» < x
    · rw [ltI_t hc,cond_true] at h
      cases hf:(farV L x «to»).2 with
      | false=>rw [hf] at h; cases h
      | true =>
        rw [hf,cond_true] at h
        obtain ⟨r',h3,rfl⟩:=Option.map_eq_some_iff.1 h
        have hin:=farV_in hf
        have:=walkG_last h0 j _ r' hin.1 (by omega) h3
        rw [List.getLast?_cons_cons]
        exact this
    · rw [ltI_f hc,cond_false] at h
      cases h
      obtain rfl:x=«to»:=by omega
      rfl
theorem walkV_ends {L:List AV} {x «to»:Int} (h:(walkV L x «to»).length≠0) (hlt:«to» < x):∃ M,walkV L x «to»=.int x::(M++[.int «to»]):=by
  unfold walkV at h ⊢
  by_cases hc:«to» < 0∨x < «to»∨(L.length:Int)≤x
  · rw [if_pos hc] at h; exact absurd rfl h
  rw [if_neg hc] at h ⊢
  cases hw:walkG L «to» x.toNat x with
  | none=>rw [hw] at h; exact absurd rfl h
  | some r =>
    have hl:=walkG_last (by omega) _ _ _ (by omega) (by omega) hw
    show ∃ M,AV.int x::r=_
    rcases List.eq_nil_or_concat r with rfl | ⟨M,y,rfl⟩
    · simp at hl; omega
    · refine ⟨M,?_⟩
      rw [List.concat_eq_append,← List.cons_append,List.getLast?_concat] at hl
      cases hl
      rw [List.concat_eq_append]
theorem betRef_l2 (run:Run) (n k0:Nat) (A acc:List AV) (hA:∃ zs:List Int,A=zs.map AV.int) (ha:A.length≤100000):∀ (m k:Nat) (acc:List AV),acc.length+m≤1000000→m+1≤A.length→m < k→f18_l2 run n k0 k A acc (m:Int)=some ⟨[.slice (acc++((A.take (m+1)).drop 1).reverse)],[],true⟩:=by
  obtain ⟨zs,hz⟩:=hA
  intro m
  induction m with
  | zero =>
    intro k acc _ hm hk
    obtain ⟨k,rfl⟩:∃ j,k=j+1:=⟨k-1,by omega⟩
    rw [f18_l2_eq,ltI_f (by omega),cond_false]
    have:(A.take (0+1)).drop 1=[]:=List.drop_eq_nil_of_le (by rw [List.length_take]; omega)
    rw [this,List.reverse_nil,List.append_nil]; rfl
  | succ m ih =>
    intro k acc hacc hm hk
    obtain ⟨k,rfl⟩:∃ j,k=j+1:=⟨k-1,by omega⟩
    have e:AV.int (nth A (m+1)).toInt=A[m+1]'(by omega):=by
      rw [nth_lt (by omega)]
      subst hz
      rw [List.getElem_map]
      rfl
    rw [f18_l2_eq,ltI_t (by omega),cond_true,inR_nat (by omega),cond_true,Nat.ble_eq_true_of_le (by omega),cond_true,Int.toNat_natCast,e,w64 (by omega) (by omega),show ((m+1:Nat):Int)-1=(m:Int) by omega,ih k _ (by simp; omega) (by omega) (by omega)]
    have e2:(A.take (m+1+1)).drop 1=(A.take (m+1)).drop 1++[A[m+1]'(by omega)]:=by
      rw [List.take_succ_eq_append_getElem (by omega),List.drop_append_of_le_length (by rw [List.length_take]; omega)]
    rw [e2,List.reverse_append,List.reverse_singleton,List.singleton_append,List.append_assoc,List.singleton_append]
theorem betRef_l0 (run:Run) (n:Nat) (A C:List AV) (hC:∃ zs:List Int,C=zs.map AV.int) (ha:A.length≤100000) (hc:C.length≤100000):∀ (m k:Nat) (acc:List AV),acc.length+m≤100000→m≤C.length→m < k→f18_l0 run n k A C acc ((m:Int)-1)=f18_l2 run n (k-m-1) n A (acc++(C.take m).reverse) (IntKind.wrap .i64 ((A.length:Int)-2)):=by
  obtain ⟨zs,hz⟩:=hC
  intro m
  induction m with
  | zero =>
    intro k acc _ _ hk
    obtain ⟨k,rfl⟩:∃ j,k=j+1:=⟨k-1,by omega⟩
    rw [f18_l0_eq,leI_f (by omega),cond_false,List.take_zero,List.reverse_nil,List.append_nil]; rfl
  | succ m ih =>
    intro k acc hacc hm hk
    obtain ⟨k,rfl⟩:∃ j,k=j+1:=⟨k-1,by omega⟩
    have e:AV.int (nth C m).toInt=C[m]'(by omega):=by
      rw [nth_lt (by omega)]
      subst hz
      rw [List.getElem_map]
      rfl
    rw [f18_l0_eq,show (((m+1:Nat):Int)-1)=(m:Int) by omega,leI_t (by omega),cond_true,inR_nat (by omega),cond_true,Nat.ble_eq_true_of_le (by omega),cond_true,Int.toNat_natCast,e,w64 (x:=(m:Int)-1) (by omega) (by omega),ih k _ (by simp; omega) (by omega) (by omega)]
    rw [List.take_succ_eq_append_getElem (by omega),List.reverse_append,List.reverse_singleton,List.singleton_append,List.append_assoc,List.singleton_append,show k+1-(m+1)-1=k-m-1 by omega]
theorem refBetween_runs {L:List AV} {high at_ low:Int} (hL:L.length≤50000):RunsX 18 [.slice L,.int high,.int at_,.int low] ⟨[.slice (betV L high at_ low)],[],true⟩:=by
  by_cases c1:high≤at_
  · refine Evt.succ (.of fun n=>?_)
    unfold betV
    rw [if_pos (.inr (.inr (.inl c1))),f18_run,f18_eq,leI_t c1,cond_true]; rfl
  by_cases c2:at_≤low
  · refine Evt.succ (.of fun n=>?_)
    unfold betV
    rw [if_pos (.inr (.inr (.inr c2))),f18_run,f18_eq,leI_f c1,cond_false,leI_t c2,cond_true]; rfl
  refine Evt.succ (((refWalk_runs (L:=L) (x:=high) («to»:=at_) (by omega)).and ((refWalk_runs (L:=L) (x:=at_) («to»:=low) (by omega)).and (Evt.ge 100002))).mono fun n hn=>?_)
  obtain ⟨g1,g2,g3⟩:=hn
  have lA:=walkV_le (L:=L) (x:=high) («to»:=at_)
  have lC:=walkV_le (L:=L) (x:=at_) («to»:=low)
  have iA:=walkV_ints L high at_
  have iC:=walkV_ints L at_ low
  rw [f18_run,f18_eq,leI_f c1,cond_false,leI_f c2,cond_false,g1,wstep1f,g2,wstep1f,toSlice_s,toSlice_s]
  by_cases a0:(walkV L high at_).length=0
  · unfold betV
    rw [if_pos (.inl a0),a0,eqI_t (show ((0:Nat):Int)=0 from rfl),cond_true]; rfl
  by_cases b0:(walkV L at_ low).length=0
  · unfold betV
    rw [if_pos (.inr (.inl b0)),eqI_f (by omega),cond_false,b0,eqI_t (show ((0:Nat):Int)=0 from rfl),cond_true]; rfl
  have hb:betV L high at_ low=(((walkV L high at_).drop 1++(walkV L at_ low).drop 1).dropLast).reverse:=by
    unfold betV
    rw [if_neg (by omega)]
  obtain ⟨M,hM⟩:=walkV_ends a0 (by omega)
  obtain ⟨R,hR⟩:=walkV_ends b0 (by omega)
  rw [hb,eqI_f (by omega),cond_false,eqI_f (by omega),cond_false]
  rw [hM] at lA iA ⊢
  rw [hR] at lC iC ⊢
  have l1:(AV.int high::(M++[AV.int at_])).length=M.length+2:=by simp
  have l2:(AV.int at_::(R++[AV.int low])).length=R.length+2:=by simp
  rw [l1] at lA
  rw [l2] at lC
  rw [l2,w64 (by omega) (by omega),show (((R.length+2:Nat):Int)-2)=((R.length+1:Nat):Int)-1 by omega,betRef_l0 (runE G ext n) n _ _ iC (by omega) (by omega) (R.length+1) n [] (by simp; omega) (by omega) (by omega),l1,w64 (by omega) (by omega),show (((M.length+2:Nat):Int)-2)=(M.length:Int) by omega]
  rw [betRef_l2 (runE G ext n) n _ _ [] iA (by omega) M.length n _ (by simp; omega) (by omega) (by omega)]
  have e1:(AV.int at_::(R++[AV.int low])).take (R.length+1)=AV.int at_::R:=by
    rw [List.take_succ_cons,List.take_left]
  have e2:((AV.int high::(M++[AV.int at_])).take (M.length+1)).drop 1=M:=by
    rw [List.take_succ_cons,List.take_left]; rfl
  rw [e1,e2]
  congr 3
  rw [List.drop_succ_cons,List.drop_zero,List.drop_succ_cons,List.drop_zero,← List.append_assoc,List.dropLast_concat]
  simp
theorem between_runs {L:List AV} {a b c:Int} (hL:L.length≤100000):RunsX 17 [.slice L,.int a,.int b,.int c] ⟨[.slice (betV L a b c)],[],false⟩:=by
  refine RunsX.of_eval 0 ?_
  show ext 17 _=_
  have e:ext 17 [.slice L,.int a,.int b,.int c]=betweenX [.slice L,.int a,.int b,.int c]:=by
    unfold ext
    rw [show assoc extL 17=some betweenX from by rfl]
    rfl
  rw [e]
  show (bif Nat.ble L.length 100000 then some (⟨[.slice (betV L a b c)],[],false⟩:Res) else none)=_
  rw [Nat.ble_eq_true_of_le hL,cond_true]
set_option maxRecDepth 1000000 in
theorem wayAwake:RunsX 16 [] ⟨[.bool true],[],false⟩:=RunsX.of_eval 300 (by kernel_rfl)
end Go.Proofs.YteiahdlklppghaaGreat.Ev

namespace Go.Proofs.YteiahdlklppghaaGreat.Ev
open Go Go.RowKit
abbrev Ix (at_:Int) (st:List AV) (bi bn:Int) (bp:List AV) (w:Int) (tx:List UInt8) (oi om:Int) (op:List AV):AV :=
  .agg [.int at_,.slice st,.agg [.int bi,.int bn,.slice bp],.int w,.str tx,.agg [.int oi,.int om,.slice op]]
section
variable {t:List UInt8} {l:List AV} {at_:Int} {st:List AV} {bi bn:Int} {bp:List AV} {w:Int} {tx:List UInt8} {oi om:Int} {op:List AV}
end
theorem nth_app {l m:List AV} {i:Nat} (h:i < l.length):nth (l++m) i=nth l i:=by
  rw [nth_lt (by rw [List.length_append]; omega),nth_lt h,List.getElem_append_left h]
end Go.Proofs.YteiahdlklppghaaGreat.Ev

namespace Go.Proofs.YteiahdlklppghaaGreat.Ev
open Go Go.RowKit
def arN (L:List AV) (at_:Int):Nat→Nat→Nat
  | 0,i=>i
  | j+1,i=>bif leI at_ (nth L i).toInt then i else arN L at_ j (i+1)
theorem arN_spec {L:List AV} {at_:Int}:∀ j i,i+j=L.length→i≤arN L at_ j i∧arN L at_ j i≤L.length∧(arN L at_ j i < L.length→at_≤(nth L (arN L at_ j i)).toInt)∧∀ k,i≤k→k < arN L at_ j i→(nth L k).toInt < at_
  | 0,i,h=>⟨Nat.le_refl i,by show i≤_; omega,fun h2=>by have h3:i < L.length:=h2; omega,fun k h1 h2=>by have h3:k < i:=h2; omega⟩
  | j+1,i,h=>by
    simp only [arN]
    by_cases hc:at_≤(nth L i).toInt
    · rw [leI_t hc,cond_true]
      exact ⟨Nat.le_refl i,by omega,fun _=>hc,fun k h1 h2=>by omega⟩
    · rw [leI_f hc,cond_false]
      obtain ⟨h1,h2,h3,h4⟩:=arN_spec (L:=L) (at_:=at_) j (i+1) (by omega)
      refine ⟨by omega,h2,h3,fun k k1 k2=>?_⟩
      by_cases hk:k=i
      · rw [hk]; omega
      · exact h4 k (by omega) k2
theorem around_runs {L:List AV} {at_:Int} (hL:L.length≤100000):RunsX 39 [.slice L,.int at_] ⟨[.int (arN L at_ L.length 0:Int)],[],f39_fresh⟩:=by
  refine Evt.succ ((Evt.ge (L.length+2)).mono fun n hn=>?_)
  have key:∀ (j k i:Nat),i+j=L.length→j < k→f39_l0 (runE G ext n) n k L at_ L (L.length:Int) (i:Int)=some ⟨[.int (arN L at_ j i:Int)],[],f39_fresh⟩:=by
    intro j
    induction j with
    | zero =>
      intro k i hi hk
      obtain ⟨k,rfl⟩:∃ j,k=j+1:=⟨k-1,by omega⟩
      obtain rfl:i=L.length:=by omega
      rw [f39_l0_eq,ltI_f (by omega),cond_false]; rfl
    | succ j ih =>
      intro k i hi hk
      obtain ⟨k,rfl⟩:∃ j,k=j+1:=⟨k-1,by omega⟩
      have ih':=ih k (i+1) (by omega) (by omega)
      rw [show ((i+1:Nat):Int)=(i:Int)+1 by omega] at ih'
      simp only [arN]
      rw [f39_l0_eq,ltI_t (by omega),cond_true,inR_nat (by omega),cond_true,Int.toNat_natCast,w64 (x:=(i:Int)+1) (by omega) (by omega),ih']
      cases leI at_ (nth L i).toInt <;> rfl
  rw [f39_run,f39_eq]
  exact key L.length n 0 (by omega) (by omega)
theorem walkOk_app {L:List AV} {N a b:Nat}:∀ {r s:List AV} {x:Nat},walkOk L N a x r→walkOk L N b a s→walkOk L N b x (r++s)
  | [],s,x,h,k=>by
    have h':x=a:=h
    rw [h']; exact k
  | y::r,s,x,h,k=>by
    obtain ⟨z,e1,e2,e3,e4,e5⟩:=h
    exact ⟨z,e1,e2,e3,e4,walkOk_app e5 k⟩
section
variable {t:List UInt8} {l ps:List AV} {p:Nat→Nat}
theorem walkG_L (hok:∀ i,i < l.length→0≤levelV (idA ((nth l i).fld 0)) t) {«to»:Nat}:∀ j x,x≤j+«to»→«to»≤x→x < l.length→walkG (levsV t l) («to»:Int) j (x:Int)=some (walkL (levsV t l) «to» j x)
  | 0,x,_,_,_=>rfl
  | j+1,x,h1,h2,h3=>by
    simp only [walkG,walkL]
    by_cases h:«to» < x
    · obtain ⟨f1,y,e1,e2,e3,e4⟩:=far_fact hok h h3
      have f1':(farV (levsV t l) (x:Int) («to»:Int)).2=true:=f1
      have e1':(farV (levsV t l) (x:Int) («to»:Int)).1=(y:Int):=e1
      rw [ltI_t (by omega),cond_true,f1',cond_true,e1',if_pos h,e1,Int.toNat_natCast,walkG_L hok j y (by omega) e2 (by omega)]
      rfl
    · rw [ltI_f (by omega),cond_false,if_neg h]
theorem walkV_L (hok:∀ i,i < l.length→0≤levelV (idA ((nth l i).fld 0)) t) {x «to»:Nat} (h1:«to»≤x) (h2:x < l.length):walkV (levsV t l) (x:Int) («to»:Int)=.int (x:Int)::walkL (levsV t l) «to» x x:=by
  unfold walkV
  rw [if_neg (by rw [levsV_len]; omega),Int.toNat_natCast,walkG_L hok x x (by omega) h1 h2]
  rfl
structure Way (t:List UInt8) (l:List AV) (high q low:Nat) (ps:List AV) (p:Nat→Nat) (c:Nat):Prop where
  walk:WalkP t l ps p
  len:3≤ps.length
  le:ps.length≤2*l.length
  eq:ps=[.int (low:Int)]++betV (levsV t l) (high:Int) (q:Int) (low:Int)++[.int (high:Int)]
  blen:(betV (levsV t l) (high:Int) (q:Int) (low:Int)).length+2=ps.length
  first:p 0=low
  last:p (ps.length-1)=high
  mid:p c=q
  c1:1≤c
  c2:c+1 < ps.length
theorem way_exists (hok:∀ i,i < l.length→0≤levelV (idA ((nth l i).fld 0)) t) {high q low:Nat} (h1:low < q) (h2:q < high) (h3:high < l.length):∃ ps p c,Way t l high q low ps p c:=by
  have o1:=walkL_ok hok («to»:=q) high high (by omega) (by omega) h3
  have o2:=walkL_ok hok («to»:=low) q q (by omega) (by omega) (by omega)
  have v1:=walkV_L hok (x:=high) («to»:=q) (by omega) h3
  have v2:=walkV_L hok (x:=q) («to»:=low) (by omega) (by omega)
  have l1:=walkL_len (levsV t l) q high high
  have l2:=walkL_len (levsV t l) low q q
  have hw:=walkOk_app o1 o2
  have a1:=(walkOk_at o1).2
  generalize hr1:walkL (levsV t l) q high high=r1 at *
  generalize hr2:walkL (levsV t l) low q q=r2 at *
  have n1:1≤r1.length:=by
    cases r1 with
    | nil=>have:high=q:=o1; omega
    | cons _ _=>simp
  have n2:1≤r2.length:=by
    cases r2 with
    | nil=>have:q=low:=o2; omega
    | cons _ _=>simp
  obtain ⟨w1,w2⟩:=walkOk_at hw
  have hlen:(r1++r2).length=r1.length+r2.length:=List.length_append
  have hbet:betV (levsV t l) (high:Int) (q:Int) (low:Int)=(r1++r2).dropLast.reverse:=by
    unfold betV
    rw [v1,v2,if_neg (by simp; omega)]
    rfl
  have hne:r1++r2≠[]:=by
    intro h
    rw [h] at hlen
    have h4:([]:List AV).length=0:=rfl
    omega
  have hlast:(r1++r2).getLast hne=.int (low:Int):=by
    have hlt:r1.length+r2.length-1 < (r1++r2).length:=by omega
    rw [hlen,show r1.length+r2.length=(r1.length+r2.length-1)+1 by omega] at w2
    have e:nth (AV.int (high:Int)::(r1++r2)) (r1.length+r2.length-1+1)=nth (r1++r2) (r1.length+r2.length-1):=rfl
    rw [e,nth_lt hlt] at w2
    rw [List.getLast_eq_getElem,← w2]
    congr 1
    omega
  have hps:[.int (low:Int)]++betV (levsV t l) (high:Int) (q:Int) (low:Int)++[.int (high:Int)]=(AV.int (high:Int)::(r1++r2)).reverse:=by
    rw [hbet,List.reverse_cons]
    congr 1
    rw [← hlast]
    conv=>rhs; rw [← List.dropLast_concat_getLast hne]
    rw [List.reverse_append]
    rfl
  have hpl:(AV.int (high:Int)::(r1++r2)).reverse.length=r1.length+r2.length+1:=by rw [List.length_reverse,List.length_cons,hlen]
  have hnth:∀ i,i≤r1.length+r2.length→nth (AV.int (high:Int)::(r1++r2)).reverse i=nth (AV.int (high:Int)::(r1++r2)) (r1.length+r2.length-i):=by
    intro i hi
    rw [nth_lt (by rw [hpl]; omega),nth_lt (by rw [List.length_cons,hlen]; omega),List.getElem_reverse]
    congr 1
    rw [List.length_cons,hlen]
    omega
  have hint:∀ k,k≤r1.length+r2.length→∃ a:Nat,nth (AV.int (high:Int)::(r1++r2)) k=.int (a:Int)∧a < l.length:=by
    intro k hk
    by_cases hk2:k < r1.length+r2.length
    · obtain ⟨a,b,e1,e2,e3,e4,_⟩:=w1 k (by rw [hlen]; exact hk2)
      exact ⟨a,e1,e4⟩
    · refine ⟨low,?_,by omega⟩
      rw [show k=(r1++r2).length by omega]
      exact w2
  refine ⟨_,fun i=>(nth (AV.int (high:Int)::(r1++r2)).reverse i).toInt.toNat,r2.length,⟨⟨fun i hi=>?_,fun i hi=>?_,fun i hi=>?_⟩,by rw [hpl]; omega,by rw [hpl]; omega,hps.symm,?_,?_,?_,?_,n2,by rw [hpl]; omega⟩⟩
  · rw [hpl] at hi
    obtain ⟨a,e1,_⟩:=hint (r1.length+r2.length-i) (by omega)
    rw [hnth i (by omega),e1]; rfl
  · rw [hpl] at hi
    obtain ⟨a,e1,e2⟩:=hint (r1.length+r2.length-i) (by omega)
    show (nth _ i).toInt.toNat < _
    rw [hnth i (by omega),e1]; exact e2
  · rw [hpl] at hi
    obtain ⟨a,b,e1,e2,e3,e4,k,k1,k2⟩:=w1 (r1.length+r2.length-(i+1)) (by omega)
    rw [show r1.length+r2.length-(i+1)+1=r1.length+r2.length-i by omega] at e2
    have f1:(nth (AV.int (high:Int)::(r1++r2)).reverse (i+1)).toInt.toNat=a:=by rw [hnth (i+1) (by omega),e1]; rfl
    have f2:(nth (AV.int (high:Int)::(r1++r2)).reverse i).toInt.toNat=b:=by rw [hnth i (by omega),e2]; rfl
    show (nth _ i).toInt.toNat < (nth _ (i+1)).toInt.toNat∧_
    rw [f1,f2]
    exact ⟨e3,k,k1,k2⟩
  · rw [hpl,hbet,List.length_reverse,List.length_dropLast,hlen]; omega
  · show (nth _ 0).toInt.toNat=low
    rw [hnth 0 (by omega),Nat.sub_zero,← hlen,w2]; rfl
  · show (nth _ _).toInt.toNat=high
    rw [hpl,hnth _ (by omega),show r1.length+r2.length-(r1.length+r2.length+1-1)=0 by omega]; rfl
  · show (nth _ r2.length).toInt.toNat=q
    rw [hnth _ (by omega),show r1.length+r2.length-r2.length=r1.length by omega]
    have e:nth (AV.int (high:Int)::(r1++r2)) r1.length=nth (AV.int (high:Int)::r1) r1.length:=by
      rw [← List.cons_append]
      exact nth_app (by simp)
    rw [e,a1]; rfl
theorem WalkP.mono (W:WalkP t l ps p):∀ {i j:Nat},i≤j→j < ps.length→p i≤p j:=by
  intro i j h
  induction h with
  | refl=>intro _; exact Nat.le_refl _
  | step h ih =>
    intro hj
    have h1:=ih (by omega)
    have h2:=(W.next _ hj).1
    exact Nat.le_trans h1 (Nat.le_of_lt h2)
theorem WalkP.strict (W:WalkP t l ps p) {i j:Nat} (h:i < j) (hj:j < ps.length):p i < p j :=
  Nat.lt_of_lt_of_le (W.next i (by omega)).1 (W.mono h hj)
end
theorem ix_norm (at_:Int) (st:List AV) (bi bn:Int) (bp:List AV) (w:Int) (tx:List UInt8) (oi om:Int) (op:List AV) :
    AV.agg [.int (((Ix at_ st bi bn bp w tx oi om op).fld 0).toInt),.slice (((Ix at_ st bi bn bp w tx oi om op).fld 1).toSlice),.agg [.int ((((Ix at_ st bi bn bp w tx oi om op).fld 2).fld 0).toInt),.int ((((Ix at_ st bi bn bp w tx oi om op).fld 2).fld 1).toInt),.slice ((((Ix at_ st bi bn bp w tx oi om op).fld 2).fld 2).toSlice)],.int (((Ix at_ st bi bn bp w tx oi om op).fld 3).toInt),.str (((Ix at_ st bi bn bp w tx oi om op).fld 4).toStr),.agg [.int ((((Ix at_ st bi bn bp w tx oi om op).fld 5).fld 0).toInt),.int ((((Ix at_ st bi bn bp w tx oi om op).fld 5).fld 1).toInt),.slice ((((Ix at_ st bi bn bp w tx oi om op).fld 5).fld 2).toSlice)]]=Ix at_ st bi bn bp w tx oi om op:=rfl
section
variable {gh:Int} {gl gt:List UInt8} {gn:Int} {t:List UInt8} {m K a b c5 c6:Int} {l ps:List AV} {p:Nat→Nat}
end
end Go.Proofs.YteiahdlklppghaaGreat.Ev

namespace Go.Proofs.YteiahdlklppghaaGreat.Ev
open Go Go.RowKit
theorem trim_runsX {L:List AV} (hL:L.length≤100000):RunsX 173 [.slice L] ⟨[.slice (trimL L)],[],f173_fresh⟩:=by
  refine Evt.succ ((Evt.ge (L.length+2)).mono fun n hn=>?_)
  have key:∀ (j:Nat) (k:Nat) (y:List AV),y.length=j→j≤100000→j < k→f173_l0 (runE G ext n) n k y=some ⟨[.slice (trimL y)],[],f173_fresh⟩:=by
    intro j
    induction j with
    | zero =>
      intro k y hy _ hk
      obtain ⟨k,rfl⟩:∃ j,k=j+1:=⟨k-1,by omega⟩
      rw [f173_l0_eq,ltI_f (by omega),cond_false,List.length_eq_zero_iff.1 hy]; rfl
    | succ j ih =>
      intro k y hy hj hk
      obtain ⟨k,rfl⟩:∃ j,k=j+1:=⟨k-1,by omega⟩
      rcases List.eq_nil_or_concat y with rfl | ⟨x,a,rfl⟩
      · simp at hy
      · rw [List.concat_eq_append] at hy ⊢
        have hx:x.length=j:=by simp at hy; omega
        have e1:nth (x++[a]) j=a:=by
          rw [nth_lt (by rw [hy]; omega),List.getElem_append_right (by omega)]
          simp [hx]
        have e2:(x++[a]).take j=x:=by rw [← hx,List.take_left]
        rw [f173_l0_eq,hy,ltI_t (by omega),cond_true,w64 (by omega) (by omega),show ((j+1:Nat):Int)-1=(j:Int) by omega,inR_nat (by omega),cond_true,Int.toNat_natCast,e1,trimL_last]
        cases eqI a.toInt 0 with
        | false=>rfl
        | true =>
          rw [cond_true,show (boundsOk 0 (j:Int) ((j+1:Nat):Int) ((j+1:Nat):Int)&&true)=true by simp [boundsOk]; omega,cond_true,e2,List.drop_zero,ih k x hx (by omega) (by omega)]
          rfl
  rw [f173_run,f173_eq]
  exact key L.length n L rfl hL (by omega)
theorem tm_nat (x:Nat) (h:x≤9000000000000000000):IntKind.wrap .i64 (Int.tmod (x:Int) 65536)=((x % 65536:Nat):Int):=by
  rw [Int.tmod_eq_emod_of_nonneg (by omega),w64 (by omega) (by omega)]; omega
theorem td_nat (x:Nat) (h:x≤9000000000000000000):IntKind.wrap .u64 (Int.tdiv (x:Int) 65536)=((x / 65536:Nat):Int):=by
  rw [Int.tdiv_eq_ediv_of_nonneg (by omega),wrap64]; omega
def dig4 (v:Nat):Nat→Nat
  | 0=>v % 65536
  | 1=>v / 65536 % 65536
  | 2=>v / 65536 / 65536 % 65536
  | 3=>v / 65536 / 65536 / 65536 % 65536
  | _=>0
theorem dig4_lt (v:Nat):∀ j,dig4 v j < 65536
  | 0=>by show v % 65536 < 65536; omega
  | 1=>by show v / 65536 % 65536 < 65536; omega
  | 2=>by show v / 65536 / 65536 % 65536 < 65536; omega
  | 3=>by show v / 65536 / 65536 / 65536 % 65536 < 65536; omega
  | _+4=>by show 0 < 65536; decide
theorem ofB_runs {v:Nat} (hv:v≤9000000000000000000):RunsX 160 [.int (v:Int)] ⟨[.slice (digs 4 v)],[],f160_fresh⟩:=by
  have ht:=trim_runsX (L:=(List.range 4).map fun t=>AV.int (dig4 v t:Int)) (by simp)
  have e:vn (dig4 v) 4=v:=by
    simp only [vn,dig4]
    omega
  rw [(trimL_digs 4 (dig4 v) (dig4_lt v)).1,e] at ht
  have hl:RunsX 174 [.slice [.int (v:Int)]] ⟨[.slice (digs 4 v)],[],f174_fresh⟩:=by
    refine Evt.succ ((ht.and (Evt.ge 10)).mono fun n hn=>?_)
    obtain ⟨k,rfl⟩:∃ k,n=k+10:=⟨n-10,by omega⟩
    have hl1:(([.int (v:Int)]:List AV).length:Int)=1:=rfl
    rw [f174_run,f174_eq,f174_l0_eq,hl1,ltI_t (by omega),cond_true,show inR 0 ([.int (v:Int)]:List AV).length=true from rfl,cond_true,show nth [AV.int (v:Int)] (Int.toNat 0)=.int (v:Int) from rfl,toInt_i]
    rw [f174_l2_eq,ltI_t (by omega),cond_true,show Nat.ble ((([]:List AV).length+1)*8) 140737488355328=true from rfl,cond_true,tm_nat v hv,td_nat v hv,show IntKind.wrap .i64 (0+1)=1 by decide,List.nil_append]
    rw [f174_l2_eq,ltI_t (by omega),cond_true,show Nat.ble (([AV.int ((v % 65536:Nat):Int)].length+1)*8) 140737488355328=true from rfl,cond_true,tm_nat _ (by omega),td_nat _ (by omega),show IntKind.wrap .i64 (1+1)=2 by decide]
    rw [f174_l2_eq,ltI_t (by omega),cond_true,show Nat.ble ((([AV.int ((v % 65536:Nat):Int)]++[AV.int ((v / 65536 % 65536:Nat):Int)]).length+1)*8) 140737488355328=true from rfl,cond_true,tm_nat _ (by omega),td_nat _ (by omega),show IntKind.wrap .i64 (2+1)=3 by decide]
    rw [f174_l2_eq,ltI_t (by omega),cond_true,show Nat.ble ((([AV.int ((v % 65536:Nat):Int)]++[AV.int ((v / 65536 % 65536:Nat):Int)]++[AV.int ((v / 65536 / 65536 % 65536:Nat):Int)]).length+1)*8) 140737488355328=true from rfl,cond_true,tm_nat _ (by omega),td_nat _ (by omega),show IntKind.wrap .i64 (3+1)=4 by decide]
    rw [f174_l2_eq,ltI_f (by omega),cond_false,show IntKind.wrap .i64 (0+1)=1 by decide]
    rw [f174_l0_eq,hl1,ltI_f (by omega),cond_false]
    have h1:runE G ext (k+10) 173 [.slice ([AV.int ((v % 65536:Nat):Int)]++[AV.int ((v / 65536 % 65536:Nat):Int)]++[AV.int ((v / 65536 / 65536 % 65536:Nat):Int)]++[AV.int ((v / 65536 / 65536 / 65536 % 65536:Nat):Int)])]=_:=hn.1
    rw [h1]; rfl
  refine Evt.succ (hl.mono fun n hn=>?_)
  rw [f160_run,f160_eq,hn]; rfl
theorem vl_app (a:AV):∀ l:List AV,vl (l++[a])=vl l+a.toInt.toNat*65536^l.length
  | []=>by simp [vl]
  | b::l=>by
    have ih:=vl_app a l
    show b.toInt.toNat+65536*vl (l++[a])=b.toInt.toNat+65536*vl l+a.toInt.toNat*65536^(l.length+1)
    have e3:a.toInt.toNat*65536^(l.length+1)=65536*(a.toInt.toNat*65536^l.length):=by rw [Nat.pow_succ,← Nat.mul_assoc,Nat.mul_comm]
    rw [ih,e3,Nat.mul_add]
    omega
theorem digOk_cons {a:AV} {l:List AV}:digOk (a::l)=true ↔ (0≤a.toInt∧a.toInt < 65536)∧digOk l=true:=by
  unfold digOk
  rw [List.all_cons,Bool.and_eq_true,Bool.and_eq_true,leI_iff,ltI_iff]
theorem digOk_take {l:List AV} (h:digOk l=true) (j:Nat):digOk (l.take j)=true:=by
  unfold digOk at h ⊢
  rw [List.all_eq_true] at h ⊢
  intro x hx
  exact h x (List.mem_of_mem_take hx)
theorem vl_lt:∀ {l:List AV},digOk l=true→vl l < 65536^l.length
  | [],_=>by simp [vl]
  | a::l,h=>by
    obtain ⟨h1,h2⟩:=digOk_cons.1 h
    have ih:=vl_lt h2
    show a.toInt.toNat+65536*vl l < 65536^(l.length+1)
    rw [Nat.pow_succ]
    omega
theorem digs_ok:∀ k v,digOk (digs k v)=true∧(digs k v).length≤k∧(v < 65536^k→vl (digs k v)=v∧((digs k v).length≠0→65536^((digs k v).length-1)≤v))
  | 0,v=>⟨rfl,Nat.le_refl 0,fun h=>⟨by simp at h; rw [h]; rfl,fun h=>absurd rfl h⟩⟩
  | k+1,v=>by
    by_cases h0:v=0
    · subst h0
      exact ⟨rfl,Nat.zero_le _,fun _=>⟨rfl,fun h=>absurd rfl h⟩⟩
    · obtain ⟨i1,i2,i3⟩:=digs_ok k (v / 65536)
      have e:digs (k+1) v=.int ((v % 65536:Nat):Int)::digs k (v / 65536):=if_neg h0
      rw [e]
      refine ⟨digOk_cons.2 ⟨by show (0:Int)≤((v % 65536:Nat):Int)∧((v % 65536:Nat):Int) < 65536; omega,i1⟩,by rw [List.length_cons]; omega,fun h=>?_⟩
      have h2:v / 65536 < 65536^k:=by
        rw [Nat.pow_succ] at h
        exact Nat.div_lt_of_lt_mul (by rw [Nat.mul_comm]; exact h)
      obtain ⟨j1,j2⟩:=i3 h2
      refine ⟨?_,fun _=>?_⟩
      · show ((v % 65536:Nat):Int).toNat+65536*vl (digs k (v / 65536))=v
        rw [j1]; omega
      · rw [List.length_cons,Nat.add_sub_cancel]
        by_cases hl:(digs k (v / 65536)).length=0
        · rw [hl]; simp; omega
        · have:=j2 hl
          obtain ⟨L,hL⟩:∃ L,(digs k (v / 65536)).length=L+1:=⟨(digs k (v / 65536)).length-1,by omega⟩
          rw [hL,Nat.add_sub_cancel] at this
          rw [hL,Nat.pow_succ]
          have:=Nat.mul_le_of_le_div _ _ _ this
          exact this
theorem mulB_runs {X Y:List AV} (hX:digOk X=true) (hY:digOk Y=true) (h1:X.length≤1000) (h2:Y.length≤1000):RunsX 159 [.slice X,.slice Y] ⟨[.slice (digs (X.length+Y.length+1) (vl X*vl Y))],[],false⟩:=by
  refine RunsX.of_eval 0 ?_
  show ext 159 _=_
  have e:ext 159 [.slice X,.slice Y]=mulX [.slice X,.slice Y]:=by
    unfold ext
    rw [show assoc extL 159=some mulX from by rfl]
    rfl
  rw [e]
  show (bif Nat.ble X.length 1000&&(Nat.ble Y.length 1000&&(digOk X&&digOk Y)) then some (⟨[.slice (digs (X.length+Y.length+1) (vl X*vl Y))],[],false⟩:Res) else none)=_
  rw [Nat.ble_eq_true_of_le h1,Nat.ble_eq_true_of_le h2,hX,hY]; rfl
theorem mulB_fits {X Y:List AV} (hX:digOk X=true) (hY:digOk Y=true):vl X*vl Y < 65536^(X.length+Y.length+1):=by
  have h1:=vl_lt hX
  have h2:=vl_lt hY
  have h3:vl X*vl Y≤vl X*65536^Y.length:=Nat.mul_le_mul_left _ (Nat.le_of_lt h2)
  have h4:vl X*65536^Y.length < 65536^X.length*65536^Y.length:=Nat.mul_lt_mul_of_pos_right h1 (Nat.pow_pos (by decide))
  rw [← Nat.pow_add] at h4
  have h5:65536^(X.length+Y.length)≤65536^(X.length+Y.length+1):=Nat.pow_le_pow_right (by decide) (by omega)
  omega
def powL (u:Nat):List AV:=List.replicate (u / 16) (.int 0)++[.int ((2^(u % 16):Nat):Int)]
theorem vl_zeros (x:AV):∀ q,vl (List.replicate q (.int 0)++[x])=x.toInt.toNat*65536^q
  | 0=>by simp [vl]
  | q+1=>by
    have ih:=vl_zeros x q
    rw [List.replicate_succ,List.cons_append]
    show 0+65536*vl (List.replicate q (.int 0)++[x])=_
    rw [ih,Nat.zero_add,Nat.pow_succ,Nat.mul_comm 65536,Nat.mul_assoc]
theorem powL_ok (u:Nat):digOk (powL u)=true∧(powL u).length=u / 16+1∧vl (powL u)=2^u:=by
  have h1:2^(u % 16)≤2^15:=Nat.pow_le_pow_right (by decide) (by omega)
  have h2:(2:Nat)^15=32768:=by decide
  refine ⟨?_,by simp [powL],?_⟩
  · unfold digOk powL
    rw [List.all_append,Bool.and_eq_true]
    refine ⟨?_,?_⟩
    · rw [List.all_eq_true]
      intro x hx
      rw [(List.mem_replicate.1 hx).2]
      rfl
    · rw [List.all_cons,List.all_nil,Bool.and_true,Bool.and_eq_true,leI_iff,ltI_iff,toInt_i]
      generalize 2^(u % 16)=z at h1 ⊢
      omega
  · unfold powL
    rw [vl_zeros,toInt_i,Int.toNat_natCast,show (65536:Nat)=2^16 by decide,← Nat.pow_mul,← Nat.pow_add]
    congr 1
    omega
theorem power_runs {u:Nat} (hu:u≤255):RunsX 161 [.int (u:Int)] ⟨[.slice (powL u)],[],f161_fresh⟩:=by
  refine Evt.succ (.of fun n=>?_)
  have e1:IntKind.wrap .i64 (Int.tdiv (u:Int) 16)=((u / 16:Nat):Int):=by
    rw [Int.tdiv_eq_ediv_of_nonneg (by omega),w64 (by omega) (by omega)]; omega
  have e2:Int.tmod (u:Int) 16=((u % 16:Nat):Int):=by
    rw [Int.tmod_eq_emod_of_nonneg (by omega)]; omega
  have h1:2^(u % 16)≤2^15:=Nat.pow_le_pow_right (by decide) (by omega)
  have h2:(2:Nat)^15=32768:=by decide
  have hb1:(-9223372036854775808:Int)≤((2^(u % 16):Nat):Int):=by
    generalize 2^(u % 16)=z
    omega
  have hb2:((2^(u % 16):Nat):Int)≤9223372036854775807:=by
    generalize 2^(u % 16)=z at h1 ⊢
    omega
  have e3:IntKind.wrap .i64 (1*2^(min (Int.toNat ((u % 16:Nat):Int)) 64))=((2^(u % 16):Nat):Int):=by
    rw [Int.toNat_natCast,show min (u % 16) 64=u % 16 by omega,Int.one_mul,show ((2:Int)^(u % 16))=((2^(u % 16):Nat):Int) by push_cast; rfl,w64 hb1 hb2]
  have e4:IntKind.wrap .i64 (((u / 16:Nat):Int)+1)=((u / 16+1:Nat):Int):=by rw [w64 (by omega) (by omega)]; omega
  rw [f161_run,f161_eq,e1,e2,e3,e4,eqI_t rfl,leI_t (by omega),Int.toNat_natCast,Nat.ble_eq_true_of_le (by omega),Bool.true_and,Bool.true_and,cond_true,leI_t (by omega),cond_true,inR_nat (by omega),cond_true,Int.toNat_natCast,Nat.zero_add,List.drop_zero,List.take_of_length_le (by simp),List.replicate_succ',List.set_append_right _ _ (by simp)]
  simp only [List.length_replicate,Nat.sub_self,List.set_cons_zero]
  rfl
theorem lcmp_runs {X Y:List AV} (hX:digOk X=true) (hY:digOk Y=true) (hl:X.length=Y.length) (hL:X.length≤100000):Evt fun n=>∀ k,X.length < k→f162_l0 (runE G ext n) n k X Y ((X.length:Int)-1)=some ⟨[.int (cmpN (vl X) (vl Y))],[],f162_fresh⟩:=by
  refine .of fun n=>?_
  have key:∀ (j k:Nat),j≤X.length→j < k→f162_l0 (runE G ext n) n k X Y ((j:Int)-1)=some ⟨[.int (cmpN (vl (X.take j)) (vl (Y.take j)))],[],f162_fresh⟩:=by
    intro j
    induction j with
    | zero =>
      intro k _ hk
      obtain ⟨k,rfl⟩:∃ j,k=j+1:=⟨k-1,by omega⟩
      rw [f162_l0_eq,leI_f (by omega),cond_false]
      rfl
    | succ j ih =>
      intro k hj hk
      obtain ⟨k,rfl⟩:∃ j,k=j+1:=⟨k-1,by omega⟩
      have ih':=ih k (by omega) (by omega)
      have x1:X.take (j+1)=X.take j++[nth X j]:=by rw [List.take_succ_eq_append_getElem (by omega),nth_lt (by omega)]
      have y1:Y.take (j+1)=Y.take j++[nth Y j]:=by rw [List.take_succ_eq_append_getElem (by omega),nth_lt (by omega)]
      have x2:=vl_lt (digOk_take hX j)
      have y2:=vl_lt (digOk_take hY j)
      have xl:(X.take j).length=j:=by rw [List.length_take]; omega
      have yl:(Y.take j).length=j:=by rw [List.length_take]; omega
      rw [xl] at x2
      rw [yl] at y2
      have x3:0≤(nth X j).toInt:=by
        have h:=List.all_eq_true.1 hX (nth X j) (by rw [nth_lt (by omega)]; exact List.getElem_mem _)
        rw [Bool.and_eq_true] at h
        exact leI_iff.1 h.1
      have y3:0≤(nth Y j).toInt:=by
        have h:=List.all_eq_true.1 hY (nth Y j) (by rw [nth_lt (by omega)]; exact List.getElem_mem _)
        rw [Bool.and_eq_true] at h
        exact leI_iff.1 h.1
      rw [x1,y1,vl_app,vl_app,xl,yl]
      rw [f162_l0_eq,show (((j+1:Nat):Int)-1)=(j:Int) by omega,leI_t (by omega),cond_true,inR_nat (show j < X.length by omega),cond_true,inR_nat (show j < Y.length by omega),cond_true,cond_true,cond_true,Int.toNat_natCast,w64 (x:=(j:Int)-1) (by omega) (by omega),ih']
      generalize vl (X.take j)=p at *
      generalize vl (Y.take j)=q at *
      obtain ⟨xj,hxj⟩:∃ m:Nat,(nth X j).toInt=(m:Int):=⟨(nth X j).toInt.toNat,by omega⟩
      obtain ⟨yj,hyj⟩:∃ m:Nat,(nth Y j).toInt=(m:Int):=⟨(nth Y j).toInt.toNat,by omega⟩
      rw [hxj,hyj,Int.toNat_natCast,Int.toNat_natCast]
      by_cases c1:yj < xj
      · have h4:(yj+1)*65536^j≤xj*65536^j:=Nat.mul_le_mul_right _ c1
        rw [Nat.add_mul,Nat.one_mul] at h4
        rw [ltI_t (by omega),cond_true]
        unfold cmpN
        rw [if_neg (by omega),if_pos (by omega)]
      · rw [ltI_f (by omega),cond_false]
        by_cases c2:xj < yj
        · have h4:(xj+1)*65536^j≤yj*65536^j:=Nat.mul_le_mul_right _ c2
          rw [Nat.add_mul,Nat.one_mul] at h4
          rw [ltI_t (by omega),cond_true]
          unfold cmpN
          rw [if_pos (by omega)]
        · obtain rfl:xj=yj:=by omega
          rw [ltI_f (by omega),cond_false]
          have e:cmpN (p+xj*65536^j) (q+xj*65536^j)=cmpN p q:=by
            unfold cmpN
            by_cases c3:p < q
            · rw [if_pos c3,if_pos (by omega)]
            · rw [if_neg c3,if_neg (by omega)]
              by_cases c4:q < p
              · rw [if_pos c4,if_pos (by omega)]
              · rw [if_neg c4,if_neg (by omega)]
          rw [e]
  intro k hk
  have:=key X.length k (Nat.le_refl _) hk
  rw [List.take_length,hl,List.take_length] at this
  rw [hl]
  exact this
theorem bigCmp_runs {k1 v1 k2 v2:Nat} (h1:v1 < 65536^k1) (h2:v2 < 65536^k2) (q1:k1≤100000):RunsX 162 [.slice (digs k1 v1),.slice (digs k2 v2)] ⟨[.int (cmpN v1 v2)],[],f162_fresh⟩:=by
  obtain ⟨a1,a2,a3⟩:=digs_ok k1 v1
  obtain ⟨b1,b2,b3⟩:=digs_ok k2 v2
  obtain ⟨a4,a5⟩:=a3 h1
  obtain ⟨b4,b5⟩:=b3 h2
  have a6:=vl_lt a1
  have b6:=vl_lt b1
  rw [a4] at a6
  rw [b4] at b6
  by_cases hl:(digs k1 v1).length=(digs k2 v2).length
  · refine Evt.succ (((lcmp_runs a1 b1 hl (by omega)).and (Evt.ge (k1+2))).mono fun n hn=>?_)
    have:=hn.1 n (by omega)
    rw [a4,b4] at this
    rw [f162_run,f162_eq,eqI_t (by omega),not_t,cond_false,w64 (by omega) (by omega)]
    exact this
  · refine Evt.succ (.of fun n=>?_)
    rw [f162_run,f162_eq,eqI_f (by omega),not_f,cond_true]
    by_cases c:(digs k2 v2).length < (digs k1 v1).length
    · have h3:=a5 (by omega)
      have h4:65536^(digs k2 v2).length≤65536^((digs k1 v1).length-1):=Nat.pow_le_pow_right (by decide) (by omega)
      rw [ltI_t (by omega),cond_true]
      unfold cmpN
      rw [if_neg (by omega),if_pos (by omega)]
    · have h3:=b5 (by omega)
      have h4:65536^(digs k1 v1).length≤65536^((digs k2 v2).length-1):=Nat.pow_le_pow_right (by decide) (by omega)
      rw [ltI_f (by omega),cond_false]
      unfold cmpN
      rw [if_pos (by omega)]
theorem u64_nat (x:Nat) (h:x≤9000000000000000000):IntKind.wrap .u64 (x:Int)=(x:Int):=by rw [wrap64]; omega
theorem refCmp_all {n of_:Nat} {up a b:Int} (hn:n < 65536) (ho:of_ < 65536):RunsX 141 [.int (n:Int),.int (of_:Int),.int up,.int a,.int b] ⟨[.int (cmpR n of_ up a b)],[],false⟩:=by
  by_cases hup:up≤16∨255 < up
  · exact refCmp_small hn ho hup
  by_cases h:mayR a b=true∧0≤up∧up≤255
  case neg=>exact refCmp_bad h
  obtain ⟨m1,m2,m3⟩:=mayR_iff.1 h.1
  obtain ⟨bn,rfl⟩:∃ bn:Nat,b=(bn:Int):=⟨b.toNat,by omega⟩
  obtain ⟨dn,hd⟩:∃ dn:Nat,(bn:Int)-a=(dn:Int):=⟨((bn:Int)-a).toNat,by omega⟩
  obtain ⟨u,rfl⟩:∃ u:Nat,up=(u:Int):=⟨up.toNat,by omega⟩
  have e:cmpR n of_ (u:Int) a (bn:Int)=cmpN (n*bn*2^u) (of_*dn):=by
    unfold cmpR; rw [if_pos h,Int.toNat_natCast,hd,Int.toNat_natCast,Int.toNat_natCast]
  rw [e]
  have h4:(65536:Nat)^4=18446744073709551616:=by decide
  obtain ⟨n1,n2,n3⟩:=digs_ok 4 n
  obtain ⟨b1,b2,b3⟩:=digs_ok 4 bn
  obtain ⟨o1,o2,o3⟩:=digs_ok 4 of_
  obtain ⟨d1,d2,d3⟩:=digs_ok 4 dn
  have n4:=(n3 (by omega)).1
  have b4:=(b3 (by omega)).1
  have o4:=(o3 (by omega)).1
  have d4:=(d3 (by omega)).1
  have r1:=mulB_runs n1 b1 (by omega) (by omega)
  have f1:=mulB_fits n1 b1
  rw [n4,b4] at r1 f1
  generalize hk1:(digs 4 n).length+(digs 4 bn).length+1=k1 at r1 f1
  obtain ⟨x1,x2,x3⟩:=digs_ok k1 (n*bn)
  have x4:=(x3 f1).1
  obtain ⟨p1,p2,p3⟩:=powL_ok u
  have r2:=mulB_runs x1 p1 (by omega) (by omega)
  have f2:=mulB_fits x1 p1
  rw [x4,p3] at r2 f2
  generalize hk2:(digs k1 (n*bn)).length+(powL u).length+1=k2 at r2 f2
  have r3:=mulB_runs o1 d1 (by omega) (by omega)
  have f3:=mulB_fits o1 d1
  rw [o4,d4] at r3 f3
  generalize hk3:(digs 4 of_).length+(digs 4 dn).length+1=k3 at r3 f3
  have r4:=bigCmp_runs f2 f3 (by omega)
  refine Evt.succ (((((refMayR_runs (a:=a) (b:=(bn:Int))).and ((ofB_runs (v:=n) (by omega)).and (ofB_runs (v:=bn) (by omega)))).and ((r1.and (power_runs (u:=u) (by omega))).and ((ofB_runs (v:=of_) (by omega)).and (ofB_runs (v:=dn) (by omega))))).and (r2.and (r3.and r4))).mono fun m hm=>?_)
  obtain ⟨⟨⟨g0,g1,g2⟩,⟨g3,g4⟩,g5,g6⟩,g7,g8,g9⟩:=hm
  rw [f141_run,f141_eq,g0,step1,toBool_b,h.1,not_t,cond_false,ltI_f (by omega),cond_false,ltI_f (by omega),cond_false,ltI_t (by omega),cond_true,ltI_t (by omega),cond_true,leI_f (by omega),cond_false,u64_nat n (by omega),u64_nat bn (by omega),hd,w64 (x:=(dn:Int)) (by omega) (by omega),u64_nat dn (by omega),u64_nat of_ (by omega)]
  rw [g1,step1,toSlice_s,g2,step1,toSlice_s,g3,step1,toSlice_s,g4,step1,toSlice_s,g7,step1,toSlice_s,g5,step1,toSlice_s,g6,step1,toSlice_s,g8,step1,toSlice_s,g9,step1]
  rfl
theorem cmpAt_all (lv a b:Int):CmpAt lv a b:=fun n of_ hn ho up _=>refCmp_all (by omega) (by omega)
end Go.Proofs.YteiahdlklppghaaGreat.Ev

namespace Go.Proofs.YteiahdlklppghaaGreat.Ev
open Go Go.RowKit
section
variable {gh:Int} {gl gt:List UInt8} {gn:Int} {t:List UInt8} {c1 c2 c3 c4 c5 c6:Int}
theorem refChain_runs {l:List AV} (ht:t.length=32) (hB:Blocks l):RunsX 33 [Cfg gh gl gt gn t c1 c2 c3 c4 c5 c6,.slice l] ⟨[chainV gh gl gt gn t l],[],false⟩:=by
  unfold chainV
  by_cases h0:l.length=0
  · refine Evt.succ (.of fun n=>?_)
    rw [if_pos h0,f33_run,f33_eq,eqI_t (by omega)]; rfl
  by_cases h1:1024 < l.length
  · refine Evt.succ (.of fun n=>?_)
    rw [if_neg h0,if_pos h1,f33_run,f33_eq,eqI_f (by omega),ltI_t (by omega)]; rfl
  rw [if_neg h0,if_neg h1]
  have hall:=Evt.all l.length fun i (hi:i < l.length) =>
    (rule_runs (t:=t) (l:=l) (i:=i) (by omega) (by omega)).and
    ((refCheck_runs (h:=(((nth l i).fld 0).fld 0).toInt) (n:=(((nth l i).fld 0).fld 3).toInt) (h':=(i:Int)) (b:=(((nth l i).fld 0).fld 1).toBlob) (c:=(((nth l i).fld 0).fld 2).toBlob) (l:=((nth l i).fld 1).toSlice) (v:=vecV t l i) (Nat.le_trans (vecV_len t l i) (by omega)) (vecV_blob t l i) (hB i hi).2.2 (hB i hi).2.1).and
     (refOk_runs (idA_len ((nth l i).fld 0)) ht))
  refine Evt.succ ((((refBIds_runs (l:=l) (by omega) hB.heads).and (refLevels_runs (t:=t) (l:=l) ht (by omega))).and (hall.and (Evt.ge (l.length+10)))).mono fun n hn=>?_)
  obtain ⟨⟨g1,g2⟩,g3,g4⟩:=hn
  have key:∀ (j k i:Nat) (o1 o2:Int),i+j=l.length→j < k→f33_l0 (runE G ext n) n k l (idsV l) (levsV t l) (i:Int) gh gl gt gn t c1 c2 c3 c4 c5 c6 o1 o2=some ⟨[faultV gh gl gt gn t l j i],[],false⟩:=by
    intro j
    induction j with
    | zero =>
      intro k i o1 o2 hi hk
      obtain ⟨k,rfl⟩:∃ j,k=j+1:=⟨k-1,by omega⟩
      rw [f33_l0_eq,ltI_f (by omega)]; rfl
    | succ j ih =>
      intro k i o1 o2 hi hk
      obtain ⟨k,rfl⟩:∃ j,k=j+1:=⟨k-1,by omega⟩
      obtain ⟨e1,e2,e3⟩:=g3 i (by omega)
      have ih':=ih k (i+1) o1 o2 (by omega) (by omega)
      rw [show ((i+1:Nat):Int)=(i:Int)+1 by omega] at ih'
      simp only [faultV,blkErr]
      rw [f33_l0_eq,ltI_t (by omega),cond_true,inR_nat (i:=i) (n:=l.length) (by omega),cond_true,Int.toNat_natCast,e1,step1f,toSlice_s,show IntKind.wrap .u32 (i:Int)=(i:Int) by rw [wrap32]; omega,e2,step1,toInt_i,inR_nat (i:=i) (n:=(idsV l).length) (by rw [idsV_len]; omega),cond_true,idsV_nth l (by omega),toBlob_b,e3,step1,toBool_b,w64 (x:=(i:Int)+1) (by omega) (by omega),ih']
      unfold ancV formV
      by_cases hi0:(i:Int)=0
      · obtain rfl:i=0:=by omega
        rw [eqI_t (a:=((0:Nat):Int)) (b:=0) rfl,cond_true,cond_true,inR_int (i:=0) (n:=l.length) (by omega) (by omega),cond_true]
        cases (eqI (((nth l 0).fld 0).fld 0).toInt gh&&(eqS (((nth l 0).fld 0).fld 1).toBlob gl&&(eqS (((nth l 0).fld 0).fld 2).toBlob gt&&(eqI (((nth l 0).fld 0).fld 3).toInt gn&&true))))
        · rfl
        · rw [not_t,cond_false,cond_false]
          by_cases hc:checkV (((nth l 0).fld 0).fld 0).toInt (((nth l 0).fld 0).fld 1).toBlob (((nth l 0).fld 0).fld 2).toBlob ((nth l 0).fld 1).toSlice ((0:Nat):Int) (vecV t l 0)=0
          · rw [hc]
            cases okV (idA ((nth l 0).fld 0)) t <;> rfl
          · rw [eqI_f hc,not_f,cond_true,eqI_t (a:=0) (b:=0) rfl,not_t,cond_false,cond_true,eqI_f hc]; rfl
      · rw [eqI_f hi0,cond_false,cond_false,eqI_t (a:=0) (b:=0) rfl,not_t,cond_false]
        by_cases hc:checkV (((nth l i).fld 0).fld 0).toInt (((nth l i).fld 0).fld 1).toBlob (((nth l i).fld 0).fld 2).toBlob ((nth l i).fld 1).toSlice (i:Int) (vecV t l i)=0
        · rw [hc]
          cases okV (idA ((nth l i).fld 0)) t <;> rfl
        · rw [eqI_f hc,not_f,cond_true,cond_true,eqI_f hc]; rfl
  rw [f33_run,f33_eq,eqI_f (by omega),cond_false,ltI_f (by omega),cond_false,g1,step1f,toSlice_s,g2,step1f,toSlice_s]
  exact key l.length n 0 0 0 (by omega) (by omega)
end
end Go.Proofs.YteiahdlklppghaaGreat.Ev

namespace Go.Proofs.YteiahdlklppghaaGreat.Ev
open Go Go.RowKit
section
variable {gh:Int} {gl gt:List UInt8} {gn:Int} {t:List UInt8} {m K a b c5 c6:Int} {l:List AV}
theorem refMayProve_runs (ht:t.length=32) (hB:Blocks l):RunsX 15 [Cfg gh gl gt gn t m K a b c5 c6,.slice l] ⟨[.int (mayE gh gl gt gn t m K a b l)],[],false⟩:=by
  refine Evt.succ (((refChain_runs (gh:=gh) (gl:=gl) (gt:=gt) (gn:=gn) (t:=t) (c1:=m) (c2:=K) (c3:=a) (c4:=b) (c5:=c5) (c6:=c6) (l:=l) ht hB).and (refMayP_runs (m:=m) (k:=K) (a:=a) (b:=b))).mono fun n hn=>?_)
  unfold mayE
  rw [f15_run,f15_eq,hn.1,step1]
  cases eqI ((chainV gh gl gt gn t l).fld 0).toInt 0 with
  | false=>rfl
  | true =>
    rw [not_t,cond_false,cond_false,hn.2,step1,toBool_b]
    cases mayP m K a b with
    | false=>rfl
    | true =>
      rw [not_t,cond_false,cond_false]
      cases leI (l.length:Int) K <;> rfl
theorem mayE_zero (h:mayE gh gl gt gn t m K a b l=0):((chainV gh gl gt gn t l).fld 0).toInt=0∧mayP m K a b=true∧¬ (l.length:Int)≤K:=by
  unfold mayE at h
  by_cases hz:((chainV gh gl gt gn t l).fld 0).toInt=0
  · rw [eqI_t hz,not_t,cond_false] at h
    cases hM:mayP m K a b with
    | false=>rw [hM,not_f,cond_true] at h; exact absurd h (by decide)
    | true =>
      rw [hM,not_t,cond_false] at h
      by_cases hk:(l.length:Int)≤K
      · rw [leI_t hk,cond_true] at h; exact absurd h (by decide)
      · exact ⟨hz,rfl,hk⟩
  · rw [eqI_f hz,not_f,cond_true] at h; exact absurd h hz
theorem refPlacesP_runs (ht:t.length=32) (hl:l.length≤100000) (hh:Heads l) (hP2:(pickV (levsV t l) m K a b).length≤100000) (hK:1≤K) (hK2:K < l.length) :
    RunsX 12 [Cfg gh gl gt gn t m K a b c5 c6,.slice l] ⟨[.slice (placesL (pickV (levsV t l) m K a b) (l.length-K.toNat) l.length)],[],true⟩:=by
  have r2:=refPick_runs (L:=levsV t l) (m:=m) (k:=K) (a:=a) (b:=b) (by rw [levsV_len]; omega) (fun _ _ lv _=>cmpAt_all _ _ _)
  refine Evt.succ ((((refBIds_runs (l:=l) hl hh).and (refLevels_runs (t:=t) (l:=l) ht hl)).and (r2.and (Evt.ge (l.length+2)))).mono fun n hn=>?_)
  obtain ⟨⟨g0,g1⟩,g2,g3⟩:=hn
  generalize pickV (levsV t l) m K a b=P at *
  have key:∀ (j k i:Nat),i+j=l.length→j < k→f12_l0 (runE G ext n) n k l (P++(List.range (i-(l.length-K.toNat))).map fun j=>AV.int ((l.length-K.toNat+j:Nat):Int)) (i:Int) gh gl gt gn t m K a b c5 c6=some ⟨[.slice (placesL P (l.length-K.toNat) l.length)],[],true⟩:=by
    intro j
    induction j with
    | zero =>
      intro k i hi hk
      obtain ⟨k,rfl⟩:∃ j,k=j+1:=⟨k-1,by omega⟩
      obtain rfl:i=l.length:=by omega
      rw [f12_l0_eq,ltI_f (by omega),cond_false]; rfl
    | succ j ih =>
      intro k i hi hk
      obtain ⟨k,rfl⟩:∃ j,k=j+1:=⟨k-1,by omega⟩
      have ih':=ih k (i+1) (by omega) (by omega)
      rw [f12_l0_eq,ltI_t (by omega),cond_true,w64 (x:=(l.length:Int)-K) (by omega) (by omega),w64 (x:=(i:Int)+1) (by omega) (by omega),show (i:Int)+1=((i+1:Nat):Int) by omega]
      by_cases hc:l.length-K.toNat≤i
      · rw [show i+1-(l.length-K.toNat)=i-(l.length-K.toNat)+1 by omega,List.range_succ,List.map_append,← List.append_assoc,List.map_singleton,show l.length-K.toNat+(i-(l.length-K.toNat))=i by omega] at ih'
        rw [leI_t (by omega),cond_true,Nat.ble_eq_true_of_le (by simp; omega),cond_true]
        exact ih'
      · rw [show i+1-(l.length-K.toNat)=i-(l.length-K.toNat) by omega] at ih'
        rw [leI_f (by omega),cond_false]
        exact ih'
  have k:=key l.length n 0 (by omega) (by omega)
  rw [show (List.range (0-(l.length-K.toNat))).map (fun j=>AV.int ((l.length-K.toNat+j:Nat):Int))=[] by rw [Nat.zero_sub]; rfl,List.append_nil] at k
  rw [f12_run,f12_eq,g0,step1f,toSlice_s,g1,step1f,toSlice_s,g2,step1f,toSlice_s]
  exact k
end
end Go.Proofs.YteiahdlklppghaaGreat.Ev

namespace Go.Proofs.YteiahdlklppghaaGreat.Ev
open Go Go.RowKit
section
variable {gh:Int} {gl gt:List UInt8} {gn:Int} {t:List UInt8} {m K a b c5 c6:Int} {l ps:List AV} {p:Nat→Nat}
structure WayS (t:List UInt8) (l ps:List AV) (p:Nat→Nat) (A q:Nat) (B M:List AV) (r:Nat):Prop where
  bet:betV (levsV t l) (p A:Int) (q:Int) (p (A-1):Int)=B
  len:M.length=B.length+2
  le:M.length≤1000
  paths:PathsS M
  lt:r < B.length
  at_:nth B r=.int (q:Int)
  below:∀ k,k < r→(nth B k).toInt < (q:Int)
  steps:RunsX 23 [.blob t,.slice l,.slice ([.int (p (A-1):Int)]++B++[.int (p A:Int)])] ⟨[.slice M,.int 0],[],false⟩
  rsteps:RunsX 24 [.blob t,.slice l,.slice ([.int (p (A-1):Int)]++B++[.int (p A:Int)])] ⟨[.slice M,.int 0],[],false⟩
theorem wayS_exists (ht:t.length=32) (hl:l.length≤400) (hh:Heads l) (W:WalkP t l ps p) (hok:∀ i,i < l.length→0≤levelV (idA ((nth l i).fld 0)) t) {A q:Nat} (hA:A < ps.length) (h1:p (A-1) < q) (h2:q < p A) :
    ∃ B M r,WayS t l ps p A q B M r:=by
  obtain ⟨ps',p',c,Y⟩:=way_exists hok h1 h2 (W.lt A hA)
  have W':=Y.walk
  have n3:=Y.len
  have nle:=Y.le
  have hbl:=Y.blen
  have rs:=proveSteps_runs (t:=t) (l:=l) (ps:=ps') ht (by omega) hh (by omega)
  have rt:=refSteps_runs (t:=t) (l:=l) (ps:=ps') ht (by omega) hh (by omega)
  obtain ⟨M0,e0,f1,f2,f3⟩:=proveL_form t l ps' ps'.length 0 [] (fun i hi=>by simp at hi)
  rw [proveL_walk W' hok] at rs rt f1
  have hM:M0=stepsP t l ps' p':=by
    have:=congrArg (fun y:List AV=>(nth y 0).toSlice) f1
    exact this.symm
  have hSl':(stepsP t l ps' p').length=ps'.length:=stepsP_len
  have Yeq:=Y.eq
  generalize hBdef:betV (levsV t l) (p A:Int) (q:Int) (p (A-1):Int)=B at *
  have hnB:∀ i,i < B.length→nth B i=.int (p' (i+1):Int):=by
    intro i hi
    have h:=W'.at_ (i+1) (by omega)
    rw [← h,nth_lt hi,nth_lt (by omega)]
    have e:ps'[i+1]'(by omega)=([AV.int (p (A-1):Int)]++B++[AV.int (p A:Int)])[i+1]'(by simp; omega):=by
      congr 1
    rw [e]
    show _=(AV.int (p (A-1):Int)::(B++[AV.int (p A:Int)]))[i+1]'(by simp; omega)
    rw [List.getElem_cons_succ,List.getElem_append_left hi]
  have hc1:=Y.c1
  have hc2:=Y.c2
  refine ⟨B,stepsP t l ps' p',c-1,hBdef,by omega,by omega,by rw [← hM]; exact f2,by omega,?_,fun k hk=>?_,?_,?_⟩
  · rw [hnB (c-1) (by omega),show c-1+1=c by omega,Y.mid]
  · rw [hnB k (by omega),toInt_i]
    have:=W'.strict (i:=k+1) (j:=c) (by omega) (by omega)
    rw [Y.mid] at this
    omega
  · rw [← Yeq]; exact rs
  · rw [← Yeq]; exact rt
theorem arN_is {L:List AV} {at_:Int} {r:Nat} (hr:r < L.length) (h1:at_≤(nth L r).toInt) (h2:∀ k,k < r→(nth L k).toInt < at_):arN L at_ L.length 0=r:=by
  obtain ⟨_,s2,s3,s4⟩:=arN_spec (L:=L) (at_:=at_) L.length 0 (by omega)
  rcases Nat.lt_trichotomy (arN L at_ L.length 0) r with h | h | h
  · have:=s3 (by omega)
    have:=h2 _ h
    omega
  · exact h
  · have:=s4 r (by omega) h
    omega
def ixOf (A:Nat) (M:List AV) (r:Nat) (tx:List UInt8) (oi om:Int) (op:List AV):AV :=
  Ix (A:Int) (List.drop 1 (List.take (M.length-1) M)) (((nth M (M.length-1)).fld 1).fld 0).toInt (((nth M (M.length-1)).fld 1).fld 1).toInt (((nth M (M.length-1)).fld 1).fld 2).toSlice (r:Int) tx oi om op
theorem innerM_runs (ht:t.length=32) (hl:l.length≤400) (hh:Heads l) (W:WalkP t l ps p) {A q:Nat} (hA1:1≤A) (hA:A < ps.length) (hps:ps.length≤100000) {B M:List AV} {r:Nat} (Y:WayS t l ps p A q B M r) {tx:List UInt8} {oi om:Int} {op:List AV} :
    RunsX 40 [.blob t,.slice l,.slice ps,.int (q:Int),Ix (A:Int) [] 0 0 [] 0 tx oi om op] ⟨[ixOf A M r tx oi om op,.int 0],[],f40_fresh⟩:=by
  have hlt:=Y.lt
  have hle:=Y.le
  have hln:=Y.len
  have rb:=between_runs (L:=levsV t l) (a:=(p A:Int)) (b:=(q:Int)) (c:=(p (A-1):Int)) (by rw [levsV_len]; omega)
  rw [Y.bet] at rb
  have ra:=around_runs (L:=B) (at_:=(q:Int)) (by omega)
  rw [arN_is hlt (by rw [Y.at_]; exact Int.le_refl _) Y.below] at ra
  refine Evt.succ ((((levels_runs (t:=t) (l:=l) ht (by omega) hh).and rb).and (Y.steps.and ra)).mono fun n hn=>?_)
  obtain ⟨⟨g1,g2⟩,g3,g4⟩:=hn
  have e1:(nth ps A).toInt=(p A:Int):=by rw [W.at_ A hA]; rfl
  have e2:(nth ps (A-1)).toInt=(p (A-1):Int):=by rw [W.at_ (A-1) (by omega)]; rfl
  have b1:Nat.ble ((1+B.length)*8) 140737488355328=true:=Nat.ble_eq_true_of_le (by omega)
  have b2:Nat.ble ((([.int (p (A-1):Int)]++B:List AV).length+1)*8) 140737488355328=true:=Nat.ble_eq_true_of_le (by simp; omega)
  have b3:(boundsOk 1 ((M.length-1:Nat):Int) (M.length:Int) (M.length:Int)&&true)=true:=by simp [boundsOk]; omega
  rw [f40_run,f40_eq,w64 (x:=(A:Int)-1) (by omega) (by omega),show (A:Int)-1=((A-1:Nat):Int) by omega,inR_nat (show A-1 < ps.length by omega),cond_true,inR_nat hA,cond_true,g1,step1f,toSlice_s,Int.toNat_natCast,Int.toNat_natCast,e1,e2,g2,step1,toSlice_s,b1,cond_true,b2,cond_true,g3,step2,toInt_i,eqI_t rfl,not_t,cond_false,toSlice_s,w64 (x:=(M.length:Int)-1) (by omega) (by omega),show (M.length:Int)-1=((M.length-1:Nat):Int) by omega,b3,cond_true,inR_nat (show M.length-1 < M.length by omega),cond_true,g4,step1,toInt_i,Int.toNat_natCast]
  rfl
theorem infix_both (ht:t.length=32) (hB:Blocks l) (h24:l.length≤400) (q x:Int) :
    ∃ at_ st bi bn bp w tx oi om op e,(PathsS st∧st.length≤1000∧bp.length≤1000∧op.length≤1000000) ∧
      RunsX 19 [Cfg gh gl gt gn t m K a b c5 c6,.slice l,.int q,.int x] ⟨[Ix at_ st bi bn bp w tx oi om op,.int e],[],f19_fresh⟩ ∧
      RunsX 20 [Cfg gh gl gt gn t m K a b c5 c6,.slice l,.int q,.int x] ⟨[Ix at_ st bi bn bp w tx oi om op,.int e],[],f20_fresh⟩:=by
  have rm:=proveMay_runs (gh:=gh) (gl:=gl) (gt:=gt) (gn:=gn) (t:=t) (m:=m) (K:=K) (a:=a) (b:=b) (c5:=c5) (c6:=c6) (l:=l) ht hB
  have rn:=refMayProve_runs (gh:=gh) (gl:=gl) (gt:=gt) (gn:=gn) (t:=t) (m:=m) (K:=K) (a:=a) (b:=b) (c5:=c5) (c6:=c6) (l:=l) ht hB
  have hnil:PathsS ([]:List AV):=fun i hi=>by simp at hi
  by_cases hz:mayE gh gl gt gn t m K a b l=0
  case neg =>
    refine ⟨0,[],0,0,[],0,[],0,0,[],mayE gh gl gt gn t m K a b l,⟨hnil,by simp,by simp,by simp⟩,Evt.succ (rm.mono fun n hn=>?_),Evt.succ (rn.mono fun n hn=>?_)⟩
    · rw [f19_run,f19_eq,hn,step1,toInt_i,eqI_f hz,not_f,cond_true]
    · rw [f20_run,f20_eq,hn,step1,toInt_i,eqI_f hz,not_f,cond_true]
  rw [hz] at rm rn
  obtain ⟨c1,hM,hk⟩:=mayE_zero hz
  obtain ⟨z1,z2,z3⟩:=chainV_zero' c1
  have hok:=chain_levels z3
  have hBk:∀ i,i < l.length→BlkOk t l i:=fun i hi=>blk_ok (z3 i hi)
  have hM':=hM
  unfold mayP at hM'
  rw [Bool.and_eq_true,decide_eq_true_iff] at hM'
  obtain ⟨⟨_,_,k1,k2⟩,_⟩:=hM'
  by_cases hq0:q < 0
  · refine ⟨0,[],0,0,[],0,[],0,0,[],15,⟨hnil,by simp,by simp,by simp⟩,Evt.succ (rm.mono fun n hn=>?_),Evt.succ (rn.mono fun n hn=>?_)⟩
    · rw [f19_run,f19_eq,hn,step1,toInt_i,eqI_t rfl,not_t,cond_false,ltI_t hq0,cond_true]
    · rw [f20_run,f20_eq,hn,step1,toInt_i,eqI_t rfl,not_t,cond_false,ltI_t hq0,cond_true]
  by_cases hqN:(l.length:Int)-K≤q
  · refine ⟨0,[],0,0,[],0,[],0,0,[],15,⟨hnil,by simp,by simp,by simp⟩,Evt.succ (rm.mono fun n hn=>?_),Evt.succ (rn.mono fun n hn=>?_)⟩
    · rw [f19_run,f19_eq,hn,step1,toInt_i,eqI_t rfl,not_t,cond_false,ltI_f hq0,cond_false,w64 (x:=(l.length:Int)-K) (by omega) (by omega),leI_t hqN,cond_true]
    · rw [f20_run,f20_eq,hn,step1,toInt_i,eqI_t rfl,not_t,cond_false,ltI_f hq0,cond_false,w64 (x:=(l.length:Int)-K) (by omega) (by omega),leI_t hqN,cond_true]
  obtain ⟨q,rfl⟩:∃ q':Nat,q=(q':Int):=⟨q.toNat,by omega⟩
  have hql:q < l.length:=by omega
  have rt:=txOpen_runs (l:=((nth l q).fld 1).toSlice) (i:=x) (hB q hql).2.2 (hB q hql).2.1
  have ru:=refTxOpen_runs (l:=((nth l q).fld 1).toSlice) (i:=x) (hB q hql).2.2 (hB q hql).2.1
  by_cases hx:0≤x∧x < (((nth l q).fld 1).toSlice.length:Int)
  case neg =>
    have eo:txOpenV ((nth l q).fld 1).toSlice x=[.agg [.int 0,.int 0,.slice []],.int 3]:=by
      unfold txOpenV
      rw [(hBk q hql).txs,eqI_t rfl,cond_true,openV_out (by rw [txT_len]; exact hx)]
    rw [eo] at rt ru
    refine ⟨0,[],0,0,[],0,[],0,0,[],14,⟨hnil,by simp,by simp,by simp⟩,Evt.succ ((rm.and rt).mono fun n hn=>?_),Evt.succ ((rn.and ru).mono fun n hn=>?_)⟩
    · rw [f19_run,f19_eq,hn.1,step1,toInt_i,eqI_t rfl,not_t,cond_false,ltI_f hq0,cond_false,w64 (x:=(l.length:Int)-K) (by omega) (by omega),leI_f hqN,cond_false,inR_nat hql,cond_true,Int.toNat_natCast,hn.2,step2]; rfl
    · rw [f20_run,f20_eq,hn.1,step1,toInt_i,eqI_t rfl,not_t,cond_false,ltI_f hq0,cond_false,w64 (x:=(l.length:Int)-K) (by omega) (by omega),leI_f hqN,cond_false,inR_nat hql,cond_true,Int.toNat_natCast,hn.2,step2]; rfl
  obtain ⟨x,rfl⟩:∃ x':Nat,x=(x':Int):=⟨x.toNat,by omega⟩
  obtain ⟨o1,_⟩:=txOpened (l:=((nth l q).fld 1).toSlice) (i:=(x:Int)) hx.1 hx.2 (hBk q hql).txs
  rw [o1] at rt ru
  have hxl:x < ((nth l q).fld 1).toSlice.length:=by omega
  have hopl:(pathL (txT ((nth l q).fld 1).toSlice) (x:Int)).length≤1000000:=by
    have h1:=pathV_len (txT ((nth l q).fld 1).toSlice).length (leavesV (txT ((nth l q).fld 1).toSlice)) (x:Int)
    have h2:=(hB q hql).2.2
    rw [txT_len] at h1
    show (pathV (txT ((nth l q).fld 1).toSlice).length (leavesV (txT ((nth l q).fld 1).toSlice)) (x:Int)).length≤_
    rw [txT_len]
    omega
  generalize hop:pathL (txT ((nth l q).fld 1).toSlice) (x:Int)=op at *
  have hP:=picked (t:=t) (l:=l) (m:=m) (k:=K) (a:=a) (b:=b) hok hM (by omega) (by omega)
  have W:=placesL_walk hok hP (by omega) (by omega)
  have hle:=hP.le
  have hge:=hP.len
  have hlen:=placesL_len (pickV (levsV t l) m K a b) (N:=l.length-K.toNat) (len:=l.length)
  have rp:=places_runsP (gh:=gh) (gl:=gl) (gt:=gt) (gn:=gn) (t:=t) (m:=m) (K:=K) (a:=a) (b:=b) (c5:=c5) (c6:=c6) (l:=l) (P:=pickV (levsV t l) m K a b) ht (by omega) hB.heads rfl hge (by omega) (by omega) (by omega)
  have rq:=refPlacesP_runs (gh:=gh) (gl:=gl) (gt:=gt) (gn:=gn) (t:=t) (m:=m) (K:=K) (a:=a) (b:=b) (c5:=c5) (c6:=c6) (l:=l) ht (by omega) hB.heads (by omega) (by omega) (by omega)
  have hpl:placeAt (pickV (levsV t l) m K a b) (l.length-K.toNat) ((pickV (levsV t l) m K a b).length-1)=l.length-K.toNat-1:=by
    unfold placeAt
    rw [if_pos (by omega),hP.last,toInt_i,Int.toNat_natCast]
  have hp0:placeAt (pickV (levsV t l) m K a b) (l.length-K.toNat) 0=0:=by
    unfold placeAt
    rw [if_pos (by omega),hP.first]
    rfl
  generalize hpl2:(pickV (levsV t l) m K a b).length=PL at *
  generalize placesL (pickV (levsV t l) m K a b) (l.length-K.toNat) l.length=ps at *
  generalize placeAt (pickV (levsV t l) m K a b) (l.length-K.toNat)=p at *
  have ra:=around_runs (L:=ps) (at_:=(q:Int)) (by omega)
  obtain ⟨_,s2,s3,s4⟩:=arN_spec (L:=ps) (at_:=(q:Int)) ps.length 0 (by omega)
  generalize hA:arN ps (q:Int) ps.length 0=A at *
  have hAP:A≤PL-1:=by
    apply Nat.le_of_not_lt
    intro hlt
    have:=s4 (PL-1) (by omega) hlt
    rw [W.at_ (PL-1) (by omega),toInt_i,hpl] at this
    omega
  have hAl:A < ps.length:=by omega
  have hqA:q≤p A:=by
    have:=s3 hAl
    rw [W.at_ A hAl,toInt_i] at this
    omega
  have eA:(nth ps A).toInt=(p A:Int):=by rw [W.at_ A hAl]; rfl
  have hloop:∀ (run:Run) (n:Nat) (j k i:Nat),i+j=A→j < k→f20_l0 run n k l (q:Int) ps gh gl gt gn t m K a b c5 c6 0 [] 0 0 [] 0 [] 0 0 [] (i:Int) [] 0 0 [] 0 (nth ((nth l q).fld 1).toSlice x).toStr (x:Int) (((nth l q).fld 1).toSlice.length:Int) op =
      f20_l0 run n (k-j) l (q:Int) ps gh gl gt gn t m K a b c5 c6 0 [] 0 0 [] 0 [] 0 0 [] (A:Int) [] 0 0 [] 0 (nth ((nth l q).fld 1).toSlice x).toStr (x:Int) (((nth l q).fld 1).toSlice.length:Int) op:=by
    intro run n j
    induction j with
    | zero=>intro k i hi _; rw [show i=A by omega]; rfl
    | succ j ih =>
      intro k i hi hk
      obtain ⟨k,rfl⟩:∃ j,k=j+1:=⟨k-1,by omega⟩
      have ih':=ih k (i+1) (by omega) (by omega)
      have hlt:=s4 i (by omega) (by omega)
      rw [f20_l0_eq,inR_nat (show i < ps.length by omega),cond_true,Int.toNat_natCast,ltI_t hlt,cond_true,w64 (x:=(i:Int)+1) (by omega) (by omega),show (i:Int)+1=((i+1:Nat):Int) by omega,ih',show k+1-(j+1)=k-j by omega]
  by_cases hc:p A=q
  · refine ⟨(A:Int),[],0,0,[],0,(nth ((nth l q).fld 1).toSlice x).toStr,(x:Int),(((nth l q).fld 1).toSlice.length:Int),op,0,⟨hnil,by simp,by simp,hopl⟩,?_,?_⟩
    · refine Evt.succ (((rm.and rt).and (rp.and ra)).mono fun n hn=>?_)
      obtain ⟨⟨g1,g2⟩,g3,g4⟩:=hn
      rw [f19_run,f19_eq,g1,step1,toInt_i,eqI_t rfl,not_t,cond_false,ltI_f hq0,cond_false,w64 (x:=(l.length:Int)-K) (by omega) (by omega),leI_f hqN,cond_false,inR_nat hql,cond_true,Int.toNat_natCast,g2,step2,toInt_i,eqI_t rfl,not_t,cond_false,g3,step1f,toSlice_s,g4,step1,toInt_i,cond_true,inR_nat hxl,cond_true,inR_nat hAl,cond_true,Int.toNat_natCast,Int.toNat_natCast,eA,eqI_t (by omega),cond_true]
      rfl
    · refine Evt.succ (((rn.and ru).and (rq.and (Evt.ge (A+2)))).mono fun n hn=>?_)
      obtain ⟨⟨g1,g2⟩,g3,g4⟩:=hn
      have hl0:=hloop (runE G ext n) n A n 0 (by omega) (by omega)
      obtain ⟨k,hkk⟩:∃ k,n-A=k+1:=⟨n-A-1,by omega⟩
      rw [f20_run,f20_eq,g1,step1,toInt_i,eqI_t rfl,not_t,cond_false,ltI_f hq0,cond_false,w64 (x:=(l.length:Int)-K) (by omega) (by omega),leI_f hqN,cond_false,inR_nat hql,cond_true,Int.toNat_natCast,g2,step2,toInt_i,eqI_t rfl,not_t,cond_false,g3,step1f,toSlice_s,cond_true,inR_nat hxl,cond_true,Int.toNat_natCast]
      refine hl0.trans ?_
      rw [hkk,f20_l0_eq,inR_nat hAl,cond_true,Int.toNat_natCast,eA,ltI_f (by omega),cond_false,cond_true,eqI_t (by omega),cond_true]
  · have hA1:1≤A:=by
      apply Nat.le_of_not_lt
      intro h
      have:A=0:=by omega
      subst this
      omega
    have hlow:p (A-1) < q:=by
      have:=s4 (A-1) (by omega) (by omega)
      rw [W.at_ (A-1) (by omega),toInt_i] at this
      omega
    have eA1:(nth ps (A-1)).toInt=(p (A-1):Int):=by rw [W.at_ (A-1) (by omega)]; rfl
    obtain ⟨B,M,r,Y⟩:=wayS_exists ht h24 hB.heads W hok hAl hlow (by omega)
    have hlt:=Y.lt
    have hlM:=Y.le
    have hln:=Y.len
    have hPst:PathsS (List.drop 1 (List.take (M.length-1) M)):=by
      intro i hi
      rw [List.length_drop,List.length_take] at hi
      have:=Y.paths (i+1) (by omega)
      rw [nth_lt (by omega)] at this
      rw [nth_lt (by rw [List.length_drop,List.length_take]; exact hi),List.getElem_drop,List.getElem_take]
      have e:M[1+i]'(by omega)=M[i+1]'(by omega):=by congr 1; omega
      rw [e]
      exact this
    have hbp:(((nth M (M.length-1)).fld 1).fld 2).toSlice.length≤1000:=Y.paths (M.length-1) (by omega)
    refine ⟨(A:Int),List.drop 1 (List.take (M.length-1) M),(((nth M (M.length-1)).fld 1).fld 0).toInt,(((nth M (M.length-1)).fld 1).fld 1).toInt,(((nth M (M.length-1)).fld 1).fld 2).toSlice,(r:Int),(nth ((nth l q).fld 1).toSlice x).toStr,(x:Int),(((nth l q).fld 1).toSlice.length:Int),op,0,⟨hPst,by rw [List.length_drop,List.length_take]; omega,hbp,hopl⟩,?_,?_⟩
    · have ri:=innerM_runs (tx:=(nth ((nth l q).fld 1).toSlice x).toStr) (oi:=(x:Int)) (om:=(((nth l q).fld 1).toSlice.length:Int)) (op:=op) ht h24 hB.heads W hA1 hAl (by omega) Y
      refine Evt.succ (((rm.and rt).and ((rp.and ra).and ri)).mono fun n hn=>?_)
      obtain ⟨⟨g1,g2⟩,⟨g3,g4⟩,g5⟩:=hn
      have g5':runE G ext n 40 [.blob t,.slice l,.slice ps,.int (q:Int),.agg [.int (A:Int),.slice [],.agg [.int 0,.int 0,.slice []],.int 0,.str (nth ((nth l q).fld 1).toSlice x).toStr,.agg [.int ((AV.fld (.agg [.int (x:Int),.int (((nth l q).fld 1).toSlice.length:Int),.slice op]) 0).toInt),.int ((AV.fld (.agg [.int (x:Int),.int (((nth l q).fld 1).toSlice.length:Int),.slice op]) 1).toInt),.slice ((AV.fld (.agg [.int (x:Int),.int (((nth l q).fld 1).toSlice.length:Int),.slice op]) 2).toSlice)]]]=_:=g5
      rw [f19_run,f19_eq,g1,step1,toInt_i,eqI_t rfl,not_t,cond_false,ltI_f hq0,cond_false,w64 (x:=(l.length:Int)-K) (by omega) (by omega),leI_f hqN,cond_false,inR_nat hql,cond_true,Int.toNat_natCast,g2,step2,toInt_i,eqI_t rfl,not_t,cond_false,g3,step1f,toSlice_s,g4,step1,toInt_i,cond_true,inR_nat hxl,cond_true,inR_nat hAl,cond_true,Int.toNat_natCast,Int.toNat_natCast,eA,eqI_f (by omega),cond_false,g5',step2]
      rfl
    · have rb:=refBetween_runs (L:=levsV t l) (high:=(p A:Int)) (at_:=(q:Int)) (low:=(p (A-1):Int)) (by rw [levsV_len]; omega)
      rw [Y.bet] at rb
      refine Evt.succ ((((rn.and ru).and (rq.and (Evt.ge (A+r+10)))).and (((refBIds_runs (l:=l) (by omega) hB.heads).and (refLevels_runs (t:=t) (l:=l) ht (by omega))).and (rb.and Y.rsteps))).mono fun n hn=>?_)
      obtain ⟨⟨⟨g1,g2⟩,g3,g4⟩,⟨g5,g6⟩,g7,g8⟩:=hn
      have hl0:=hloop (runE G ext n) n A n 0 (by omega) (by omega)
      obtain ⟨k,hkk⟩:∃ k,n-A=k+1:=⟨n-A-1,by omega⟩
      have b1:Nat.ble ((1+B.length)*8) 140737488355328=true:=Nat.ble_eq_true_of_le (by omega)
      have b2:Nat.ble ((([.int (p (A-1):Int)]++B:List AV).length+1)*8) 140737488355328=true:=Nat.ble_eq_true_of_le (by simp; omega)
      have b3:(boundsOk 1 ((M.length-1:Nat):Int) (M.length:Int) (M.length:Int)&&true)=true:=by simp [boundsOk]; omega
      have hw2:∀ (j k2 i:Nat),i+j=r→j < k2→f20_l2 (runE G ext n) n k k2 (q:Int) B M 0 [] 0 0 [] 0 [] 0 0 [] (A:Int) [] 0 0 [] (i:Int) (nth ((nth l q).fld 1).toSlice x).toStr (x:Int) (((nth l q).fld 1).toSlice.length:Int) op=some ⟨[ixOf A M r (nth ((nth l q).fld 1).toSlice x).toStr (x:Int) (((nth l q).fld 1).toSlice.length:Int) op,.int 0],[],f20_fresh⟩:=by
        intro j
        induction j with
        | zero =>
          intro k2 i hi hk2
          obtain ⟨k2,rfl⟩:∃ j,k2=j+1:=⟨k2-1,by omega⟩
          obtain rfl:i=r:=by omega
          rw [f20_l2_eq,inR_nat hlt,cond_true,Int.toNat_natCast,Y.at_,toInt_i,eqI_t rfl,not_t,cond_false,w64 (x:=(M.length:Int)-1) (by omega) (by omega),show (M.length:Int)-1=((M.length-1:Nat):Int) by omega,b3,cond_true,inR_nat (show M.length-1 < M.length by omega),cond_true,Int.toNat_natCast]
          rfl
        | succ j ih =>
          intro k2 i hi hk2
          obtain ⟨k2,rfl⟩:∃ j,k2=j+1:=⟨k2-1,by omega⟩
          have ih':=ih k2 (i+1) (by omega) (by omega)
          have hb:=Y.below i (by omega)
          rw [f20_l2_eq,inR_nat (show i < B.length by omega),cond_true,Int.toNat_natCast,eqI_f (by omega),not_f,cond_true,w64 (x:=(i:Int)+1) (by omega) (by omega),show (i:Int)+1=((i+1:Nat):Int) by omega,ih']
      rw [f20_run,f20_eq,g1,step1,toInt_i,eqI_t rfl,not_t,cond_false,ltI_f hq0,cond_false,w64 (x:=(l.length:Int)-K) (by omega) (by omega),leI_f hqN,cond_false,inR_nat hql,cond_true,Int.toNat_natCast,g2,step2,toInt_i,eqI_t rfl,not_t,cond_false,g3,step1f,toSlice_s,cond_true,inR_nat hxl,cond_true,Int.toNat_natCast]
      refine hl0.trans ?_
      rw [hkk,f20_l0_eq,inR_nat hAl,cond_true,Int.toNat_natCast,eA,ltI_f (by omega),cond_false,cond_true,eqI_f (by omega),cond_false,g5,step1f,toSlice_s,g6,step1f,toSlice_s,cond_true,w64 (x:=(A:Int)-1) (by omega) (by omega),show (A:Int)-1=((A-1:Nat):Int) by omega,inR_nat (show A-1 < ps.length by omega),cond_true,Int.toNat_natCast,eA1,g7,step1f,toSlice_s,cond_true,b1,cond_true,cond_true,b2,cond_true,g8,step2,toInt_i,eqI_t rfl,not_t,cond_false,toSlice_s]
      exact hw2 r n 0 (by omega) (by omega)
theorem sameIx_runs {at_:Int} {st:List AV} {bi bn:Int} {bp:List AV} {w:Int} {tx:List UInt8} {oi om:Int} {op:List AV} (h:PathsS st∧st.length≤1000∧bp.length≤1000∧op.length≤1000000) :
    RunsX 21 [Ix at_ st bi bn bp w tx oi om op,Ix at_ st bi bn bp w tx oi om op] ⟨[.bool true],[],false⟩:=by
  obtain ⟨h1,h2,h3,h4⟩:=h
  refine Evt.succ (((sameStps_runs (m:=st) (by omega) h1).and ((refSame_refl (a:=bi) (b:=bn) (l:=bp) (by rw [maxLen_eq]; omega)).and (refSame_refl (a:=oi) (b:=om) (l:=op) (by rw [maxLen_eq]; omega)))).mono fun n hn=>?_)
  obtain ⟨g1,g2,g3⟩:=hn
  rw [f21_run,f21_eq,eqI_t rfl,cond_true,eqI_t rfl,cond_true,eqS_t rfl,cond_true,g1,step1,toBool_b,cond_true,g2,step1,toBool_b,cond_true,g3,step1]
  rfl
theorem wayMakes_runs (ht:t.length=32) (hc0:Blocks0 l) (hc:l.length≤maxLen) (q x:Int) :
    RunsX 5 [Cfg gh gl gt gn t m K a b c5 c6,.slice l,.agg [.int q,.int x]] ⟨[.bool true],[],false⟩:=by
  obtain ⟨b',hb,hmu⟩:=mu24_runs hc0 hc
  cases b' with
  | true =>
    refine Evt.succ ((hmu.and wayAwake).mono fun n hn=>?_)
    rw [f5_run,f5_eq,hn.1,step1,toBool_b,cond_true,hn.2]; rfl
  | false =>
  obtain ⟨h24,hB⟩:=hb rfl
  obtain ⟨at_,st,bi,bn,bp,w,tx,oi,om,op,e,hP,r1,r2⟩:=infix_both (gh:=gh) (gl:=gl) (gt:=gt) (gn:=gn) (t:=t) (m:=m) (K:=K) (a:=a) (b:=b) (c5:=c5) (c6:=c6) (l:=l) ht hB (by omega) q x
  refine Evt.succ (((hmu.and wayAwake).and ((r1.and r2).and (sameIx_runs (at_:=at_) (bi:=bi) (bn:=bn) (w:=w) (tx:=tx) (oi:=oi) (om:=om) hP))).mono fun n hn=>?_)
  obtain ⟨⟨g1,g2⟩,⟨g3,g4⟩,g5⟩:=hn
  have f0:(AV.fld (.agg [.int q,.int x]) 0).toInt=q:=rfl
  have f1:(AV.fld (.agg [.int q,.int x]) 1).toInt=x:=rfl
  rw [f5_run,f5_eq,g1,step1,toBool_b,cond_false,f0,f1,g3,step2,g4,step2,ix_norm,g5,step1,toBool_b,cond_true,eqI_t rfl,cond_true,g2]
  rfl
end
theorem wayMakes_sat (xs:List AV) (h:Ty.HasL [.struct [.struct [.int .u32,.blob 32,.blob 32,.int .u64],.blob 32,.int .i64,.int .i64,.int .i64,.int .i64,.int .i64,.int .i64],.slice (.struct [.struct [.int .u32,.blob 32,.blob 32,.int .u64],.slice .str]),.arr 2 (.int .i64)] xs):∃ r,r.vals=[.bool true]∧Sat Tryz.prog f5_info 5 xs r:=by
  obtain ⟨x,r,rfl,hx,y,r2,rfl,⟨l,rfl,hl,_,hy⟩,z,r3,rfl,⟨pq,rfl,hp,hp2⟩,rfl⟩:=h
  obtain ⟨gh,gl,gt,gn,t,c1,c2,c3,c4,c5,c6,rfl,ht,_⟩:=cfg_of hx
  obtain ⟨u,v,rfl,_⟩:=two_ints hp hp2
  exact ⟨_,rfl,sat_of_runsX (by kernel_rfl) (wayMakes_runs ht (blocks0_of hy) hl u v)⟩
end Go.Proofs.YteiahdlklppghaaGreat.Ev

