import Derived.Test.YteiahdlklppghaaGreatPrWEvFA
import Derived.Test.YteiahdlklppghaaGreatPrWEvT3
import Derived.Lib.Join
import Derived.Lib.Repeat
import Derived.KernelRfl
namespace Go.Proofs.YteiahdlklppghaaGreat.Ev
open Go Go.RowKit
def lv:Nat→Int→Int→Int
  | 0,_,p=>p
  | j+1,n,p=>if 2*p < n then lv j n (2*p) else p
def leftV (n:Int):Int:=if n < 2 then 0 else lv 64 n 1
def sidesV:Nat→Int→Int→List AV
  | 0,_,_=>[]
  | k+1,n,i=>if n < 2 then [] else if i < leftV n then sidesV k (leftV n) i++[.bool false] else sidesV k (n-leftV n) (i-leftV n)++[.bool true]
def joinX:List AV→Option Res
  | [l,s]=>bif Nat.ble l.toSlice.length 1048576&&Nat.ble (Lib.join (l.toSlice.map AV.toStr) s.toStr).length 140737488355328 then some ⟨[.str (Lib.join (l.toSlice.map AV.toStr) s.toStr)],[],false⟩ else none
  | _=>none
def repeatX:List AV→Option Res
  | [s,c]=>bif leI 0 c.toInt&&ltI c.toInt 1048576&&Nat.ble s.toStr.length 1048576 then some ⟨[.str (Lib.repeatL s.toStr c.toInt.toNat)],[],false⟩ else none
  | _=>none
def hitsV (zs:List Int) (s:Nat) (level:Int):List Nat :=
  (List.range zs.length).filter fun j=>decide (s≤j)&&decide (level≤zs[j]?.getD 0)
def placesX:List AV→Option Res
  | [l,s,v]=>bif Nat.ble l.toSlice.length 1000000 then some ⟨[.slice ((hitsV (l.toSlice.map AV.toInt) s.toInt.toNat v.toInt).map fun (j:Nat)=>.int (j:Int))],[],true⟩ else none
  | _=>none
def nearV (l:List AV) (lv:Int):Nat→Int
  | 0=>-1
  | i+1=>if lv≤(nth l i).toInt then (i:Int) else nearV l lv i
def allV (l:List AV) (at_:Int) (acc:List AV):Nat→Int→List AV
  | 0,_=>acc
  | j+1,lv=>if nearV l lv at_.toNat < 0 then acc else if nearV l lv at_.toNat=0 then acc++[.int (nearV l lv at_.toNat)] else allV l at_ (acc++[.int (nearV l lv at_.toNat)]) j (lv+1)
def allOf (l:List AV) (at_:Int):List AV:=if at_ < 1 then [] else if (l.length:Int) < at_ then [] else allV l at_ [] 257 0
def farL (A:List AV) («to»:Int):Nat→Nat→Int→Bool→Int × Bool
  | 0,_,b,s=>(b,s)
  | j+1,i,b,s=>bif leI «to» (nth A i).toInt then (bif !s then farL A «to» j (i+1) (nth A i).toInt true else bif ltI (nth A i).toInt b then farL A «to» j (i+1) (nth A i).toInt true else farL A «to» j (i+1) b s) else farL A «to» j (i+1) b s
def farV (L:List AV) (x «to»:Int):Int × Bool:=farL (allOf L x) «to» (allOf L x).length 0 0 false
def walkG (L:List AV) («to»:Int):Nat→Int→Option (List AV)
  | 0,_=>some []
  | j+1,x=>bif ltI «to» x then bif (farV L x «to»).2 then (walkG L «to» j (farV L x «to»).1).map (AV.int (farV L x «to»).1::·) else none else some []
def walkV (L:List AV) (x «to»:Int):List AV:=if «to» < 0∨x < «to»∨(L.length:Int)≤x then [] else ((walkG L «to» x.toNat x).map (AV.int x::·)).getD []
def betV (L:List AV) (high at_ low:Int):List AV :=
  if (walkV L high at_).length=0∨(walkV L at_ low).length=0∨high≤at_∨at_≤low then [] else (((walkV L high at_).drop 1++(walkV L at_ low).drop 1).dropLast).reverse
def betweenX:List AV→Option Res
  | [l,h,a,w]=>bif Nat.ble l.toSlice.length 100000 then some ⟨[.slice (betV l.toSlice h.toInt a.toInt w.toInt)],[],false⟩ else none
  | _=>none
def digs:Nat→Nat→List AV
  | 0,_=>[]
  | k+1,v=>if v=0 then [] else .int ((v % 65536:Nat):Int)::digs k (v / 65536)
def vl:List AV→Nat
  | []=>0
  | a::r=>a.toInt.toNat+65536*vl r
def digOk (l:List AV):Bool:=l.all fun a=>leI 0 a.toInt&&ltI a.toInt 65536
def mulX:List AV→Option Res
  | [x,y]=>bif Nat.ble x.toSlice.length 1000&&(Nat.ble y.toSlice.length 1000&&(digOk x.toSlice&&digOk y.toSlice)) then some ⟨[.slice (digs (x.toSlice.length+y.toSlice.length+1) (vl x.toSlice*vl y.toSlice))],[],false⟩ else none
  | _=>none
def extL:List (FuncId × (List AV→Option Res)) :=
  (180,repeatX) ::
  (51,placesX) ::
  (17,betweenX) ::
  (159,mulX) ::
  (172,joinX) ::
  []
def ext:Run:=fun f xs=>(assoc extL f).bind fun g=>g xs
noncomputable def extChk:List (FuncId × (List AV→Option Res))→Bool
  | []=>true
  | (k,_)::r=>(match assoc G.fns k with | some i=>i.ext | none=>false)&&extChk r
theorem extChk_ok:∀ {l:List (FuncId × (List AV→Option Res))} {f:FuncId} {g:List AV→Option Res},extChk l=true→assoc l f=some g→∃ i,assoc G.fns f=some i∧i.ext=true
  | [],_,_,_,e=>by cases e
  | (k,x)::r,f,g,h,e=>by
    simp only [extChk,Bool.and_eq_true] at h
    simp only [assoc] at e
    cases hb:Nat.beq k f with
    | false=>rw [hb,cond_false] at e; exact extChk_ok h.2 e
    | true =>
      have:k=f:=Nat.eq_of_beq_eq_true hb
      subst this
      have h1:=h.1
      split at h1
      · rename_i i hi; exact ⟨i,hi,h1⟩
      · cases h1
theorem ext_out {f:FuncId} {xs:List AV} {r:Res} (h:ext f xs=some r):∃ i,assoc G.fns f=some i∧i.ext=true:=by
  unfold ext at h
  cases hg:assoc extL f with
  | none=>rw [hg] at h; cases h
  | some g=>exact extChk_ok (by kernel_rfl) hg
theorem ext_at {f:FuncId} {xs:List AV} {r:Res} (h:ext f xs=some r) (m:Nat):runE G ext m f xs=some r:=by
  cases m with
  | zero=>exact h
  | succ m =>
    obtain ⟨i,h1,h2⟩:=ext_out h
    rw [runE]
    simp only [h1,h2,cond_true]
    exact h
abbrev RunsX (f:FuncId) (xs:List AV) (r:Res):Prop:=Runs G ext f xs r
theorem RunsX.of_eval {f:FuncId} {xs:List AV} {r:Res} (n:Nat) (h:runE G ext n f xs=some r):RunsX f xs r :=
  ⟨n,fun _ hm=>runE_mono (fun _ _ _ h m=>ext_at h m) hm h⟩
end Go.Proofs.YteiahdlklppghaaGreat.Ev

