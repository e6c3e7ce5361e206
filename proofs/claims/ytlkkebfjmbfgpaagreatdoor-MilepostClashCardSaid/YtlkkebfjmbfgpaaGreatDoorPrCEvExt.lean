import Derived.Test.YtlkkebfjmbfgpaaGreatDoorPrCEvFA
import Derived.Test.YtlkkebfjmbfgpaaGreatDoorPrCEvT3
import Derived.Lib.Join
import Derived.Lib.Repeat
import Derived.KernelRfl
namespace Go.Proofs.YtlkkebfjmbfgpaaGreatDoor.Ev
open Go Go.RowKit
def lv:Nat→Int→Int→Int
  | 0,_,p=>p
  | j+1,n,p=>if 2*p < n then lv j n (2*p) else p
def leftV (n:Int):Int:=if n < 2 then 0 else lv 64 n 1
def sidesV:Nat→Int→Int→List AV
  | 0,_,_=>[]
  | k+1,n,i=>if n < 2 then [] else if i < leftV n then sidesV k (leftV n) i++[.bool false] else sidesV k (n-leftV n) (i-leftV n)++[.bool true]
def joinX:List AV→Option Res
  | [l,s]=>bif Nat.ble l.toSlice.length 1048576&&Nat.ble (Lib.join (l.toSlice.map AV.toStr) s.toStr).length 140737488355328 then some ⟨[.str (Lib.join (l.toSlice.map AV.toStr) s.toStr)],[],false⟩ else none
  | _=>none
def repeatX:List AV→Option Res
  | [s,c]=>bif leI 0 c.toInt&&ltI c.toInt 1048576&&Nat.ble s.toStr.length 1048576 then some ⟨[.str (Lib.repeatL s.toStr c.toInt.toNat)],[],false⟩ else none
  | _=>none
def sidesX:List AV→Option Res
  | [n,i]=>bif leI n.toInt 1048576 then some ⟨[.slice (bif leI 0 i.toInt&&ltI i.toInt n.toInt then sidesV n.toInt.toNat n.toInt i.toInt else [])],[],true⟩ else none
  | _=>none
def hitsV (zs:List Int) (s:Nat) (level:Int):List Nat :=
  (List.range zs.length).filter fun j=>decide (s≤j)&&decide (level≤zs[j]?.getD 0)
def placesX:List AV→Option Res
  | [l,s,v]=>bif Nat.ble l.toSlice.length 1000000 then some ⟨[.slice ((hitsV (l.toSlice.map AV.toInt) s.toInt.toNat v.toInt).map fun (j:Nat)=>.int (j:Int))],[],true⟩ else none
  | _=>none
def vl:List AV→Nat
  | []=>0
  | a::r=>a.toInt.toNat+65536*vl r
open Classical in
noncomputable def awakeX (xs:List AV):Option Res:=if xs=[]∧Sat Tryz.prog f4_info 4 [] ⟨[.bool true],[],false⟩ then some ⟨[.bool true],[],false⟩ else none
theorem awake_told {xs:List AV} {r:Res} (h:awakeX xs=some r):Sat Tryz.prog f4_info 4 xs r:=by
  unfold awakeX at h
  split at h
  · rename_i hc
    obtain ⟨rfl,hs⟩:=hc
    cases h
    exact hs
  · cases h
def countV (zs:List Int) (level:Int):Nat:=(zs.filter fun z=>decide (level≤z)).length
def countX:List AV→Option Res
  | [l,v]=>bif Nat.ble l.toSlice.length 1000000 then some ⟨[.int (countV (l.toSlice.map AV.toInt) v.toInt:Nat)],[],false⟩ else none
  | _=>none
noncomputable def extL:List (FuncId × (List AV→Option Res)) :=
  (216,repeatX) ::
  (55,sidesX) ::
  (4,awakeX) ::
  (312,countX) ::
  (164,joinX) ::
  []
noncomputable def ext:Run:=fun f xs=>(assoc extL f).bind fun g=>g xs
noncomputable def extChk:List (FuncId × (List AV→Option Res))→Bool
  | []=>true
  | (k,_)::r=>(match assoc G.fns k with | some i=>i.ext | none=>false)&&extChk r
theorem extChk_ok:∀ {l:List (FuncId × (List AV→Option Res))} {f:FuncId} {g:List AV→Option Res},extChk l=true→assoc l f=some g→∃ i,assoc G.fns f=some i∧i.ext=true
  | [],_,_,_,e=>by cases e
  | (k,x)::r,f,g,h,e=>by
    simp only [extChk,Bool.and_eq_true] at h
    simp only [assoc] at e
    cases hb:Nat.beq k f with
    | false=>rw [hb,cond_false] at e; exact extChk_ok h.2 e
    | true =>
      have:k=f:=Nat.eq_of_beq_eq_true hb
      subst this
      have h1:=h.1
      split at h1
      · rename_i i hi; exact ⟨i,hi,h1⟩
      · cases h1
theorem ext_out {f:FuncId} {xs:List AV} {r:Res} (h:ext f xs=some r):∃ i,assoc G.fns f=some i∧i.ext=true:=by
  unfold ext at h
  cases hg:assoc extL f with
  | none=>rw [hg] at h; cases h
  | some g=>exact extChk_ok (by kernel_rfl) hg
theorem ext_at {f:FuncId} {xs:List AV} {r:Res} (h:ext f xs=some r) (m:Nat):runE G ext m f xs=some r:=by
  cases m with
  | zero=>exact h
  | succ m =>
    obtain ⟨i,h1,h2⟩:=ext_out h
    rw [runE]
    simp only [h1,h2,cond_true]
    exact h
abbrev RunsX (f:FuncId) (xs:List AV) (r:Res):Prop:=Runs G ext f xs r
theorem RunsX.of_eval {f:FuncId} {xs:List AV} {r:Res} (n:Nat) (h:runE G ext n f xs=some r):RunsX f xs r :=
  ⟨n,fun _ hm=>runE_mono (fun _ _ _ h m=>ext_at h m) hm h⟩
end Go.Proofs.YtlkkebfjmbfgpaaGreatDoor.Ev

