/- Small things for the laws' proofs. -/
import Derived.Test.YtogehijjhibdkaaGreatEvPTree
namespace Go.Proofs.YtogehijjhibdkaaGreat.Ev
open Go Go.RowKit

theorem step3 {α : Type} (a b c : AV) (fr : Bool) (K : AV → AV → AV → Option α) : (some (⟨[a, b, c], [], fr⟩ : Res)).bind (fun r => nilV r.outs (consV r.vals fun v vs => consV vs fun u us => consV us fun w ws => nilV ws (K v u w))) = K a b c := rfl
theorem fld0 (a : AV) (l : List AV) : (AV.agg (a :: l)).fld 0 = a := rfl
theorem fld1 (a b : AV) (l : List AV) : (AV.agg (a :: b :: l)).fld 1 = b := rfl
theorem fld2 (a b c : AV) (l : List AV) : (AV.agg (a :: b :: c :: l)).fld 2 = c := rfl
theorem fld3 (a b c d : AV) (l : List AV) : (AV.agg (a :: b :: c :: d :: l)).fld 3 = d := rfl
theorem leafH_len (s : List UInt8) : (leafH s).length = 32 := hashV_len _
theorem eqO_same (a : Bool) : eqO a a = true := by cases a <;> rfl
theorem eqS_false {a b : List UInt8} (h : eqS a b = false) : a ≠ b := of_decide_eq_false h
theorem eqI_true {a b : Int} (h : eqI a b = true) : a = b := of_decide_eq_true h
theorem eqI_false {a b : Int} (h : eqI a b = false) : a ≠ b := of_decide_eq_false h
theorem inR_int {i : Int} {n : Nat} (h1 : 0 ≤ i) (h2 : i < n) : inR i n = true := inR_yes h1 h2

end Go.Proofs.YtogehijjhibdkaaGreat.Ev
