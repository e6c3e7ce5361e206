/- Good levels: the reference tells the same. -/
import Derived.Test.YtogehijjhibdkaaGreatEvPGood
namespace Go.Proofs.YtogehijjhibdkaaGreat.Ev
open Go Go.RowKit

/- counts -/
theorem lev_part (L : List AV) (i k j : Nat) (h : i + j < k) : lev ((L.take k).drop i) j = lev L (i + j) := by
  unfold lev nth
  rw [List.getD_eq_getElem?_getD, List.getD_eq_getElem?_getD, List.getElem?_drop, List.getElem?_take, if_pos h]
theorem cntV_part (L : List AV) (lv : Int) (i k : Nat) : ∀ j, i + j ≤ k → cntV ((L.take k).drop i) lv j + cntV L lv i = cntV L lv (i + j)
  | 0, _ => by show 0 + _ = _; rw [Nat.zero_add]; rfl
  | j + 1, h => by
    have ih := cntV_part L lv i k j (by omega)
    have e := lev_part L i k j (by omega)
    rw [show cntV ((L.take k).drop i) lv (j + 1) = if lv ≤ lev ((L.take k).drop i) j then cntV ((L.take k).drop i) lv j + 1 else cntV ((L.take k).drop i) lv j from rfl, show cntV L lv (i + (j + 1)) = if lv ≤ lev L (i + j) then cntV L lv (i + j) + 1 else cntV L lv (i + j) from rfl, e]
    split <;> omega
theorem part_len (L : List AV) {i k : Nat} (h1 : i ≤ k) (h2 : k ≤ L.length) : ((L.take k).drop i).length = k - i := by simp; omega
end Go.Proofs.YtogehijjhibdkaaGreat.Ev
