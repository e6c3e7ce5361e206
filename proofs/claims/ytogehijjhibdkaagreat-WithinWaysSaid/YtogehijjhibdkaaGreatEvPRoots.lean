/- The laws on roots and tops. -/
import Derived.Test.YtogehijjhibdkaaGreatEvPTree
import Derived.Test.YtogehijjhibdkaaGreatEvExtS
namespace Go.Proofs.YtogehijjhibdkaaGreat.Ev
open Go Go.RowKit

theorem blob32_of {l : List AV} (h : ∀ (i : Nat) y, l[i]? = some y → (Ty.blob 32).Has y) : Blob32 l := by
  intro y hy
  obtain ⟨i, hi, rfl⟩ := List.getElem_of_mem hy
  obtain ⟨b, hb, hl⟩ := h i _ (List.getElem?_eq_getElem hi)
  exact ⟨b, hb, hl⟩
theorem short_of {l : List AV} (h : ∀ (i : Nat) y, l[i]? = some y → Ty.str.Has y) : Short l := by
  intro i hi
  obtain ⟨s, hs, hl⟩ := h i _ (List.getElem?_eq_getElem hi)
  rw [nth_lt hi, hs]
  unfold reachBytes at hl
  show s.length ≤ _
  omega

end Go.Proofs.YtogehijjhibdkaaGreat.Ev
