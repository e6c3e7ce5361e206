/- The laws on roots and tops. -/
import Derived.Test.YtncajhkogppojaaEvPTree
import Derived.Test.YtncajhkogppojaaEvExtS
namespace Go.Proofs.Ytncajhkogppojaa.Ev
open Go Go.RowKit

theorem much_l0 (run : Run) (n : Nat) (l : List AV) (hl : l.length ≤ maxLen) : ∀ (j k i : Nat) (x : Int), 101 - i = j → i ≤ l.length → j < k → ∃ b, (b = false → l.length ≤ 100) ∧ f8_l0 run n k l x (i : Int) = some ⟨[.bool b], [], false⟩ := by
  rw [maxLen_eq] at hl
  have fin : ∀ x : Int, ∃ b, (b = false → l.length ≤ 100) ∧ (bif ltI 100 (l.length : Int) then some ⟨[.bool true], [], false⟩ else some ⟨[.bool (ltI 5000 x)], [], false⟩) = some (⟨[.bool b], [], false⟩ : Res) := by
    intro x
    by_cases h : 100 < (l.length : Int)
    · exact ⟨true, (fun h => by cases h), by rw [ltI_t h]; rfl⟩
    · exact ⟨ltI 5000 x, (fun _ => by omega), by rw [ltI_f h]; rfl⟩
  intro j
  induction j with
  | zero =>
    intro k i x hi _ hk
    obtain ⟨k, rfl⟩ : ∃ j, k = j + 1 := ⟨k - 1, by omega⟩
    rw [f8_l0_eq, ltI_f (a := (i : Int)) (b := 101) (by omega)]
    cases ltI (i : Int) l.length
    · exact fin x
    · exact fin x
  | succ j ih =>
    intro k i x hi hil hk
    obtain ⟨k, rfl⟩ : ∃ j, k = j + 1 := ⟨k - 1, by omega⟩
    rw [f8_l0_eq]
    by_cases h : i < l.length
    · rw [ltI_t (by omega), ltI_t (by omega), cond_true, cond_true, inR_nat h, cond_true, w64 (x := (i : Int) + 1) (by omega) (by omega)]
      have := ih k (i + 1) (mn2 (IntKind.wrap .i64 (x + (((nth l (Int.toNat i)).toStr).length : Int))) 1048576) (by omega) (by omega) (by omega)
      rw [show ((i + 1 : Nat) : Int) = (i : Int) + 1 by omega] at this
      exact this
    · rw [ltI_f (by omega), cond_false]
      exact fin x

theorem much_runs {l : List AV} (hl : l.length ≤ maxLen) : ∃ b, (b = false → l.length ≤ 100) ∧ RunsX 8 [.slice l] ⟨[.bool b], [], false⟩ := by
  obtain ⟨b, h0, h⟩ := much_l0 (runE G ext 200) 200 l hl 101 200 0 0 rfl (by omega) (by omega)
  exact ⟨b, h0, RunsX.of_eval 201 (by rw [f8_run, f8_eq]; exact h)⟩

theorem blob32_of {l : List AV} (h : ∀ (i : Nat) y, l[i]? = some y → (Ty.blob 32).Has y) : Blob32 l := by
  intro y hy
  obtain ⟨i, hi, rfl⟩ := List.getElem_of_mem hy
  obtain ⟨b, hb, hl⟩ := h i _ (List.getElem?_eq_getElem hi)
  exact ⟨b, hb, hl⟩
theorem short_of {l : List AV} (h : ∀ (i : Nat) y, l[i]? = some y → Ty.str.Has y) : Short l := by
  intro i hi
  obtain ⟨s, hs, hl⟩ := h i _ (List.getElem?_eq_getElem hi)
  rw [nth_lt hi, hs]
  unfold reachBytes at hl
  show s.length ≤ _
  omega

end Go.Proofs.Ytncajhkogppojaa.Ev
