/- Too many steps. -/
import Derived.Test.YtncajhkogppojaaEvPKit
namespace Go.Proofs.Ytncajhkogppojaa.Ev
open Go Go.RowKit

theorem much30_l0 (run : Run) (n : Nat) (l : List AV) (hl : l.length ≤ maxLen) : ∀ (j k i : Nat) (x : Int), 101 - i = j → i ≤ l.length → j < k → ∃ b, (b = false → l.length ≤ 1050 ∧ (40 < l.length → 1024 < l.length)) ∧ f68_l0 run n k l x (i : Int) = some ⟨[.bool b], [], false⟩ := by
  rw [maxLen_eq] at hl
  have fin : ∀ x : Int, ∃ b, (b = false → l.length ≤ 1050 ∧ (40 < l.length → 1024 < l.length)) ∧ (bif ltI 40 (l.length : Int) then bif leI (l.length : Int) 1024 then some ⟨[.bool true], [], false⟩ else bif ltI 1050 (l.length : Int) then some ⟨[.bool true], [], false⟩ else some ⟨[.bool (ltI 300 x)], [], false⟩ else bif ltI 1050 (l.length : Int) then some ⟨[.bool true], [], false⟩ else some ⟨[.bool (ltI 300 x)], [], false⟩) = some (⟨[.bool b], [], false⟩ : Res) := by
    intro x
    by_cases h : 40 < (l.length : Int)
    · by_cases h2 : (l.length : Int) ≤ 1024
      · exact ⟨true, (fun h => by cases h), by rw [ltI_t h, leI_t h2]; rfl⟩
      · by_cases h3 : 1050 < (l.length : Int)
        · exact ⟨true, (fun h => by cases h), by rw [ltI_t h, leI_f h2, ltI_t h3]; rfl⟩
        · exact ⟨ltI 300 x, (fun _ => by omega), by rw [ltI_t h, leI_f h2, ltI_f h3]; rfl⟩
    · exact ⟨ltI 300 x, (fun _ => by omega), by rw [ltI_f h, ltI_f (show ¬ 1050 < (l.length : Int) by omega)]; rfl⟩
  intro j
  induction j with
  | zero =>
    intro k i x hi _ hk
    obtain ⟨k, rfl⟩ : ∃ j, k = j + 1 := ⟨k - 1, by omega⟩
    rw [f68_l0_eq, ltI_f (a := (i : Int)) (b := 100) (by omega)]
    cases ltI (i : Int) l.length
    · exact fin x
    · exact fin x
  | succ j ih =>
    intro k i x hi hil hk
    obtain ⟨k, rfl⟩ : ∃ j, k = j + 1 := ⟨k - 1, by omega⟩
    rw [f68_l0_eq]
    by_cases h : i < l.length
    · by_cases h2 : (i : Int) < 100
      · rw [ltI_t (by omega), ltI_t h2, cond_true, cond_true, inR_nat h, cond_true, w64 (x := (i : Int) + 1) (by omega) (by omega)]
        have := ih k (i + 1) (mn2 (IntKind.wrap .i64 (x + (((((nth l (Int.toNat i)).fld 1).fld 2).toSlice).length : Int))) 1048576) (by omega) (by omega) (by omega)
        rw [show ((i + 1 : Nat) : Int) = (i : Int) + 1 by omega] at this
        exact this
      · rw [ltI_t (a := (i : Int)) (b := l.length) (by omega), cond_true, ltI_f h2, cond_false]
        exact fin x
    · rw [ltI_f (by omega), cond_false]
      exact fin x
theorem much30_runs {l : List AV} (hl : l.length ≤ maxLen) : ∃ b, (b = false → l.length ≤ 1050 ∧ (40 < l.length → 1024 < l.length)) ∧ RunsX 68 [.slice l] ⟨[.bool b], [], false⟩ := by
  obtain ⟨b, h0, h⟩ := much30_l0 (runE G ext 2000) 2000 l hl 101 2000 0 0 rfl (by omega) (by omega)
  exact ⟨b, h0, RunsX.of_eval 2001 (by rw [f68_run, f68_eq]; exact h)⟩

end Go.Proofs.Ytncajhkogppojaa.Ev
