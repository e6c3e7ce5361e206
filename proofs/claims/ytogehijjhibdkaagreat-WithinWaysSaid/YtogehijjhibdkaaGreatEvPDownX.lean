/- Entries of vectors that lead to a place. -/
import Derived.Test.YtogehijjhibdkaaGreatEvPKit
import Derived.Test.YtogehijjhibdkaaGreatEvSWalk
namespace Go.Proofs.YtogehijjhibdkaaGreat.Ev
open Go Go.RowKit

theorem nearU_runs {l : List AV} {at_ lv : Int} (hl : l.length ≤ maxLen) (h0 : 0 ≤ at_) (h1 : at_ ≤ l.length) : RunsX 49 [.slice l, .int at_, .int lv] ⟨[.int (nearV l lv at_.toNat)], [], false⟩ := by
  refine Evt.succ ((Evt.ge (at_.toNat + 1)).mono fun n hn => ?_)
  rw [f49_run, f49_eq, mn2_eq, show min at_ (l.length : Int) = at_ by omega]
  rw [maxLen_eq] at hl
  rw [w64 (by omega) (by omega), show at_ - 1 = ((at_.toNat : Nat) : Int) - 1 by omega]
  exact nearU_l0s _ _ _ _ _ _ (by omega) (by rw [maxLen_eq]; omega) (by omega)

theorem allU_runs {l : List AV} {at_ : Int} (hl : l.length ≤ maxLen) : RunsX 16 [.slice l, .int at_] ⟨[.slice (allOf l at_)], [], true⟩ := by
  unfold allOf
  by_cases h1 : at_ < 1
  · refine Evt.succ (.of fun n => ?_)
    rw [f16_run, f16_eq, ltI_t h1, if_pos h1]; rfl
  · by_cases h2 : (l.length : Int) < at_
    · refine Evt.succ (.of fun n => ?_)
      rw [f16_run, f16_eq, ltI_f h1, ltI_t h2, if_neg h1, if_pos h2]; rfl
    · refine Evt.succ (((Evt.all 257 fun i _ => nearU_runs (l := l) (at_ := at_) (lv := (i : Nat)) hl (by omega) (by omega)).and (Evt.ge 258)).mono fun n hn => ?_)
      rw [f16_run, f16_eq, ltI_f h1, ltI_f h2, if_neg h1, if_neg h2, cond_false, cond_false]
      exact allU_l0s hn.1 n 257 n 0 [] (by omega) (by simp) (by omega)

/-- The first place from one on where a number stands. -/
def idxV (l : List AV) (to : Int) : Nat → Nat → Int
  | 0, _ => -1
  | j + 1, i => if (nth l i).toInt = to then (i : Int) else idxV l to j (i + 1)

theorem idxU_l0 (run : Run) (n : Nat) (l : List AV) (to : Int) (hl : l.length ≤ 1000) : ∀ (j k i : Nat), i + j = l.length → j < k → f84_l0 run n k to l (l.length : Int) (i : Int) = some ⟨[.int (idxV l to j i)], [], false⟩ := by
  intro j
  induction j with
  | zero =>
    intro k i hi hk
    obtain ⟨k, rfl⟩ : ∃ j, k = j + 1 := ⟨k - 1, by omega⟩
    rw [f84_l0_eq, ltI_f (by omega)]; rfl
  | succ j ih =>
    intro k i hi hk
    obtain ⟨k, rfl⟩ : ∃ j, k = j + 1 := ⟨k - 1, by omega⟩
    have ih' := ih k (i + 1) (by omega) (by omega)
    rw [show ((i + 1 : Nat) : Int) = (i : Int) + 1 by omega] at ih'
    rw [f84_l0_eq, ltI_t (by omega), cond_true, inR_nat (by omega), cond_true, Int.toNat_natCast, w64 (by omega) (by omega), ih']
    simp only [idxV]
    by_cases h : (nth l i).toInt = to
    · rw [eqI_t h, if_pos h]; rfl
    · rw [eqI_f h, if_neg h]; rfl

theorem idxU_runs {l : List AV} {at_ to : Int} (hl : l.length ≤ maxLen) : RunsX 84 [.slice l, .int at_, .int to] ⟨[.int (idxV (allOf l at_) to (allOf l at_).length 0)], [], false⟩ := by
  refine Evt.succ (((allU_runs (at_ := at_) hl).and (Evt.ge 400)).mono fun n hn => ?_)
  obtain ⟨h1, h2⟩ := hn
  have h3 := allOf_len l at_
  rw [f84_run, f84_eq, h1]
  simp only [bind_run, consV_c, nilV_n, toSlice_s, cond_true]
  exact idxU_l0 _ n _ to (by omega) _ n 0 (by omega) (by omega)

end Go.Proofs.YtogehijjhibdkaaGreat.Ev
