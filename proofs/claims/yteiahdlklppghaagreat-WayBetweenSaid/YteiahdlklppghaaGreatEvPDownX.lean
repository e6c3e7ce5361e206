/- Entries of vectors that lead to a place. -/
import Derived.Test.YteiahdlklppghaaGreatEvPKit
import Derived.Test.YteiahdlklppghaaGreatEvSWalk
namespace Go.Proofs.YteiahdlklppghaaGreat.Ev
open Go Go.RowKit

theorem nearU_runs {l : List AV} {at_ lv : Int} (hl : l.length ≤ maxLen) (h0 : 0 ≤ at_) (h1 : at_ ≤ l.length) : RunsX 100 [.slice l, .int at_, .int lv] ⟨[.int (nearV l lv at_.toNat)], [], false⟩ := by
  refine Evt.succ ((Evt.ge (at_.toNat + 1)).mono fun n hn => ?_)
  rw [f100_run, f100_eq, mn2_eq, show min at_ (l.length : Int) = at_ by omega]
  rw [maxLen_eq] at hl
  rw [w64 (by omega) (by omega), show at_ - 1 = ((at_.toNat : Nat) : Int) - 1 by omega]
  exact nearU_l0s _ _ _ _ _ _ (by omega) (by rw [maxLen_eq]; omega) (by omega)

theorem nearR_l0s (run : Run) (n : Nat) (l : List AV) (at_ lv : Int) (h0 : 0 ≤ at_) (h1 : at_ ≤ l.length) (hl : l.length ≤ maxLen) : ∀ (j k i : Nat), i + j = at_.toNat → j < k → f101_l0 run n k l at_ lv (nearV l lv i) (i : Int) = some ⟨[.int (nearV l lv at_.toNat)], [], false⟩ := by
  rw [maxLen_eq] at hl
  intro j
  induction j with
  | zero =>
    intro k i hi hk
    obtain ⟨k, rfl⟩ : ∃ j, k = j + 1 := ⟨k - 1, by omega⟩
    rw [Nat.add_zero] at hi
    subst hi
    rw [f101_l0_eq]
    by_cases h : ((at_.toNat : Nat) : Int) < (l.length : Int)
    · rw [ltI_t h, cond_true, ltI_f (by omega)]; rfl
    · rw [ltI_f h]; rfl
  | succ j ih =>
    intro k i hi hk
    obtain ⟨k, rfl⟩ : ∃ j, k = j + 1 := ⟨k - 1, by omega⟩
    rw [f101_l0_eq, ltI_t (by omega), cond_true, ltI_t (by omega), cond_true, inR_nat (by omega), cond_true, Int.toNat_natCast, w64 (by omega) (by omega)]
    have ih' := ih k (i + 1) (by omega) (by omega)
    have e : ((i + 1 : Nat) : Int) = (i : Int) + 1 := by omega
    rw [e] at ih'
    simp only [nearV] at ih'
    by_cases h : lv ≤ (nth l i).toInt
    · rw [leI_t h, cond_true]
      rw [if_pos h] at ih'
      exact ih'
    · rw [leI_f h, cond_false]
      rw [if_neg h] at ih'
      exact ih'

theorem nearR_runs {l : List AV} {at_ lv : Int} (hl : l.length ≤ maxLen) (h0 : 0 ≤ at_) (h1 : at_ ≤ l.length) : RunsX 101 [.slice l, .int at_, .int lv] ⟨[.int (nearV l lv at_.toNat)], [], false⟩ := by
  refine Evt.succ ((Evt.ge (at_.toNat + 1)).mono fun n hn => ?_)
  rw [f101_run, f101_eq]
  exact nearR_l0s _ _ _ _ _ h0 h1 hl at_.toNat n 0 (by omega) (by omega)

theorem allR_l0s {run : Run} {l : List AV} {at_ : Int} (hr : ∀ i, i < 257 → run 101 [.slice l, .int at_, .int (i : Nat)] = some ⟨[.int (nearV l (i : Nat) at_.toNat)], [], false⟩) (n : Nat) :
    ∀ (j k i : Nat) (acc : List AV), i + j = 257 → acc.length ≤ i → j < k → f69_l0 run n k l at_ acc (i : Int) = some ⟨[.slice (allV l at_ acc j i)], [], true⟩ := by
  intro j
  induction j with
  | zero =>
    intro k i acc hi _ hk
    obtain ⟨k, rfl⟩ : ∃ j, k = j + 1 := ⟨k - 1, by omega⟩
    rw [f69_l0_eq, ltI_f (by omega)]
    rfl
  | succ j ih =>
    intro k i acc hi hacc hk
    obtain ⟨k, rfl⟩ : ∃ j, k = j + 1 := ⟨k - 1, by omega⟩
    rw [f69_l0_eq, ltI_t (by omega), cond_true, hr i (by omega)]
    simp only [Option.bind_some, consV, nilV, AV.toInt]
    have hb : Nat.ble ((acc.length + 1) * 8) 140737488355328 = true := Nat.ble_eq_true_of_le (by omega)
    rw [hb, cond_true, w64 (by omega) (by omega)]
    have ih' := ih k (i + 1) (acc ++ [.int (nearV l (i : Nat) at_.toNat)]) (by omega) (by simp; omega) (by omega)
    have e : ((i + 1 : Nat) : Int) = (i : Int) + 1 := by omega
    rw [e] at ih'
    rw [ih']
    simp only [allV]
    by_cases h : nearV l (i : Nat) at_.toNat < 0
    · rw [ltI_t h, if_pos h]; rfl
    · rw [ltI_f h, if_neg h, cond_false]
      by_cases h' : nearV l (i : Nat) at_.toNat = 0
      · rw [eqI_t h', if_pos h']; rfl
      · rw [eqI_f h', if_neg h']; rfl

theorem allU_runs {l : List AV} {at_ : Int} (hl : l.length ≤ maxLen) : RunsX 68 [.slice l, .int at_] ⟨[.slice (allOf l at_)], [], true⟩ := by
  unfold allOf
  by_cases h1 : at_ < 1
  · refine Evt.succ (.of fun n => ?_)
    rw [f68_run, f68_eq, ltI_t h1, if_pos h1]; rfl
  · by_cases h2 : (l.length : Int) < at_
    · refine Evt.succ (.of fun n => ?_)
      rw [f68_run, f68_eq, ltI_f h1, ltI_t h2, if_neg h1, if_pos h2]; rfl
    · refine Evt.succ (((Evt.all 257 fun i _ => nearU_runs (l := l) (at_ := at_) (lv := (i : Nat)) hl (by omega) (by omega)).and (Evt.ge 258)).mono fun n hn => ?_)
      rw [f68_run, f68_eq, ltI_f h1, ltI_f h2, if_neg h1, if_neg h2, cond_false, cond_false]
      exact allU_l0s hn.1 n 257 n 0 [] (by omega) (by simp) (by omega)

theorem allR_runs {l : List AV} {at_ : Int} (hl : l.length ≤ maxLen) : RunsX 69 [.slice l, .int at_] ⟨[.slice (allOf l at_)], [], true⟩ := by
  unfold allOf
  by_cases h1 : at_ < 1
  · refine Evt.succ (.of fun n => ?_)
    rw [f69_run, f69_eq, ltI_t h1, if_pos h1]; rfl
  · by_cases h2 : (l.length : Int) < at_
    · refine Evt.succ (.of fun n => ?_)
      rw [f69_run, f69_eq, ltI_f h1, ltI_t h2, if_neg h1, if_pos h2]; rfl
    · refine Evt.succ (((Evt.all 257 fun i _ => nearR_runs (l := l) (at_ := at_) (lv := (i : Nat)) hl (by omega) (by omega)).and (Evt.ge 258)).mono fun n hn => ?_)
      rw [f69_run, f69_eq, ltI_f h1, ltI_f h2, if_neg h1, if_neg h2, cond_false, cond_false]
      exact allR_l0s hn.1 n 257 n 0 [] (by omega) (by simp) (by omega)

/-- The first place from one on where a number stands. -/
def idxV (l : List AV) (to : Int) : Nat → Nat → Int
  | 0, _ => -1
  | j + 1, i => if (nth l i).toInt = to then (i : Int) else idxV l to j (i + 1)

theorem idxU_l0 (run : Run) (n : Nat) (l : List AV) (to : Int) (hl : l.length ≤ 1000) : ∀ (j k i : Nat), i + j = l.length → j < k → f44_l0 run n k to l (l.length : Int) (i : Int) = some ⟨[.int (idxV l to j i)], [], false⟩ := by
  intro j
  induction j with
  | zero =>
    intro k i hi hk
    obtain ⟨k, rfl⟩ : ∃ j, k = j + 1 := ⟨k - 1, by omega⟩
    rw [f44_l0_eq, ltI_f (by omega)]; rfl
  | succ j ih =>
    intro k i hi hk
    obtain ⟨k, rfl⟩ : ∃ j, k = j + 1 := ⟨k - 1, by omega⟩
    have ih' := ih k (i + 1) (by omega) (by omega)
    rw [show ((i + 1 : Nat) : Int) = (i : Int) + 1 by omega] at ih'
    rw [f44_l0_eq, ltI_t (by omega), cond_true, inR_nat (by omega), cond_true, Int.toNat_natCast, w64 (by omega) (by omega), ih']
    simp only [idxV]
    by_cases h : (nth l i).toInt = to
    · rw [eqI_t h, if_pos h]; rfl
    · rw [eqI_f h, if_neg h]; rfl

theorem idxR_l0 (run : Run) (n : Nat) (l : List AV) (to : Int) (hl : l.length ≤ 1000) : ∀ (j k i : Nat), i + j = l.length → j < k → f46_l0 run n k to l (i : Int) = some ⟨[.int (idxV l to j i)], [], false⟩ := by
  intro j
  induction j with
  | zero =>
    intro k i hi hk
    obtain ⟨k, rfl⟩ : ∃ j, k = j + 1 := ⟨k - 1, by omega⟩
    rw [f46_l0_eq, ltI_f (by omega)]; rfl
  | succ j ih =>
    intro k i hi hk
    obtain ⟨k, rfl⟩ : ∃ j, k = j + 1 := ⟨k - 1, by omega⟩
    have ih' := ih k (i + 1) (by omega) (by omega)
    rw [show ((i + 1 : Nat) : Int) = (i : Int) + 1 by omega] at ih'
    rw [f46_l0_eq, ltI_t (by omega), cond_true, inR_nat (by omega), cond_true, Int.toNat_natCast, w64 (by omega) (by omega), ih']
    simp only [idxV]
    by_cases h : (nth l i).toInt = to
    · rw [eqI_t h, if_pos h]; rfl
    · rw [eqI_f h, if_neg h]; rfl

theorem idxU_runs {l : List AV} {at_ to : Int} (hl : l.length ≤ maxLen) : RunsX 44 [.slice l, .int at_, .int to] ⟨[.int (idxV (allOf l at_) to (allOf l at_).length 0)], [], false⟩ := by
  refine Evt.succ (((allU_runs (at_ := at_) hl).and (Evt.ge 400)).mono fun n hn => ?_)
  obtain ⟨h1, h2⟩ := hn
  have h3 := allOf_len l at_
  rw [f44_run, f44_eq, h1]
  simp only [bind_run, consV_c, nilV_n, toSlice_s, cond_true]
  exact idxU_l0 _ n _ to (by omega) _ n 0 (by omega) (by omega)

theorem idxR_runs {l : List AV} {at_ to : Int} (hl : l.length ≤ maxLen) : RunsX 46 [.slice l, .int at_, .int to] ⟨[.int (idxV (allOf l at_) to (allOf l at_).length 0)], [], false⟩ := by
  refine Evt.succ (((allR_runs (at_ := at_) hl).and (Evt.ge 400)).mono fun n hn => ?_)
  obtain ⟨h1, h2⟩ := hn
  have h3 := allOf_len l at_
  rw [f46_run, f46_eq, h1]
  simp only [bind_run, consV_c, nilV_n, toSlice_s, cond_true]
  exact idxR_l0 _ n _ to (by omega) _ n 0 (by omega) (by omega)

end Go.Proofs.YteiahdlklppghaaGreat.Ev
