/- Entries of vectors that lead to a place. -/
import Derived.Test.YtogehijjhibdkaaGreatEvPKit
namespace Go.Proofs.YtogehijjhibdkaaGreat.Ev
open Go Go.RowKit

/-- The last place ahead of one whose level is high enough. -/
def nearV (l : List AV) (lv : Int) : Nat → Int
  | 0 => -1
  | i + 1 => if lv ≤ (nth l i).toInt then (i : Int) else nearV l lv i

theorem nearU_l0s (run : Run) (n : Nat) (l : List AV) (lv : Int) : ∀ (m k : Nat), m ≤ l.length → l.length ≤ maxLen → m < k → f49_l0 run n k l lv ((m : Int) - 1) = some ⟨[.int (nearV l lv m)], [], false⟩ := by
  intro m
  induction m with
  | zero =>
    intro k _ _ hk
    obtain ⟨k, rfl⟩ : ∃ j, k = j + 1 := ⟨k - 1, by omega⟩
    rw [f49_l0_eq, leI_f (by omega)]
    rfl
  | succ m ih =>
    intro k hm hl hk
    obtain ⟨k, rfl⟩ : ∃ j, k = j + 1 := ⟨k - 1, by omega⟩
    rw [maxLen_eq] at hl
    have e : (((m + 1 : Nat) : Int) - 1) = (m : Int) := by omega
    rw [f49_l0_eq, e, leI_t (by omega), cond_true, inR_nat (by omega), cond_true, Int.toNat_natCast, w64 (by omega) (by omega), ih k (by omega) (by rw [maxLen_eq]; omega) (by omega)]
    simp only [nearV]
    by_cases h : lv ≤ (nth l m).toInt
    · rw [leI_t h, if_pos h]; rfl
    · rw [leI_f h, if_neg h]; rfl

theorem nearU_runs {l : List AV} {at_ lv : Int} (hl : l.length ≤ maxLen) (h0 : 0 ≤ at_) (h1 : at_ ≤ l.length) : RunsX 49 [.slice l, .int at_, .int lv] ⟨[.int (nearV l lv at_.toNat)], [], false⟩ := by
  refine Evt.succ ((Evt.ge (at_.toNat + 1)).mono fun n hn => ?_)
  rw [f49_run, f49_eq, mn2_eq, show min at_ (l.length : Int) = at_ by omega]
  rw [maxLen_eq] at hl
  rw [w64 (by omega) (by omega), show at_ - 1 = ((at_.toNat : Nat) : Int) - 1 by omega]
  exact nearU_l0s _ _ _ _ _ _ (by omega) (by rw [maxLen_eq]; omega) (by omega)

theorem nearR_l0s (run : Run) (n : Nat) (l : List AV) (at_ lv : Int) (h0 : 0 ≤ at_) (h1 : at_ ≤ l.length) (hl : l.length ≤ maxLen) : ∀ (j k i : Nat), i + j = at_.toNat → j < k → f82_l0 run n k l at_ lv (nearV l lv i) (i : Int) = some ⟨[.int (nearV l lv at_.toNat)], [], false⟩ := by
  rw [maxLen_eq] at hl
  intro j
  induction j with
  | zero =>
    intro k i hi hk
    obtain ⟨k, rfl⟩ : ∃ j, k = j + 1 := ⟨k - 1, by omega⟩
    rw [Nat.add_zero] at hi
    subst hi
    rw [f82_l0_eq]
    by_cases h : ((at_.toNat : Nat) : Int) < (l.length : Int)
    · rw [ltI_t h, cond_true, ltI_f (by omega)]; rfl
    · rw [ltI_f h]; rfl
  | succ j ih =>
    intro k i hi hk
    obtain ⟨k, rfl⟩ : ∃ j, k = j + 1 := ⟨k - 1, by omega⟩
    rw [f82_l0_eq, ltI_t (by omega), cond_true, ltI_t (by omega), cond_true, inR_nat (by omega), cond_true, Int.toNat_natCast, w64 (by omega) (by omega)]
    have ih' := ih k (i + 1) (by omega) (by omega)
    have e : ((i + 1 : Nat) : Int) = (i : Int) + 1 := by omega
    rw [e] at ih'
    simp only [nearV] at ih'
    by_cases h : lv ≤ (nth l i).toInt
    · rw [leI_t h, cond_true]
      rw [if_pos h] at ih'
      exact ih'
    · rw [leI_f h, cond_false]
      rw [if_neg h] at ih'
      exact ih'

theorem nearR_runs {l : List AV} {at_ lv : Int} (hl : l.length ≤ maxLen) (h0 : 0 ≤ at_) (h1 : at_ ≤ l.length) : RunsX 82 [.slice l, .int at_, .int lv] ⟨[.int (nearV l lv at_.toNat)], [], false⟩ := by
  refine Evt.succ ((Evt.ge (at_.toNat + 1)).mono fun n hn => ?_)
  rw [f82_run, f82_eq]
  exact nearR_l0s _ _ _ _ _ h0 h1 hl at_.toNat n 0 (by omega) (by omega)

/-- The last places ahead of one, level by level. -/
def allV (l : List AV) (at_ : Int) (acc : List AV) : Nat → Int → List AV
  | 0, _ => acc
  | j + 1, lv => if nearV l lv at_.toNat < 0 then acc else if nearV l lv at_.toNat = 0 then acc ++ [.int (nearV l lv at_.toNat)] else allV l at_ (acc ++ [.int (nearV l lv at_.toNat)]) j (lv + 1)

theorem allU_l0s {run : Run} {l : List AV} {at_ : Int} (hr : ∀ i, i < 257 → run 49 [.slice l, .int at_, .int (i : Nat)] = some ⟨[.int (nearV l (i : Nat) at_.toNat)], [], false⟩) (n : Nat) :
    ∀ (j k i : Nat) (acc : List AV), i + j = 257 → acc.length ≤ i → j < k → f16_l0 run n k l at_ acc (i : Int) = some ⟨[.slice (allV l at_ acc j i)], [], true⟩ := by
  intro j
  induction j with
  | zero =>
    intro k i acc hi _ hk
    obtain ⟨k, rfl⟩ : ∃ j, k = j + 1 := ⟨k - 1, by omega⟩
    rw [f16_l0_eq, ltI_f (by omega)]
    rfl
  | succ j ih =>
    intro k i acc hi hacc hk
    obtain ⟨k, rfl⟩ : ∃ j, k = j + 1 := ⟨k - 1, by omega⟩
    rw [f16_l0_eq, ltI_t (by omega), cond_true, hr i (by omega)]
    simp only [Option.bind_some, consV, nilV, AV.toInt]
    have hb : Nat.ble ((acc.length + 1) * 8) 140737488355328 = true := Nat.ble_eq_true_of_le (by omega)
    rw [hb, cond_true, w64 (by omega) (by omega)]
    have ih' := ih k (i + 1) (acc ++ [.int (nearV l (i : Nat) at_.toNat)]) (by omega) (by simp; omega) (by omega)
    have e : ((i + 1 : Nat) : Int) = (i : Int) + 1 := by omega
    rw [e] at ih'
    rw [ih']
    simp only [allV]
    by_cases h : nearV l (i : Nat) at_.toNat < 0
    · rw [ltI_t h, if_pos h]; rfl
    · rw [ltI_f h, if_neg h, cond_false]
      by_cases h' : nearV l (i : Nat) at_.toNat = 0
      · rw [eqI_t h', if_pos h']; rfl
      · rw [eqI_f h', if_neg h']; rfl

theorem allR_l0s {run : Run} {l : List AV} {at_ : Int} (hr : ∀ i, i < 257 → run 82 [.slice l, .int at_, .int (i : Nat)] = some ⟨[.int (nearV l (i : Nat) at_.toNat)], [], false⟩) (n : Nat) :
    ∀ (j k i : Nat) (acc : List AV), i + j = 257 → acc.length ≤ i → j < k → f48_l0 run n k l at_ acc (i : Int) = some ⟨[.slice (allV l at_ acc j i)], [], true⟩ := by
  intro j
  induction j with
  | zero =>
    intro k i acc hi _ hk
    obtain ⟨k, rfl⟩ : ∃ j, k = j + 1 := ⟨k - 1, by omega⟩
    rw [f48_l0_eq, ltI_f (by omega)]
    rfl
  | succ j ih =>
    intro k i acc hi hacc hk
    obtain ⟨k, rfl⟩ : ∃ j, k = j + 1 := ⟨k - 1, by omega⟩
    rw [f48_l0_eq, ltI_t (by omega), cond_true, hr i (by omega)]
    simp only [Option.bind_some, consV, nilV, AV.toInt]
    have hb : Nat.ble ((acc.length + 1) * 8) 140737488355328 = true := Nat.ble_eq_true_of_le (by omega)
    rw [hb, cond_true, w64 (by omega) (by omega)]
    have ih' := ih k (i + 1) (acc ++ [.int (nearV l (i : Nat) at_.toNat)]) (by omega) (by simp; omega) (by omega)
    have e : ((i + 1 : Nat) : Int) = (i : Int) + 1 := by omega
    rw [e] at ih'
    rw [ih']
    simp only [allV]
    by_cases h : nearV l (i : Nat) at_.toNat < 0
    · rw [ltI_t h, if_pos h]; rfl
    · rw [ltI_f h, if_neg h, cond_false]
      by_cases h' : nearV l (i : Nat) at_.toNat = 0
      · rw [eqI_t h', if_pos h']; rfl
      · rw [eqI_f h', if_neg h']; rfl

def allOf (l : List AV) (at_ : Int) : List AV := if at_ < 1 then [] else if (l.length : Int) < at_ then [] else allV l at_ [] 257 0

theorem allU_runs {l : List AV} {at_ : Int} (hl : l.length ≤ maxLen) : RunsX 16 [.slice l, .int at_] ⟨[.slice (allOf l at_)], [], true⟩ := by
  unfold allOf
  by_cases h1 : at_ < 1
  · refine Evt.succ (.of fun n => ?_)
    rw [f16_run, f16_eq, ltI_t h1, if_pos h1]; rfl
  · by_cases h2 : (l.length : Int) < at_
    · refine Evt.succ (.of fun n => ?_)
      rw [f16_run, f16_eq, ltI_f h1, ltI_t h2, if_neg h1, if_pos h2]; rfl
    · refine Evt.succ (((Evt.all 257 fun i _ => nearU_runs (l := l) (at_ := at_) (lv := (i : Nat)) hl (by omega) (by omega)).and (Evt.ge 258)).mono fun n hn => ?_)
      rw [f16_run, f16_eq, ltI_f h1, ltI_f h2, if_neg h1, if_neg h2, cond_false, cond_false]
      exact allU_l0s hn.1 n 257 n 0 [] (by omega) (by simp) (by omega)

theorem allR_runs {l : List AV} {at_ : Int} (hl : l.length ≤ maxLen) : RunsX 48 [.slice l, .int at_] ⟨[.slice (allOf l at_)], [], true⟩ := by
  unfold allOf
  by_cases h1 : at_ < 1
  · refine Evt.succ (.of fun n => ?_)
    rw [f48_run, f48_eq, ltI_t h1, if_pos h1]; rfl
  · by_cases h2 : (l.length : Int) < at_
    · refine Evt.succ (.of fun n => ?_)
      rw [f48_run, f48_eq, ltI_f h1, ltI_t h2, if_neg h1, if_pos h2]; rfl
    · refine Evt.succ (((Evt.all 257 fun i _ => nearR_runs (l := l) (at_ := at_) (lv := (i : Nat)) hl (by omega) (by omega)).and (Evt.ge 258)).mono fun n hn => ?_)
      rw [f48_run, f48_eq, ltI_f h1, ltI_f h2, if_neg h1, if_neg h2, cond_false, cond_false]
      exact allR_l0s hn.1 n 257 n 0 [] (by omega) (by simp) (by omega)

theorem allV_len (l : List AV) (at_ : Int) : ∀ (j : Nat) (lv : Int) (acc : List AV), (allV l at_ acc j lv).length ≤ acc.length + j
  | 0, _, acc => Nat.le_refl _
  | j + 1, lv, acc => by
    simp only [allV]
    split
    · omega
    · split
      · simp
      · have := allV_len l at_ j (lv + 1) (acc ++ [.int (nearV l lv at_.toNat)])
        simp at this
        omega

theorem allOf_len (l : List AV) (at_ : Int) : (allOf l at_).length ≤ 257 := by
  unfold allOf
  split
  · simp
  · split
    · simp
    · have := allV_len l at_ 257 0 []
      simpa using this

/-- The first place from one on where a number stands. -/
def idxV (l : List AV) (to : Int) : Nat → Nat → Int
  | 0, _ => -1
  | j + 1, i => if (nth l i).toInt = to then (i : Int) else idxV l to j (i + 1)

theorem idxU_l0 (run : Run) (n : Nat) (l : List AV) (to : Int) (hl : l.length ≤ 1000) : ∀ (j k i : Nat), i + j = l.length → j < k → f84_l0 run n k to l (l.length : Int) (i : Int) = some ⟨[.int (idxV l to j i)], [], false⟩ := by
  intro j
  induction j with
  | zero =>
    intro k i hi hk
    obtain ⟨k, rfl⟩ : ∃ j, k = j + 1 := ⟨k - 1, by omega⟩
    rw [f84_l0_eq, ltI_f (by omega)]; rfl
  | succ j ih =>
    intro k i hi hk
    obtain ⟨k, rfl⟩ : ∃ j, k = j + 1 := ⟨k - 1, by omega⟩
    have ih' := ih k (i + 1) (by omega) (by omega)
    rw [show ((i + 1 : Nat) : Int) = (i : Int) + 1 by omega] at ih'
    rw [f84_l0_eq, ltI_t (by omega), cond_true, inR_nat (by omega), cond_true, Int.toNat_natCast, w64 (by omega) (by omega), ih']
    simp only [idxV]
    by_cases h : (nth l i).toInt = to
    · rw [eqI_t h, if_pos h]; rfl
    · rw [eqI_f h, if_neg h]; rfl

theorem idxR_l0 (run : Run) (n : Nat) (l : List AV) (to : Int) (hl : l.length ≤ 1000) : ∀ (j k i : Nat), i + j = l.length → j < k → f15_l0 run n k to l (i : Int) = some ⟨[.int (idxV l to j i)], [], false⟩ := by
  intro j
  induction j with
  | zero =>
    intro k i hi hk
    obtain ⟨k, rfl⟩ : ∃ j, k = j + 1 := ⟨k - 1, by omega⟩
    rw [f15_l0_eq, ltI_f (by omega)]; rfl
  | succ j ih =>
    intro k i hi hk
    obtain ⟨k, rfl⟩ : ∃ j, k = j + 1 := ⟨k - 1, by omega⟩
    have ih' := ih k (i + 1) (by omega) (by omega)
    rw [show ((i + 1 : Nat) : Int) = (i : Int) + 1 by omega] at ih'
    rw [f15_l0_eq, ltI_t (by omega), cond_true, inR_nat (by omega), cond_true, Int.toNat_natCast, w64 (by omega) (by omega), ih']
    simp only [idxV]
    by_cases h : (nth l i).toInt = to
    · rw [eqI_t h, if_pos h]; rfl
    · rw [eqI_f h, if_neg h]; rfl

theorem idxU_runs {l : List AV} {at_ to : Int} (hl : l.length ≤ maxLen) : RunsX 84 [.slice l, .int at_, .int to] ⟨[.int (idxV (allOf l at_) to (allOf l at_).length 0)], [], false⟩ := by
  refine Evt.succ (((allU_runs (at_ := at_) hl).and (Evt.ge 400)).mono fun n hn => ?_)
  obtain ⟨h1, h2⟩ := hn
  have h3 := allOf_len l at_
  rw [f84_run, f84_eq, h1]
  simp only [bind_run, consV_c, nilV_n, toSlice_s, cond_true]
  exact idxU_l0 _ n _ to (by omega) _ n 0 (by omega) (by omega)

theorem idxR_runs {l : List AV} {at_ to : Int} (hl : l.length ≤ maxLen) : RunsX 15 [.slice l, .int at_, .int to] ⟨[.int (idxV (allOf l at_) to (allOf l at_).length 0)], [], false⟩ := by
  refine Evt.succ (((allR_runs (at_ := at_) hl).and (Evt.ge 400)).mono fun n hn => ?_)
  obtain ⟨h1, h2⟩ := hn
  have h3 := allOf_len l at_
  rw [f15_run, f15_eq, h1]
  simp only [bind_run, consV_c, nilV_n, toSlice_s, cond_true]
  exact idxR_l0 _ n _ to (by omega) _ n 0 (by omega) (by omega)

end Go.Proofs.YtogehijjhibdkaaGreat.Ev
