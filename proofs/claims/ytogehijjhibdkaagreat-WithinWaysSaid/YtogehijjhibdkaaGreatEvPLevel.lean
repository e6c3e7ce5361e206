/- Levels: both programs tell them alike. -/
import Derived.Test.YtogehijjhibdkaaGreatEvPWork
import Derived.Test.YtogehijjhibdkaaGreatEvPNextX
namespace Go.Proofs.YtogehijjhibdkaaGreat.Ev
open Go Go.RowKit

def shrSt (q i : Nat) : List AV := (List.range 4).map fun j => if j < i then .int (U (lb q j)) else .int 0
theorem shrSt_len (q i : Nat) : (shrSt q i).length = 4 := by simp [shrSt]
theorem shrSt_0 (q : Nat) : shrSt q 0 = [.int 0, .int 0, .int 0, .int 0] := rfl
theorem shrSt_set (q i : Nat) : (shrSt q i).set i (.int (U (lb q i))) = shrSt q (i + 1) := by
  unfold shrSt
  rw [set_range]
  congr 1
  funext j
  by_cases h : j = i
  · subst h; rw [if_pos rfl, if_pos (by omega)]
  · rw [if_neg h]
    by_cases h2 : j < i
    · rw [if_pos h2, if_pos (by omega)]
    · rw [if_neg h2, if_neg (by omega)]
theorem shrSt_all {q s : Nat} (h : ∀ j, s ≤ j → j < 4 → lb q j = 0) : shrSt q s = limbs q := by
  have e : ∀ j, j < 4 → (if j < s then AV.int (U (lb q j)) else .int 0) = .int (U (lb q j)) := by
    intro j hj
    by_cases h1 : j < s
    · rw [if_pos h1]
    · rw [if_neg h1, h j (by omega) hj]; rfl
  show [if 0 < s then AV.int (U (lb q 0)) else .int 0, if 1 < s then AV.int (U (lb q 1)) else .int 0, if 2 < s then AV.int (U (lb q 2)) else .int 0, if 3 < s then AV.int (U (lb q 3)) else .int 0] = [_, _, _, _]
  rw [e 0 (by omega), e 1 (by omega), e 2 (by omega), e 3 (by omega)]

theorem shr_runs {a n : Nat} (ha : a < Big) (hn : n < 256) : RunsX 78 [.agg (limbs a), .int n] ⟨[.agg (limbs (a / 2 ^ n))], [], false⟩ := by
  refine Evt.succ ((Evt.ge 10).mono fun m hm => ?_)
  rw [f78_run, f78_eq]
  by_cases h0 : n = 0
  · subst h0
    rw [leI_t (by omega), Nat.pow_zero, Nat.div_one]; rfl
  rw [leI_f (by omega), leI_f (by omega), cond_false, cond_false]
  have e1 : IntKind.wrap .i64 (Int.tdiv (n : Int) 64) = ((n / 64 : Nat) : Int) := by
    have : Int.tdiv (n : Int) 64 = ((n / 64 : Nat) : Int) := rfl
    rw [this, w64 (by omega) (by omega)]
  have e2 : IntKind.wrap .u64 (Int.tmod (n : Int) 64) = ((n % 64 : Nat) : Int) := by
    have : Int.tmod (n : Int) 64 = ((n % 64 : Nat) : Int) := rfl
    rw [this, wrap64]; omega
  rw [e1, e2, w64 (x := 4 - ((n / 64 : Nat) : Int)) (by omega) (by omega)]
  have step : ∀ (i k : Nat) (o4 : List AV), i < 4 - n / 64 → f78_l0 (runE G ext m) m (k + 1) ((n / 64 : Nat) : Int) ((n % 64 : Nat) : Int) (4 - ((n / 64 : Nat) : Int)) (i : Int) (limbs a) o4 (shrSt (a / 2 ^ n) i) = f78_l0 (runE G ext m) m k ((n / 64 : Nat) : Int) ((n % 64 : Nat) : Int) (4 - ((n / 64 : Nat) : Int)) ((i + 1 : Nat) : Int) (limbs a) o4 (shrSt (a / 2 ^ n) (i + 1)) := by
    intro i k o4 hi
    rw [f78_l0_eq, ltI_t (by omega), cond_true, w64 (x := (i : Int) + ((n / 64 : Nat) : Int)) (by omega) (by omega), show (i : Int) + ((n / 64 : Nat) : Int) = ((i + n / 64 : Nat) : Int) by omega, inR_nat (by omega), cond_true, leI_t (show (0 : Int) ≤ ((n % 64 : Nat) : Int) by omega), cond_true, inR_nat (i := i) (by omega), cond_true, Int.toNat_natCast, Int.toNat_natCast, Int.toNat_natCast, limbs_fld a (by omega), toInt_i,
      w64 (x := (i : Int) + 1) (by omega) (by omega), show (i : Int) + 1 = ((i + 1 : Nat) : Int) by omega, U_shr, show min (n % 64) 64 = n % 64 by omega, w64 (x := ((i + n / 64 : Nat) : Int) + 1) (by omega) (by omega), show ((i + n / 64 : Nat) : Int) + 1 = ((i + n / 64 + 1 : Nat) : Int) by omega]
    by_cases hb : n % 64 = 0
    · rw [ltI_f (show ¬ (0 : Int) < ((n % 64 : Nat) : Int) by omega), cond_false]
      have : lb a (i + n / 64) >>> (n % 64) = lb (a / 2 ^ n) i := by rw [lb_shr0 a n i hb, hb]; exact BitVec.ushiftRight_zero _
      rw [this, shrSt_set]
    · rw [ltI_t (show (0 : Int) < ((n % 64 : Nat) : Int) by omega), cond_true]
      have hs := lb_shr a n i (by omega)
      by_cases ht : i + n / 64 + 1 < 4
      · rw [ltI_t (show ((i + n / 64 + 1 : Nat) : Int) < 4 by omega), cond_true, cond_true, inR_nat (i := i + n / 64 + 1) (by omega), cond_true, wrap64, show (64 - ((n % 64 : Nat) : Int)) % 18446744073709551616 = ((64 - n % 64 : Nat) : Int) by omega, leI_t (show (0 : Int) ≤ ((64 - n % 64 : Nat) : Int) by omega), cond_true, cond_true, Int.toNat_natCast, Int.toNat_natCast, limbs_fld a ht, toInt_i, show min (64 - n % 64) 64 = 64 - n % 64 by omega, u64_shl]
        have hf : AV.fld (.agg ((shrSt (a / 2 ^ n) i).set i (.int (U (lb a (i + n / 64) >>> (n % 64)))))) i = .int (U (lb a (i + n / 64) >>> (n % 64))) := by
          unfold AV.fld
          rw [toAgg_a, nth_lt (by rw [List.length_set, shrSt_len]; omega), List.getElem_set_self]
        rw [hf, toInt_i, u64_or, ← hs, List.set_set, shrSt_set]
      · rw [ltI_f (show ¬ ((i + n / 64 + 1 : Nat) : Int) < 4 by omega), cond_false]
        have : lb a (i + n / 64) >>> (n % 64) = lb (a / 2 ^ n) i := by rw [hs, lb_top ha (show 4 ≤ i + n / 64 + 1 by omega)]; simp
        rw [this, shrSt_set]
  have key : ∀ (j k i : Nat) (o4 : List AV), i + j = 4 - n / 64 → j < k → f78_l0 (runE G ext m) m k ((n / 64 : Nat) : Int) ((n % 64 : Nat) : Int) (4 - ((n / 64 : Nat) : Int)) (i : Int) (limbs a) o4 (shrSt (a / 2 ^ n) i) = some ⟨[.agg (limbs (a / 2 ^ n))], [], false⟩ := by
    intro j
    induction j with
    | zero =>
      intro k i o4 hi hk
      obtain ⟨k, rfl⟩ : ∃ j, k = j + 1 := ⟨k - 1, by omega⟩
      rw [f78_l0_eq, ltI_f (by omega), cond_false, shrSt_all]
      · rfl
      · intro j h1 h2
        by_cases hb : n % 64 = 0
        · rw [lb_shr0 a n j hb, lb_top ha (by omega)]
        · rw [lb_shr a n j (by omega), lb_top ha (by omega), lb_top ha (by omega)]; simp
    | succ j ih =>
      intro k i o4 hi hk
      obtain ⟨k, rfl⟩ : ∃ j, k = j + 1 := ⟨k - 1, by omega⟩
      exact (step i k o4 (by omega)).trans (ih k (i + 1) o4 (by omega) (by omega))
  have := key (4 - n / 64) m 0 (List.replicate 4 (.int 0)) (by omega) (by omega)
  rw [shrSt_0] at this
  exact this

/-- The greatest level, tried one by one. -/
def lvN (x t : Nat) : Nat → Nat → Int
  | 0, n => (n : Int) - 1
  | j + 1, n => if t / 2 ^ n < x then (n : Int) - 1 else lvN x t j (n + 1)
def levelV (id target : List UInt8) : Int := lvN (natN id) (natN target) 256 0
theorem lvN_range (x t : Nat) : ∀ j n, -1 ≤ lvN x t j n ∧ lvN x t j n ≤ (n : Int) + j - 1
  | 0, n => by simp only [lvN]; omega
  | j + 1, n => by
    simp only [lvN]
    have := lvN_range x t j (n + 1)
    split <;> omega
theorem levelV_range (id target : List UInt8) : -1 ≤ levelV id target ∧ levelV id target ≤ 255 := by
  have := lvN_range (natN id) (natN target) 256 0
  unfold levelV; omega

theorem div_big {t n : Nat} (h : t < Big) : t / 2 ^ n < Big := Nat.lt_of_le_of_lt (Nat.div_le_self _ _) h

theorem level_runs {id target : List UInt8} (h : id.length = 32) (ht : target.length = 32) : RunsX 43 [.blob id, .blob target] ⟨[.int (levelV id target)], [], false⟩ := by
  have hx := natN_big h
  have hy := natN_big ht
  have hall := Evt.all 256 fun i hi => (shr_runs (a := natN target) hy hi).and (wideCmp_runs hx (div_big (n := i) hy))
  refine Evt.succ (((wideOf_runs h).and ((wideOf_runs ht).and (hall.and (Evt.ge 300)))).mono fun n hn => ?_)
  obtain ⟨g1, g2, g3, g4⟩ := hn
  have key : ∀ (j k i : Nat), i + j = 256 → j < k → f43_l0 (runE G ext n) n k ((i : Int) - 1) (i : Int) (limbs (natN id)) (limbs (natN target)) = some ⟨[.int (lvN (natN id) (natN target) j i)], [], false⟩ := by
    intro j
    induction j with
    | zero =>
      intro k i hi hk
      obtain ⟨k, rfl⟩ : ∃ j, k = j + 1 := ⟨k - 1, by omega⟩
      rw [f43_l0_eq, ltI_f (by omega)]; rfl
    | succ j ih =>
      intro k i hi hk
      obtain ⟨k, rfl⟩ : ∃ j, k = j + 1 := ⟨k - 1, by omega⟩
      obtain ⟨e1, e2⟩ := g3 i (by omega)
      have ih' := ih k (i + 1) (by omega) (by omega)
      rw [show ((i + 1 : Nat) : Int) - 1 = (i : Int) by omega, show ((i + 1 : Nat) : Int) = (i : Int) + 1 by omega] at ih'
      simp only [lvN]
      rw [f43_l0_eq, ltI_t (by omega), cond_true, e1, step1, toAgg_a, e2, step1, toInt_i, cmpN_gt, w64 (x := (i : Int) + 1) (by omega) (by omega), ih']
      by_cases hc : natN target / 2 ^ i < natN id
      · rw [decide_eq_true hc, if_pos hc]; rfl
      · rw [decide_eq_false hc, if_neg hc]; rfl
  rw [f43_run, f43_eq, g1, step1, g2, step1, toAgg_a, toAgg_a]
  exact key 256 n 0 (by omega) (by omega)

/- the reference's -/
end Go.Proofs.YtogehijjhibdkaaGreat.Ev
