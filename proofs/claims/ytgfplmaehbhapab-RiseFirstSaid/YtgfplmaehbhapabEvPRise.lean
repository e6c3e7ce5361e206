/- Rising heights. -/
import Derived.Test.YtgfplmaehbhapabEvFA
import Derived.Test.YtgfplmaehbhapabEvZB
namespace Go.Proofs.Ytgfplmaehbhapab.Ev
open Go Go.RowKit

/-- The height of a step. -/
def hgt (l : List AV) (i : Nat) : Int := (((nth l i).fld 0).fld 0).toInt

theorem much_l0 (run : Run) (n : Nat) (l : List AV) (hl : l.length ≤ maxLen) : ∀ (j k i : Nat) (x : Int), 100 - i = j → i ≤ l.length → j < k → ∃ b, f9_l0 run n k l x (i : Int) = some ⟨[.bool b], [], false⟩ := by
  rw [maxLen_eq] at hl
  intro j
  induction j with
  | zero =>
    intro k i x hi _ hk
    obtain ⟨k, rfl⟩ : ∃ j, k = j + 1 := ⟨k - 1, by omega⟩
    rw [f9_l0_eq, ltI_f (a := (i : Int)) (b := 100) (by omega)]
    cases ltI (i : Int) l.length <;> cases ltI 40 (l.length : Int) <;> cases leI (l.length : Int) 1024 <;> cases ltI 1050 (l.length : Int) <;> exact ⟨_, rfl⟩
  | succ j ih =>
    intro k i x hi hil hk
    obtain ⟨k, rfl⟩ : ∃ j, k = j + 1 := ⟨k - 1, by omega⟩
    rw [f9_l0_eq]
    by_cases h : i < l.length
    · rw [ltI_t (by omega), ltI_t (by omega), cond_true, cond_true, inR_nat h, cond_true, w64 (x := (i : Int) + 1) (by omega) (by omega)]
      have := ih k (i + 1) (mn2 (IntKind.wrap .i64 (x + (((((nth l (Int.toNat i)).fld 1).fld 2).toSlice).length : Int))) 1048576) (by omega) (by omega) (by omega)
      rw [show ((i + 1 : Nat) : Int) = (i : Int) + 1 by omega] at this
      exact this
    · rw [ltI_f (by omega), cond_false]
      cases ltI 40 (l.length : Int) <;> cases leI (l.length : Int) 1024 <;> cases ltI 1050 (l.length : Int) <;> exact ⟨_, rfl⟩

theorem much_runs {l : List AV} (hl : l.length ≤ maxLen) : ∃ b, Runs G noExt 9 [.slice l] ⟨[.bool b], [], false⟩ := by
  obtain ⟨b, h⟩ := much_l0 (runE G noExt 200) 200 l hl 100 200 0 0 rfl (by omega) (by omega)
  exact ⟨b, Runs.of_eval 201 (by rw [f9_run, f9_eq]; exact h)⟩

theorem above_at (n : Nat) (a b c d : AV) (e f g h : AV) : runE G noExt (n + 1) 13 [.agg [.int a.toInt, .blob b.toBlob, .blob c.toBlob, .int d.toInt], .agg [.int e.toInt, .blob f.toBlob, .blob g.toBlob, .int h.toInt]] = some ⟨[.bool (ltI e.toInt a.toInt)], [], false⟩ := by
  rw [f13_run, f13_eq]; rfl

/-- The first place from one on whose height does not rise. -/
def riseV (l : List AV) : Nat → Nat → Int
  | 0, _ => -1
  | j + 1, i => if hgt l i ≤ hgt l (i - 1) then (i : Int) else riseV l j (i + 1)

theorem first_l0 (m n : Nat) (l : List AV) (hl : l.length ≤ maxLen) : ∀ (j k i : Nat), l.length - i = j → 1 ≤ i → i ≤ l.length + 1 → j < k → f11_l0 (runE G noExt (m + 1)) n k l (i : Int) = some ⟨[.int (riseV l j i)], [], false⟩ := by
  rw [maxLen_eq] at hl
  intro j
  induction j with
  | zero =>
    intro k i hi h1 _ hk
    obtain ⟨k, rfl⟩ : ∃ j, k = j + 1 := ⟨k - 1, by omega⟩
    rw [f11_l0_eq, ltI_f (by omega)]; rfl
  | succ j ih =>
    intro k i hi h1 h2 hk
    obtain ⟨k, rfl⟩ : ∃ j, k = j + 1 := ⟨k - 1, by omega⟩
    rw [f11_l0_eq, ltI_t (by omega), cond_true, inR_nat (by omega), cond_true, w64 (x := (i : Int) - 1) (by omega) (by omega), inR_yes (by omega) (by omega), cond_true, above_at, w64 (by omega) (by omega), show ((i : Int) - 1).toNat = i - 1 by omega, Int.toNat_natCast]
    simp only [bind_run, consV_c, nilV_n, toBool_b]
    have ih' := ih k (i + 1) (by omega) (by omega) (by omega) (by omega)
    rw [show ((i + 1 : Nat) : Int) = (i : Int) + 1 by omega] at ih'
    rw [ih']
    simp only [riseV]
    by_cases h : hgt l i ≤ hgt l (i - 1)
    · rw [if_pos h, ltI_f (by simp only [hgt] at h; omega)]; rfl
    · rw [if_neg h, ltI_t (by simp only [hgt] at h; omega)]; rfl

theorem falls_l0 (run : Run) (n : Nat) (l : List AV) (hl : l.length ≤ maxLen) : ∀ (j k i : Nat), l.length - i = j → 1 ≤ i → i ≤ l.length + 1 → j < k → f12_l0 run n k l (i : Int) = some ⟨[.int (riseV l j i)], [], false⟩ := by
  rw [maxLen_eq] at hl
  intro j
  induction j with
  | zero =>
    intro k i hi h1 _ hk
    obtain ⟨k, rfl⟩ : ∃ j, k = j + 1 := ⟨k - 1, by omega⟩
    rw [f12_l0_eq, ltI_f (by omega)]; rfl
  | succ j ih =>
    intro k i hi h1 h2 hk
    obtain ⟨k, rfl⟩ : ∃ j, k = j + 1 := ⟨k - 1, by omega⟩
    rw [f12_l0_eq, ltI_t (by omega), cond_true, inR_nat (by omega), cond_true, w64 (x := (i : Int) - 1) (by omega) (by omega), inR_yes (by omega) (by omega), cond_true, w64 (by omega) (by omega), show ((i : Int) - 1).toNat = i - 1 by omega, Int.toNat_natCast]
    have ih' := ih k (i + 1) (by omega) (by omega) (by omega) (by omega)
    rw [show ((i + 1 : Nat) : Int) = (i : Int) + 1 by omega] at ih'
    rw [ih']
    simp only [riseV]
    by_cases h : hgt l i ≤ hgt l (i - 1)
    · rw [if_pos h, leI_t (by exact h)]; rfl
    · rw [if_neg h, leI_f (by exact h)]; rfl

theorem first_runs {l : List AV} (hl : l.length ≤ maxLen) : Runs G noExt 11 [.slice l] ⟨[.int (riseV l (l.length - 1) 1)], [], false⟩ := by
  refine Evt.succ (Evt.succ ((Evt.ge (l.length + 1)).mono fun n hn => ?_))
  rw [f11_run, f11_eq]
  exact first_l0 n _ l hl (l.length - 1) _ 1 (by omega) (by omega) (by omega) (by omega)

theorem falls_runs {l : List AV} (hl : l.length ≤ maxLen) : Runs G noExt 12 [.slice l] ⟨[.int (riseV l (l.length - 1) 1)], [], false⟩ := by
  refine Evt.succ ((Evt.ge (l.length + 1)).mono fun n hn => ?_)
  rw [f12_run, f12_eq]
  exact falls_l0 _ _ l hl (l.length - 1) _ 1 (by omega) (by omega) (by omega) (by omega)

set_option maxRecDepth 1000000 in
theorem riseAwake : Runs G noExt 10 [] ⟨[.bool true], [], false⟩ := Runs.of_eval 60 (by kernel_rfl)

theorem w32 {x : Int} (h1 : 0 ≤ x) (h2 : x < 4294967296) : IntKind.wrap .u32 x = x := by
  simp [IntKind.wrap, IntKind.signed, IntKind.bits]; omega
theorem wu64 {x : Int} (h1 : 0 ≤ x) (h2 : x < 18446744073709551616) : IntKind.wrap .u64 x = x := by
  simp [IntKind.wrap, IntKind.signed, IntKind.bits]; omega
theorem wf32 {x : Int} (h : (Lit.int .u32 x).wf = true) : 0 ≤ x ∧ x < 4294967296 := by
  have := wf_bounds h
  simp [IntKind.min, IntKind.max, IntKind.signed, IntKind.bits] at this
  omega

theorem next_at (n : Nat) (a b c d : AV) (e f g h : AV) : runE G noExt (n + 2) 14 [.agg [.int a.toInt, .blob b.toBlob, .blob c.toBlob, .int d.toInt], .agg [.int e.toInt, .blob f.toBlob, .blob g.toBlob, .int h.toInt]] = some ⟨[.bool (bif ltI e.toInt a.toInt then eqI (IntKind.wrap .u32 (a.toInt - e.toInt)) 1 else false)], [], false⟩ := by
  rw [f14_run, f14_eq, above_at]
  simp only [bind_run, consV_c, nilV_n, toBool_b]
  cases ltI e.toInt a.toInt <;> rfl

theorem riseFirst_runs {l a : List AV} (hl : l.length ≤ maxLen) (h0 : 0 ≤ ((nth a 0).fld 0).toInt ∧ ((nth a 0).fld 0).toInt < 4294967296) (h1 : 0 ≤ ((nth a 1).fld 0).toInt ∧ ((nth a 1).fld 0).toInt < 4294967296) :
    Runs G noExt 3 [.slice l, .agg a] ⟨[.bool true], [], false⟩ := by
  obtain ⟨b, hm⟩ := much_runs hl
  refine Evt.succ (((hm.and riseAwake).and ((first_runs hl).and ((falls_runs hl).and (Evt.ge 2)))).mono fun n hn => ?_)
  obtain ⟨⟨h2, h3⟩, h4, h5, h6⟩ := hn
  obtain ⟨m, rfl⟩ : ∃ m, n = m + 2 := ⟨n - 2, by omega⟩
  rw [f3_run, f3_eq, h2, h3, h4, h5, above_at (m + 1), next_at]
  simp only [bind_run, consV_c, nilV_n, toBool_b, toInt_i]
  have e0 : AV.fld (.agg a) 0 = nth a 0 := rfl
  have e1 : AV.fld (.agg a) 1 = nth a 1 := rfl
  rw [e0, e1]
  generalize ((nth a 0).fld 0).toInt = x at h0
  generalize ((nth a 1).fld 0).toInt = y at h1
  rw [eqI_t rfl, wu64 (x := x) (by omega) (by omega), wu64 (x := y) (by omega) (by omega), wu64 (x := y + 1) (by omega) (by omega), eqO_t rfl]
  cases b with
  | true => rfl
  | false =>
    simp only [cond_false, cond_true]
    rw [eqO_t]
    · rfl
    · by_cases h : y < x
      · rw [ltI_t h, cond_true, w32 (by omega) (by omega)]
        by_cases h' : x = y + 1
        · rw [eqI_t h', eqI_t (by omega)]
        · rw [eqI_f h', eqI_f (by omega)]
      · rw [ltI_f h, cond_false, eqI_f (by omega)]

theorem rises_of {l : List AV} : ∀ (j i : Nat), l.length - i = j → 1 ≤ i → riseV l j i < 0 → ∀ m, i ≤ m → m < l.length → hgt l (m - 1) < hgt l m
  | 0, i, hi, _, _, m, h1, h2 => by omega
  | j + 1, i, hi, h1, h, m, h2, h3 => by
    simp only [riseV] at h
    split at h
    · omega
    · rcases Nat.lt_or_ge i m with h4 | h4
      · exact rises_of j (i + 1) (by omega) (by omega) h m (by omega) h3
      · rw [show m = i by omega]; omega

theorem sorted_of {l : List AV} (h : ∀ m, 1 ≤ m → m < l.length → hgt l (m - 1) < hgt l m) : ∀ (d i : Nat), i + d + 1 < l.length → hgt l i < hgt l (i + d + 1)
  | 0, i, hi => by have := h (i + 1) (by omega) hi; rw [Nat.add_sub_cancel] at this; exact this
  | d + 1, i, hi => by
    have h1 := sorted_of h d i (by omega)
    have h2 := h (i + d + 1 + 1) (by omega) hi
    rw [Nat.add_sub_cancel] at h2
    rw [show i + (d + 1) + 1 = i + d + 1 + 1 by omega]
    omega

/-- All ahead of the place are lower, all from it on are not. -/
def Cut (l : List AV) (x : Int) (lo : Nat) : Prop := lo ≤ l.length ∧ (∀ i, i < lo → hgt l i < x) ∧ ∀ i, lo ≤ i → i < l.length → x ≤ hgt l i
def foundV (l : List AV) (x : Int) (lo : Nat) : Int := bif decide (lo < l.length) && decide (hgt l lo = x) then (lo : Int) else -1

theorem find_l0 (run : Run) (n : Nat) (l : List AV) (x : Int) (hl : l.length ≤ maxLen) (hs : ∀ i j, i < j → j < l.length → hgt l i < hgt l j) : ∀ (j k lo hi : Nat), hi - lo ≤ j → lo ≤ hi → hi ≤ l.length → j < k → (∀ i, i < lo → hgt l i < x) → (∀ i, hi ≤ i → i < l.length → x ≤ hgt l i) →
    ∃ c, Cut l x c ∧ f15_l0 run n k l x (lo : Int) (hi : Int) = some ⟨[.int (foundV l x c)], [], false⟩ := by
  rw [maxLen_eq] at hl
  have fin : ∀ (k lo hi : Nat), 0 < k → lo = hi → hi ≤ l.length → (∀ i, i < lo → hgt l i < x) → (∀ i, hi ≤ i → i < l.length → x ≤ hgt l i) →
      ∃ c, Cut l x c ∧ f15_l0 run n k l x (lo : Int) (hi : Int) = some ⟨[.int (foundV l x c)], [], false⟩ := by
    intro k lo hi hk h1 h2 ha hb
    subst h1
    obtain ⟨k, rfl⟩ : ∃ j, k = j + 1 := ⟨k - 1, by omega⟩
    refine ⟨lo, ⟨h2, ha, hb⟩, ?_⟩
    rw [f15_l0_eq, ltI_f (by omega), cond_false]
    unfold foundV
    by_cases h3 : lo < l.length
    · rw [ltI_t (by omega), inR_nat h3, dec_t h3, cond_true, cond_true, Bool.true_and, Int.toNat_natCast]
      by_cases h4 : hgt l lo = x
      · rw [dec_t h4, eqI_t (by exact h4)]; rfl
      · rw [dec_f h4, eqI_f (by exact h4)]; rfl
    · rw [ltI_f (by omega), dec_f h3]; rfl
  intro j
  induction j with
  | zero =>
    intro k lo hi h1 h2 h3 hk ha hb
    exact fin k lo hi hk (by omega) h3 ha hb
  | succ j ih =>
    intro k lo hi h1 h2 h3 hk ha hb
    by_cases hlt : lo < hi
    · obtain ⟨k, rfl⟩ : ∃ j, k = j + 1 := ⟨k - 1, by omega⟩
      have e : Int.tdiv ((hi : Int) - lo) 2 = ((hi - lo) / 2 : Nat) := by rw [Int.tdiv_eq_ediv_of_nonneg (by omega)]; omega
      have e2 : (lo : Int) + ((hi - lo) / 2 : Nat) = ((lo + (hi - lo) / 2 : Nat) : Int) := by omega
      rw [f15_l0_eq, ltI_t (by omega), cond_true, w64 (x := (hi : Int) - lo) (by omega) (by omega), e, w64 (x := (((hi - lo) / 2 : Nat) : Int)) (by omega) (by omega), e2]
      have hm1 : lo ≤ lo + (hi - lo) / 2 := by omega
      have hm2 : lo + (hi - lo) / 2 < hi := by omega
      generalize lo + (hi - lo) / 2 = mid at hm1 hm2
      rw [w64 (x := (mid : Int)) (by omega) (by omega), inR_nat (by omega), cond_true, Int.toNat_natCast]
      by_cases h4 : hgt l mid < x
      · rw [ltI_t (by exact h4), cond_true, w64 (by omega) (by omega), show (mid : Int) + 1 = ((mid + 1 : Nat) : Int) by omega]
        exact ih k (mid + 1) hi (by omega) (by omega) h3 (by omega) (fun i hi' => by
          rcases Nat.lt_or_ge i mid with h5 | h5
          · have := hs i mid h5 (by omega); omega
          · rw [show i = mid by omega]; exact h4) hb
      · rw [ltI_f (by exact h4), cond_false]
        exact ih k lo mid (by omega) (by omega) (by omega) (by omega) ha (fun i hi' hi2 => by
          rcases Nat.lt_or_ge mid i with h5 | h5
          · have := hs mid i h5 hi2; omega
          · rw [show i = mid by omega]; omega)
    · exact fin k lo hi (by omega) (by omega) h3 ha hb

theorem want_l0 (run : Run) (n : Nat) (l : List AV) (x : Int) (hl : l.length ≤ maxLen) (hs : ∀ i j, i < j → j < l.length → hgt l i < hgt l j) {c : Nat} (hc : Cut l x c)
    (h15 : run 15 [.slice l, .int x] = some ⟨[.int (foundV l x c)], [], false⟩) (h10 : run 10 [] = some ⟨[.bool true], [], false⟩) : ∀ (j k i : Nat), i + j = l.length → j < k →
    f4_l0 run n k l x (bif decide (c < i) && decide (hgt l c = x) then (c : Int) else -1) (bif decide (c < i) && decide (hgt l c = x) then 1 else 0) (i : Int) = some ⟨[.bool true], [], false⟩ := by
  rw [maxLen_eq] at hl
  intro j
  induction j with
  | zero =>
    intro k i hi hk
    obtain ⟨k, rfl⟩ : ∃ j, k = j + 1 := ⟨k - 1, by omega⟩
    rw [Nat.add_zero] at hi
    subst hi
    rw [f4_l0_eq, ltI_f (by omega), h15, h10]
    simp only [bind_run, consV_c, nilV_n, toBool_b, toInt_i, cond_false]
    unfold foundV
    rw [eqI_t rfl, leI_t]
    · rfl
    · cases decide (c < l.length) && decide (hgt l c = x) <;> simp
  | succ j ih =>
    intro k i hi hk
    obtain ⟨k, rfl⟩ : ∃ j, k = j + 1 := ⟨k - 1, by omega⟩
    rw [f4_l0_eq, ltI_t (by omega), inR_nat (by omega), cond_true, cond_true, Int.toNat_natCast, w64 (x := (i : Int) + 1) (by omega) (by omega)]
    have ih' := ih k (i + 1) (by omega) (by omega)
    rw [show ((i + 1 : Nat) : Int) = (i : Int) + 1 by omega] at ih'
    by_cases h : hgt l i = x
    · have h1 : i = c := by
        rcases Nat.lt_trichotomy i c with h2 | h2 | h2
        · have := hc.2.1 i h2; omega
        · exact h2
        · have := hs c i h2 (by omega); have := hc.2.2 c (by omega) (by omega); omega
      subst h1
      rw [eqI_t (by exact h), cond_true, dec_f (Nat.lt_irrefl i), Bool.false_and, cond_false]
      rw [dec_t (Nat.lt_succ_self i), dec_t h] at ih'
      rw [w64 (by omega) (by omega)]
      exact ih'
    · rw [eqI_f (by exact h), cond_false]
      have e : (decide (c < i + 1) && decide (hgt l c = x)) = (decide (c < i) && decide (hgt l c = x)) := by
        by_cases h2 : c = i
        · subst h2; rw [dec_f h, Bool.and_false, Bool.and_false]
        · congr 1
          by_cases h3 : c < i
          · rw [dec_t h3, dec_t (by omega)]
          · rw [dec_f h3, dec_f (by omega)]
      rw [e] at ih'
      exact ih'

theorem riseFinds_runs {l : List AV} {x : Int} (hl : l.length ≤ maxLen) : Runs G noExt 4 [.slice l, .int x] ⟨[.bool true], [], false⟩ := by
  obtain ⟨b, hm⟩ := much_runs hl
  by_cases hr : 0 ≤ riseV l (l.length - 1) 1
  · refine Evt.succ (((hm.and riseAwake).and (falls_runs hl)).mono fun n hn => ?_)
    obtain ⟨⟨h2, h3⟩, h4⟩ := hn
    rw [f4_run, f4_eq, h2, h3, h4]
    simp only [bind_run, consV_c, nilV_n, toBool_b, toInt_i]
    rw [leI_t hr]
    cases b <;> rfl
  · have hs0 := sorted_of (rises_of (l := l) (l.length - 1) 1 (by omega) (by omega) (by omega))
    have hs : ∀ i j, i < j → j < l.length → hgt l i < hgt l j := fun i j h1 h2 => by
      have := hs0 (j - i - 1) i (by omega)
      rw [show i + (j - i - 1) + 1 = j by omega] at this
      exact this
    have hf : ∃ c, Cut l x c ∧ Runs G noExt 15 [.slice l, .int x] ⟨[.int (foundV l x c)], [], false⟩ := by
      obtain ⟨c, hc, h⟩ := find_l0 (runE G noExt (l.length + 1)) (l.length + 1) l x hl hs l.length (l.length + 1) 0 l.length (by omega) (by omega) (by omega) (by omega) (fun _ h => by omega) (fun _ h1 h2 => by omega)
      exact ⟨c, hc, Runs.of_eval (l.length + 2) (by rw [f15_run, f15_eq]; exact h)⟩
    obtain ⟨c, hc, hf⟩ := hf
    refine Evt.succ (((hm.and riseAwake).and ((falls_runs hl).and (hf.and (Evt.ge (l.length + 1))))).mono fun n hn => ?_)
    obtain ⟨⟨h2, h3⟩, h4, h5, h6⟩ := hn
    rw [f4_run, f4_eq, h2, h3, h4]
    simp only [bind_run, consV_c, nilV_n, toBool_b, toInt_i]
    rw [leI_f hr]
    have := want_l0 (runE G noExt n) n l x hl hs hc h5 h3 l.length n 0 (by omega) (by omega)
    rw [dec_f (Nat.not_lt_zero c)] at this
    cases b with
    | true => rfl
    | false => exact this

theorem fld_u32 {y : AV} {r : List Ty} (h : (Ty.struct (.int .u32 :: r)).Has y) : 0 ≤ (y.fld 0).toInt ∧ (y.fld 0).toInt < 4294967296 := by
  obtain ⟨l, rfl, x, r, rfl, ⟨n, rfl, hn⟩, _⟩ := h
  exact wf32 hn

theorem riseFirst_sat (xs : List AV) (h : Ty.HasL [.slice (.struct [.struct [.int .u32, .blob 32, .blob 32, .int .u64], .struct [.int .i64, .int .i64, .slice (.blob 32)]]), .arr 2 (.struct [.int .u32, .blob 32, .blob 32, .int .u64])] xs) : ∃ r, r.vals = [.bool true] ∧ Sat Try.prog f3_info 3 xs r := by
  obtain ⟨x, r, rfl, ⟨l, rfl, hl, _, _⟩, y, r', rfl, ⟨a, rfl, ha, hf⟩, rfl⟩ := h
  refine ⟨_, rfl, sat_of_runs types_ok fns_ok (by kernel_rfl) (riseFirst_runs hl ?_ ?_)⟩
  · have := fld_u32 (hf 0 _ (List.getElem?_eq_getElem (by omega)))
    rw [nth_lt (by omega)]; exact this
  · have := fld_u32 (hf 1 _ (List.getElem?_eq_getElem (by omega)))
    rw [nth_lt (by omega)]; exact this

theorem riseFinds_sat (xs : List AV) (h : Ty.HasL [.slice (.struct [.struct [.int .u32, .blob 32, .blob 32, .int .u64], .struct [.int .i64, .int .i64, .slice (.blob 32)]]), .int .u32] xs) : ∃ r, r.vals = [.bool true] ∧ Sat Try.prog f4_info 4 xs r := by
  obtain ⟨x, r, rfl, ⟨l, rfl, hl, _, _⟩, y, r', rfl, ⟨n, rfl, _⟩, rfl⟩ := h
  exact ⟨_, rfl, sat_of_runs types_ok fns_ok (by kernel_rfl) (riseFinds_runs hl)⟩

end Go.Proofs.Ytgfplmaehbhapab.Ev
