/- How steps begin. -/
import Derived.Test.YtgfplmaehbhapaaEvFA
import Derived.Test.YtgfplmaehbhapaaEvZB
namespace Go.Proofs.Ytgfplmaehbhapaa.Ev
open Go Go.RowKit

theorem much14_l0 (run : Run) (n : Nat) (l : List AV) (hl : l.length ≤ maxLen) : ∀ (j k i : Nat) (x : Int), 100 - i = j → i ≤ l.length → j < k → ∃ b, f14_l0 run n k l x (i : Int) = some ⟨[.bool b], [], false⟩ := by
  rw [maxLen_eq] at hl
  intro j
  induction j with
  | zero =>
    intro k i x hi _ hk
    obtain ⟨k, rfl⟩ : ∃ j, k = j + 1 := ⟨k - 1, by omega⟩
    rw [f14_l0_eq, ltI_f (a := (i : Int)) (b := 100) (by omega)]
    cases ltI (i : Int) l.length <;> cases ltI 40 (l.length : Int) <;> cases leI (l.length : Int) 1024 <;> cases ltI 1050 (l.length : Int) <;> exact ⟨_, rfl⟩
  | succ j ih =>
    intro k i x hi hil hk
    obtain ⟨k, rfl⟩ : ∃ j, k = j + 1 := ⟨k - 1, by omega⟩
    rw [f14_l0_eq]
    by_cases h : i < l.length
    · rw [ltI_t (by omega), ltI_t (by omega), cond_true, cond_true, inR_nat h, cond_true, w64 (x := (i : Int) + 1) (by omega) (by omega)]
      have := ih k (i + 1) (mn2 (IntKind.wrap .i64 (x + (((((nth l (Int.toNat i)).fld 1).fld 2).toSlice).length : Int))) 1048576) (by omega) (by omega) (by omega)
      rw [show ((i + 1 : Nat) : Int) = (i : Int) + 1 by omega] at this
      exact this
    · rw [ltI_f (by omega), cond_false]
      cases ltI 40 (l.length : Int) <;> cases leI (l.length : Int) 1024 <;> cases ltI 1050 (l.length : Int) <;> exact ⟨_, rfl⟩

theorem much14_runs {l : List AV} (hl : l.length ≤ maxLen) : ∃ b, Runs G noExt 14 [.slice l] ⟨[.bool b], [], false⟩ := by
  obtain ⟨b, h⟩ := much14_l0 (runE G noExt 200) 200 l hl 100 200 0 0 rfl (by omega) (by omega)
  exact ⟨b, Runs.of_eval 201 (by rw [f14_run, f14_eq]; exact h)⟩

set_option maxRecDepth 1000000 in
theorem anchorAwake : Runs G noExt 17 [] ⟨[.bool true], [], false⟩ := Runs.of_eval 40 (by kernel_rfl)

theorem same_at (n : Nat) (a b : Int) (c : List AV) : runE G noExt (n + 2) 26 [.agg [.int a, .int b, .slice c], .agg [.int 0, .int 0, .slice []]] = some ⟨[.bool (eqI a 0 && (eqI b 0 && eqI (c.length : Int) 0))], [], false⟩ := by
  rw [f26_run, f26_eq]
  by_cases h1 : a = 0
  · rw [eqI_t h1, not_t, cond_false]
    by_cases h2 : b = 0
    · rw [eqI_t h2, not_t, cond_false, show ((([] : List AV).length : Nat) : Int) = 0 from rfl]
      by_cases h3 : (c.length : Int) = 0
      · rw [eqI_t h3, not_t, cond_false, f26_l0_eq, ltI_f (by omega), cond_false]; rfl
      · rw [eqI_f h3, not_f, cond_true]; rfl
    · rw [eqI_f h2, not_f, cond_true]; rfl
  · rw [eqI_f h1, not_f, cond_true]; rfl

theorem none_at (n : Nat) (a b : Int) (c : List AV) : runE G noExt (n + 3) 23 [.agg [.int a, .int b, .slice c]] = some ⟨[.bool (eqI a 0 && (eqI b 0 && eqI (c.length : Int) 0))], [], false⟩ := by
  rw [f23_run, f23_eq, same_at]
  simp only [bind_run, consV_c, nilV_n, toBool_b]
  rfl

def anchorV (a : Int) (b c : List UInt8) (d : Int) (l : List AV) : Int :=
  bif eqI (l.length : Int) 0 then 6 else
  bif !(eqI ((((nth l 0).fld 0).fld 0).toInt) a && (eqS ((((nth l 0).fld 0).fld 1).toBlob) b && (eqS ((((nth l 0).fld 0).fld 2).toBlob) c && (eqI ((((nth l 0).fld 0).fld 3).toInt) d && true)))) then 7 else
  bif !(eqI ((((nth l 0).fld 1).fld 0).toInt) 0 && (eqI ((((nth l 0).fld 1).fld 1).toInt) 0 && eqI (((((nth l 0).fld 1).fld 2).toSlice).length : Int) 0)) then 2 else 0

theorem anchor_at (n : Nat) (a : Int) (b c : List UInt8) (d : Int) (l : List AV) : runE G noExt (n + 4) 15 [.agg [.int a, .blob b, .blob c, .int d], .slice l] = some ⟨[.int (anchorV a b c d l)], [], false⟩ := by
  rw [f15_run, f15_eq, none_at]
  simp only [bind_run, consV_c, nilV_n, toBool_b]
  unfold anchorV
  cases h0 : eqI (l.length : Int) 0 with
  | true => rfl
  | false =>
    rw [inR_yes (by omega) (by have : ¬ (l.length : Int) = 0 := fun h => by rw [eqI_t h] at h0; cases h0
                               omega)]
    simp only [cond_true, cond_false]
    cases !(eqI ((((nth l 0).fld 0).fld 0).toInt) a && (eqS ((((nth l 0).fld 0).fld 1).toBlob) b && (eqS ((((nth l 0).fld 0).fld 2).toBlob) c && (eqI ((((nth l 0).fld 0).fld 3).toInt) d && true)))) with
    | true => rfl
    | false =>
      simp only [cond_false]
      cases !(eqI ((((nth l 0).fld 1).fld 0).toInt) 0 && (eqI ((((nth l 0).fld 1).fld 1).toInt) 0 && eqI (((((nth l 0).fld 1).fld 2).toSlice).length : Int) 0)) <;> rfl

theorem refAnchor_at (n : Nat) (a : Int) (b c : List UInt8) (d : Int) (l : List AV) : runE G noExt (n + 1) 16 [.agg [.int a, .blob b, .blob c, .int d], .slice l] = some ⟨[.int (anchorV a b c d l)], [], false⟩ := by
  rw [f16_run, f16_eq]
  unfold anchorV
  cases h0 : eqI (l.length : Int) 0 with
  | true => rfl
  | false =>
    rw [inR_yes (by omega) (by have : ¬ (l.length : Int) = 0 := fun h => by rw [eqI_t h] at h0; cases h0
                               omega)]
    simp only [cond_true, cond_false]
    cases !(eqI ((((nth l 0).fld 0).fld 0).toInt) a && (eqS ((((nth l 0).fld 0).fld 1).toBlob) b && (eqS ((((nth l 0).fld 0).fld 2).toBlob) c && (eqI ((((nth l 0).fld 0).fld 3).toInt) d && true)))) with
    | true => rfl
    | false =>
      simp only [cond_false]
      have e : ltI 0 (((((nth l 0).fld 1).fld 2).toSlice).length : Int) = !(eqI (((((nth l 0).fld 1).fld 2).toSlice).length : Int) 0) := by
        by_cases h : (((((nth l 0).fld 1).fld 2).toSlice).length : Int) = 0
        · rw [eqI_t h, ltI_f (by omega)]; rfl
        · rw [eqI_f h, ltI_t (by omega)]; rfl
      rw [e]
      cases eqI ((((nth l 0).fld 1).fld 0).toInt) 0 <;> cases eqI ((((nth l 0).fld 1).fld 1).toInt) 0 <;> cases eqI (((((nth l 0).fld 1).fld 2).toSlice).length : Int) 0 <;> rfl

theorem anchorChecks_runs {a : Int} {b c : List UInt8} {d : Int} {l : List AV} (hl : l.length ≤ maxLen) : Runs G noExt 4 [.agg [.int a, .blob b, .blob c, .int d], .slice l] ⟨[.bool true], [], false⟩ := by
  obtain ⟨m, hm⟩ := much14_runs hl
  refine Evt.succ (((hm.and anchorAwake).and (Evt.ge 10)).mono fun n hn => ?_)
  obtain ⟨⟨h1, h2⟩, h3⟩ := hn
  obtain ⟨k, rfl⟩ : ∃ k, n = k + 4 := ⟨n - 4, by omega⟩
  rw [f4_run, f4_eq, h1, h2, anchor_at, refAnchor_at (k + 3)]
  simp only [bind_run, consV_c, nilV_n, toBool_b, toInt_i]
  rw [eqI_t rfl]
  cases m <;> rfl

theorem anchorFirst_runs {a : Int} {b c : List UInt8} {d : Int} {l : List AV} (hl : l.length ≤ maxLen) : Runs G noExt 5 [.agg [.int a, .blob b, .blob c, .int d], .slice l] ⟨[.bool true], [], false⟩ := by
  obtain ⟨m, hm⟩ := much14_runs hl
  refine Evt.succ (((hm.and anchorAwake).and (Evt.ge 10)).mono fun n hn => ?_)
  obtain ⟨⟨h1, h2⟩, h3⟩ := hn
  obtain ⟨k, rfl⟩ : ∃ k, n = k + 4 := ⟨n - 4, by omega⟩
  rw [f5_run, f5_eq, h1, h2, anchor_at, anchor_at]
  simp only [bind_run, consV_c, nilV_n, toBool_b, toInt_i]
  cases l with
  | nil => cases m <;> rfl
  | cons y r =>
    have e : anchorV a b c d (List.drop 0 (List.take 1 (y :: r))) = anchorV a b c d (y :: r) := by
      unfold anchorV
      rw [eqI_f (show ¬ (((y :: r).length : Nat) : Int) = 0 by simp; omega), eqI_f (show ¬ (((List.drop 0 (List.take 1 (y :: r))).length : Nat) : Int) = 0 by simp)]
      rfl
    have hb : boundsOk 0 1 ((y :: r).length : Int) ((y :: r).length : Int) = true := by
      simp [boundsOk]; omega
    rw [e, eqI_t (a := anchorV a b c d (y :: r)) rfl, hb, eqI_f (show ¬ (((y :: r).length : Nat) : Int) = 0 by simp; omega)]
    cases m <;> rfl

theorem anchorChecks_sat (xs : List AV) (h : Ty.HasL [.struct [.int .u32, .blob 32, .blob 32, .int .u64], .slice (.struct [.struct [.int .u32, .blob 32, .blob 32, .int .u64], .struct [.int .i64, .int .i64, .slice (.blob 32)]])] xs) : ∃ r, r.vals = [.bool true] ∧ Sat Try.prog f4_info 4 xs r := by
  obtain ⟨x, r, rfl, ⟨l0, rfl, z, r0, rfl, ⟨a, rfl, _⟩, z1, r1, rfl, ⟨b, rfl, _⟩, z2, r2, rfl, ⟨c, rfl, _⟩, z3, r3, rfl, ⟨d, rfl, _⟩, rfl⟩, y, r', rfl, ⟨l, rfl, hl, _, _⟩, rfl⟩ := h
  exact ⟨_, rfl, sat_of_runs types_ok fns_ok (by kernel_rfl) (anchorChecks_runs hl)⟩

theorem anchorFirst_sat (xs : List AV) (h : Ty.HasL [.struct [.int .u32, .blob 32, .blob 32, .int .u64], .slice (.struct [.struct [.int .u32, .blob 32, .blob 32, .int .u64], .struct [.int .i64, .int .i64, .slice (.blob 32)]])] xs) : ∃ r, r.vals = [.bool true] ∧ Sat Try.prog f5_info 5 xs r := by
  obtain ⟨x, r, rfl, ⟨l0, rfl, z, r0, rfl, ⟨a, rfl, _⟩, z1, r1, rfl, ⟨b, rfl, _⟩, z2, r2, rfl, ⟨c, rfl, _⟩, z3, r3, rfl, ⟨d, rfl, _⟩, rfl⟩, y, r', rfl, ⟨l, rfl, hl, _, _⟩, rfl⟩ := h
  exact ⟨_, rfl, sat_of_runs types_ok fns_ok (by kernel_rfl) (anchorFirst_runs hl)⟩

end Go.Proofs.Ytgfplmaehbhapaa.Ev
