/- The levels of a chain. -/
import Derived.Test.YtncajhkogppojaaGreatEvPChainL
namespace Go.Proofs.YtncajhkogppojaaGreat.Ev
open Go Go.RowKit

theorem levels_runs {t : List UInt8} {l : List AV} (ht : t.length = 32) (hl : l.length ≤ 100000) (hh : Heads l) : RunsX 14 [.blob t, .slice l] ⟨[.slice (levsV t l)], [], true⟩ := by
  have hall := Evt.all l.length fun i (hi : i < l.length) => (chainId_runs (x := ((nth l i).fld 1).toSlice) (hh i hi)).and (level_runs (idA_len ((nth l i).fld 0)) ht)
  refine Evt.succ ((hall.and (Evt.ge (l.length + 1))).mono fun n hn => ?_)
  have key : ∀ (j k i : Nat), i + j = l.length → j < k → f14_l0 (runE G ext n) n k ((List.range i).map fun i => .int (if i = 0 then 256 else levelV (idA ((nth l i).fld 0)) t)) l (l.length : Int) (i : Int) t = some ⟨[.slice (levsV t l)], [], true⟩ := by
    intro j
    induction j with
    | zero =>
      intro k i hi hk
      obtain ⟨k, rfl⟩ : ∃ j, k = j + 1 := ⟨k - 1, by omega⟩
      rw [f14_l0_eq, ltI_f (by omega), cond_false, show i = l.length by omega]; rfl
    | succ j ih =>
      intro k i hi hk
      obtain ⟨k, rfl⟩ : ∃ j, k = j + 1 := ⟨k - 1, by omega⟩
      have ih' := ih k (i + 1) (by omega) (by omega)
      rw [show ((i + 1 : Nat) : Int) = (i : Int) + 1 by omega, List.range_succ, List.map_append, List.map_singleton] at ih'
      have nb : Nat.ble ((((List.range i).map fun i => AV.int (if i = 0 then 256 else levelV (idA ((nth l i).fld 0)) t)).length + 1) * 8) 140737488355328 = true := Nat.ble_eq_true_of_le (by simp; omega)
      obtain ⟨e1, e2⟩ := hn.1 i (by omega)
      unfold idA at e2
      rw [f14_l0_eq, ltI_t (by omega), cond_true, inR_nat (by omega), cond_true, Int.toNat_natCast, e1, step1, toBlob_b, e2, step1, toInt_i, nb, w64 (by omega) (by omega)]
      by_cases h0 : i = 0
      · rw [if_pos h0] at ih'
        rw [eqI_t (show (i : Int) = 0 by omega), cond_true, cond_true]
        exact ih'
      · rw [if_neg h0] at ih'
        rw [eqI_f (show ¬ (i : Int) = 0 by omega), cond_false, cond_true]
        exact ih'
  rw [f14_run, f14_eq]
  exact key l.length n 0 (by omega) (by omega)

theorem chainVectors_runs {t : List UInt8} {l : List AV} (ht : t.length = 32) (h0 : Blocks0 l) (hl : l.length ≤ maxLen) : RunsX 3 [.blob t, .slice l] ⟨[.bool true], [], false⟩ := by
  obtain ⟨b, hb, hm⟩ := mu24_runs h0 hl
  cases b with
  | true =>
    refine Evt.succ ((hm.and chainAwake).mono fun n hn => ?_)
    rw [f3_run, f3_eq, hn.1, step1, toBool_b, cond_true, hn.2]; rfl
  | false =>
    obtain ⟨h24, hB⟩ := hb rfl
    have hall := Evt.all (l.length + 1) fun i (hi : i < l.length + 1) => (rule_runs (t := t) (l := l) (i := i) (by omega) (by omega)).and (hashes_runs (l := vecV t l i) (by have := vecV_len t l i; rw [maxLen_eq]; omega))
    refine Evt.succ ((((hm.and chainAwake).and ((refBIds_runs (l := l) (by omega) hB.heads).and (refLevels_runs (t := t) (l := l) ht (by omega)))).and (((levels_runs (t := t) (l := l) ht (by omega) hB.heads).and (vectors_runs (t := t) (l := l) ht (by omega) hB.heads)).and (((chainIds_runs (l := l) (by omega) hB.heads).and (hashes_runs (l := idsV l) (by rw [idsV_len]; exact hl))).and (hall.and (Evt.ge 100))))).mono fun n hn => ?_)
    obtain ⟨⟨⟨g1, g2⟩, g3, g4⟩, ⟨g5, g6⟩, ⟨g7, g8⟩, g9, g10⟩ := hn
    have k2 : ∀ (j k i : Nat), i + j = l.length + 1 → j < k → ∀ k0, f3_l2 (runE G ext n) n k0 k (idsV l) (levsV t l) (vecsV t l (l.length + 1)) (i : Int) = some ⟨[.bool true], [], false⟩ := by
      intro j
      induction j with
      | zero =>
        intro k i hi hk k0
        obtain ⟨k, rfl⟩ : ∃ j, k = j + 1 := ⟨k - 1, by omega⟩
        rw [f3_l2_eq, vecsV_len, ltI_f (by omega), cond_false, g2]; rfl
      | succ j ih =>
        intro k i hi hk k0
        obtain ⟨k, rfl⟩ : ∃ j, k = j + 1 := ⟨k - 1, by omega⟩
        have ih' := ih k (i + 1) (by omega) (by omega) k0
        rw [show ((i + 1 : Nat) : Int) = (i : Int) + 1 by omega] at ih'
        obtain ⟨e1, e2⟩ := g9 i (by omega)
        rw [f3_l2_eq, vecsV_len, ltI_t (by omega), cond_true, inR_nat (by omega), cond_true, Int.toNat_natCast, vecsV_nth t l (by omega), toSlice_s, e1, step1f, toSlice_s, e2, step1, toBool_b, not_t, cond_false, w64 (by omega) (by omega), ih']
    have k0 : ∀ (j k i : Nat), i + j = l.length → j < k → f3_l0 (runE G ext n) n k (idsV l) (levsV t l) (levsV t l) (vecsV t l (l.length + 1)) (i : Int) = some ⟨[.bool true], [], false⟩ := by
      intro j
      induction j with
      | zero =>
        intro k i hi hk
        obtain ⟨k, rfl⟩ : ∃ j, k = j + 1 := ⟨k - 1, by omega⟩
        rw [f3_l0_eq, levsV_len, ltI_f (by omega), cond_false]
        exact k2 (l.length + 1) n 0 (by omega) (by omega) k
      | succ j ih =>
        intro k i hi hk
        obtain ⟨k, rfl⟩ : ∃ j, k = j + 1 := ⟨k - 1, by omega⟩
        have ih' := ih k (i + 1) (by omega) (by omega)
        rw [show ((i + 1 : Nat) : Int) = (i : Int) + 1 by omega] at ih'
        rw [f3_l0_eq, levsV_len, ltI_t (by omega), cond_true, inR_nat (by omega), cond_true, cond_true, eqI_t rfl, not_t, cond_false, w64 (by omega) (by omega), ih']
    rw [f3_run, f3_eq, g1, step1, toBool_b, cond_false, g3, step1f, toSlice_s, g4, step1f, toSlice_s, g5, step1f, toSlice_s, g6, step1f, toSlice_s, g7, step1f, toSlice_s, g8, step1, toBool_b, not_t, cond_false, levsV_len, eqI_t rfl, not_t, cond_false, vecsV_len, w64 (by omega) (by omega), eqI_t (show ((l.length + 1 : Nat) : Int) = (l.length : Int) + 1 by omega), not_t, cond_false]
    exact k0 l.length n 0 (by omega) (by omega)
theorem chainVectors_sat (xs : List AV) (h : Ty.HasL [.blob 32, .slice (.struct [.struct [.int .u32, .blob 32, .blob 32, .int .u64], .slice .str])] xs) : ∃ r, r.vals = [.bool true] ∧ Sat Tryz.prog f3_info 3 xs r := by
  obtain ⟨x, r, rfl, ⟨t, rfl, ht⟩, y, r2, rfl, ⟨l, rfl, hl, _, hy⟩, rfl⟩ := h
  exact ⟨_, rfl, sat_of_runsX (by kernel_rfl) (chainVectors_runs ht (blocks0_of hy) hl)⟩

end Go.Proofs.YtncajhkogppojaaGreat.Ev
