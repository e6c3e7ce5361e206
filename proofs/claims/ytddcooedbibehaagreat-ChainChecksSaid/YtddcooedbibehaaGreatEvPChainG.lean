/- Chains: the document's answer. -/
import Derived.Test.YtddcooedbibehaaGreatEvPChainL
namespace Go.Proofs.YtddcooedbibehaaGreat.Ev
open Go Go.RowKit

section
variable {gh : Int} {gl gt : List UInt8} {gn : Int} {t : List UInt8} {c1 c2 c3 c4 c5 c6 : Int}
theorem refChain_runs {l : List AV} (ht : t.length = 32) (hB : Blocks l) : RunsX 27 [Cfg gh gl gt gn t c1 c2 c3 c4 c5 c6, .slice l] ⟨[chainV gh gl gt gn t l], [], false⟩ := by
  unfold chainV
  by_cases h0 : l.length = 0
  · refine Evt.succ (.of fun n => ?_)
    rw [if_pos h0, f27_run, f27_eq, eqI_t (by omega)]; rfl
  by_cases h1 : 1024 < l.length
  · refine Evt.succ (.of fun n => ?_)
    rw [if_neg h0, if_pos h1, f27_run, f27_eq, eqI_f (by omega), ltI_t (by omega)]; rfl
  rw [if_neg h0, if_neg h1]
  have hall := Evt.all l.length fun i (hi : i < l.length) =>
    (rule_runs (t := t) (l := l) (i := i) (by omega) (by omega)).and
    ((refCheck_runs (h := (((nth l i).fld 0).fld 0).toInt) (n := (((nth l i).fld 0).fld 3).toInt) (h' := (i : Int)) (b := (((nth l i).fld 0).fld 1).toBlob) (c := (((nth l i).fld 0).fld 2).toBlob) (l := ((nth l i).fld 1).toSlice) (v := vecV t l i) (Nat.le_trans (vecV_len t l i) (by omega)) (vecV_blob t l i) (hB i hi).2.2 (hB i hi).2.1).and
     (refOk_runs (idA_len ((nth l i).fld 0)) ht))
  refine Evt.succ ((((refBIds_runs (l := l) (by omega) hB.heads).and (refLevels_runs (t := t) (l := l) ht (by omega))).and (hall.and (Evt.ge (l.length + 10)))).mono fun n hn => ?_)
  obtain ⟨⟨g1, g2⟩, g3, g4⟩ := hn
  have key : ∀ (j k i : Nat) (o1 o2 : Int), i + j = l.length → j < k → f27_l0 (runE G ext n) n k l gh gl gt gn t c1 c2 c3 c4 c5 c6 (idsV l) (levsV t l) (i : Int) o1 o2 = some ⟨[faultV gh gl gt gn t l j i], [], false⟩ := by
    intro j
    induction j with
    | zero =>
      intro k i o1 o2 hi hk
      obtain ⟨k, rfl⟩ : ∃ j, k = j + 1 := ⟨k - 1, by omega⟩
      rw [f27_l0_eq, ltI_f (by omega)]; rfl
    | succ j ih =>
      intro k i o1 o2 hi hk
      obtain ⟨k, rfl⟩ : ∃ j, k = j + 1 := ⟨k - 1, by omega⟩
      obtain ⟨e1, e2, e3⟩ := g3 i (by omega)
      have ih' := ih k (i + 1) o1 o2 (by omega) (by omega)
      rw [show ((i + 1 : Nat) : Int) = (i : Int) + 1 by omega] at ih'
      simp only [faultV, blkErr]
      rw [f27_l0_eq, ltI_t (by omega), cond_true, inR_nat (i := i) (n := l.length) (by omega), cond_true, Int.toNat_natCast, e1, step1f, toSlice_s, show IntKind.wrap .u32 (i : Int) = (i : Int) by rw [wrap32]; omega, e2, step1, toInt_i, inR_nat (i := i) (n := (idsV l).length) (by rw [idsV_len]; omega), cond_true, idsV_nth l (by omega), toBlob_b, e3, step1, toBool_b, w64 (x := (i : Int) + 1) (by omega) (by omega), ih']
      unfold ancV formV
      by_cases hi0 : (i : Int) = 0
      · obtain rfl : i = 0 := by omega
        rw [eqI_t (a := ((0 : Nat) : Int)) (b := 0) rfl, cond_true, cond_true, inR_int (i := 0) (n := l.length) (by omega) (by omega), cond_true]
        cases (eqI (((nth l 0).fld 0).fld 0).toInt gh && (eqS (((nth l 0).fld 0).fld 1).toBlob gl && (eqS (((nth l 0).fld 0).fld 2).toBlob gt && (eqI (((nth l 0).fld 0).fld 3).toInt gn && true))))
        · rfl
        · rw [not_t, cond_false, cond_false]
          by_cases hc : checkV (((nth l 0).fld 0).fld 0).toInt (((nth l 0).fld 0).fld 1).toBlob (((nth l 0).fld 0).fld 2).toBlob ((nth l 0).fld 1).toSlice ((0 : Nat) : Int) (vecV t l 0) = 0
          · rw [hc]
            cases okV (idA ((nth l 0).fld 0)) t <;> rfl
          · rw [eqI_f hc, not_f, cond_true, eqI_t (a := 0) (b := 0) rfl, not_t, cond_false, cond_true, eqI_f hc]; rfl
      · rw [eqI_f hi0, cond_false, cond_false, eqI_t (a := 0) (b := 0) rfl, not_t, cond_false]
        by_cases hc : checkV (((nth l i).fld 0).fld 0).toInt (((nth l i).fld 0).fld 1).toBlob (((nth l i).fld 0).fld 2).toBlob ((nth l i).fld 1).toSlice (i : Int) (vecV t l i) = 0
        · rw [hc]
          cases okV (idA ((nth l i).fld 0)) t <;> rfl
        · rw [eqI_f hc, not_f, cond_true, cond_true, eqI_f hc]; rfl
  rw [f27_run, f27_eq, eqI_f (by omega), cond_false, ltI_f (by omega), cond_false, g1, step1f, toSlice_s, g2, step1f, toSlice_s]
  exact key l.length n 0 0 0 (by omega) (by omega)

theorem chainChecks_runs {l : List AV} (ht : t.length = 32) (h0 : Blocks0 l) (hl : l.length ≤ maxLen) : RunsX 6 [Cfg gh gl gt gn t c1 c2 c3 c4 c5 c6, .slice l] ⟨[.bool true], [], false⟩ := by
  obtain ⟨b, hb, hm⟩ := mu24_runs h0 hl
  cases b with
  | true =>
    refine Evt.succ ((hm.and chainAwake).mono fun n hn => ?_)
    rw [f6_run, f6_eq]
    repeat (first | rw [step1] | rw [step1f] | rw [step2] | rw [step3] | rw [toBool_b] | rw [toInt_i] | rw [toStr_s] | rw [toBlob_b] | rw [toSlice_s] | rw [fld0] | rw [fld1] | rw [fld2] | rw [fld3] | rw [cond_true] | rw [cond_false] | rw [not_t] | rw [not_f] | rw [hn.1] | rw [hn.2])
    rfl
  | false =>
    obtain ⟨h24, hB⟩ := hb rfl
    have r1 := chainCheck_runs (gh := gh) (gl := gl) (gt := gt) (gn := gn) (t := t) (c1 := c1) (c2 := c2) (c3 := c3) (c4 := c4) (c5 := c5) (c6 := c6) (l := l) ht hB
    have r2 := refChain_runs (gh := gh) (gl := gl) (gt := gt) (gn := gn) (t := t) (c1 := c1) (c2 := c2) (c3 := c3) (c4 := c4) (c5 := c5) (c6 := c6) (l := l) ht hB
    refine Evt.succ (((hm.and chainAwake).and (r1.and r2)).mono fun n hn => ?_)
    obtain ⟨⟨g1, g2⟩, g3, g4⟩ := hn
    rw [f6_run, f6_eq, g1, step1, toBool_b, cond_false, g3, step1, g4, step1, eqI_t rfl, eqI_t rfl, Bool.and_true, Bool.and_true, cond_true, g2]
    rfl
end
theorem chainChecks_sat (xs : List AV) (h : Ty.HasL [.struct [.struct [.int .u32, .blob 32, .blob 32, .int .u64], .blob 32, .int .i64, .int .i64, .int .i64, .int .i64, .int .i64, .int .i64], .slice (.struct [.struct [.int .u32, .blob 32, .blob 32, .int .u64], .slice .str])] xs) : ∃ r, r.vals = [.bool true] ∧ Sat Tryz.prog f6_info 6 xs r := by
  obtain ⟨x, r, rfl, hx, y, r2, rfl, ⟨l, rfl, hl, _, hy⟩, rfl⟩ := h
  obtain ⟨gh, gl, gt, gn, t, c1, c2, c3, c4, c5, c6, rfl, ht, _⟩ := cfg_of hx
  exact ⟨_, rfl, sat_of_runsX (by kernel_rfl) (chainChecks_runs ht (blocks0_of hy) hl)⟩

end Go.Proofs.YtddcooedbibehaaGreat.Ev
