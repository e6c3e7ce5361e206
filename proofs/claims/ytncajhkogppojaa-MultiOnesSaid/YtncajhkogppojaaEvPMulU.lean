/- What several leaves tell: both programs tell the same. -/
import Derived.Test.YtncajhkogppojaaEvPMulT
namespace Go.Proofs.Ytncajhkogppojaa.Ev
open Go Go.RowKit

abbrev Mny (c : Int) (P : List Int) (ph : List AV) : AV := .agg [.int c, .slice (I P), .slice ph]

theorem may_bad1 {n c : Int} {P : List Int} {ph : List AV} (h : c < 1 ∨ 1048576 < c) : RunsX 50 [.int n, Mny c P ph] ⟨[.int 3], [], false⟩ := by
  refine Evt.succ (.of fun m => ?_)
  rw [f50_run, f50_eq]
  by_cases h1 : c < 1
  · rw [ltI_t h1, cond_true]; rfl
  · rw [ltI_f h1, cond_false, ltI_t (by omega), cond_true]; rfl

theorem may_bad2 {n c : Int} {P : List Int} {ph : List AV} (h1 : 1 ≤ c) (h2 : c ≤ 1048576) (hP : P.length ≤ 1000) (hr : risV P c P.length 0 = false) : RunsX 50 [.int n, Mny c P ph] ⟨[.int 3], [], false⟩ := by
  have r1 := rising_runs (P := P) (n := c) hP
  rw [hr] at r1
  refine Evt.succ (r1.mono fun m hm => ?_)
  rw [f50_run, f50_eq, ltI_f (by omega), ltI_f (by omega), cond_false, cond_false, hm, step1, toBool_b, not_f, cond_true]; rfl

theorem may_len {n c : Int} {P : List Int} {ph : List AV} (h1 : 1 ≤ c) (h2 : c ≤ 1048576) (hP : P.length ≤ 1000) (hr : risV P c P.length 0 = true) (hn : ¬ n = (P.length : Int)) : RunsX 50 [.int n, Mny c P ph] ⟨[.int 2], [], false⟩ := by
  have r1 := rising_runs (P := P) (n := c) hP
  rw [hr] at r1
  refine Evt.succ (r1.mono fun m hm => ?_)
  rw [f50_run, f50_eq, ltI_f (by omega), ltI_f (by omega), cond_false, cond_false, hm, step1, toBool_b, not_t, cond_false, I_len, eqI_f hn, not_f, cond_true]; rfl

theorem may_need {n c k : Int} {P : List Int} {ph : List AV} (h1 : 1 ≤ c) (h2 : c ≤ 1048576) (hP : P.length ≤ 1000) (hr : risV P c P.length 0 = true) (hn : n = (P.length : Int)) (r2 : RunsX 81 [.int c, .slice (I P)] ⟨[.int k], [], false⟩) :
    RunsX 50 [.int n, Mny c P ph] ⟨[.int (bif eqI (ph.length : Int) k then 0 else 2)], [], false⟩ := by
  have r1 := rising_runs (P := P) (n := c) hP
  rw [hr] at r1
  refine Evt.succ ((r1.and r2).mono fun m hm => ?_)
  rw [f50_run, f50_eq, ltI_f (by omega), ltI_f (by omega), cond_false, cond_false, hm.1, step1, toBool_b, not_t, cond_false, I_len, eqI_t hn, not_t, cond_false, hm.2, step1, toInt_i]
  cases eqI (ph.length : Int) k <;> rfl

theorem root_bad {c w : Int} {P : List Int} {ph lv : List AV} (hw : ¬ w = 0) (r : RunsX 50 [.int (lv.length : Int), Mny c P ph] ⟨[.int w], [], false⟩) : RunsX 49 [.slice lv, Mny c P ph] ⟨[.blob zero32, .int w], [], false⟩ := by
  refine Evt.succ (r.mono fun m hm => ?_)
  rw [f49_run, f49_eq, hm, step1, toInt_i, eqI_f hw, not_f, cond_true]; rfl

theorem check_any {c w : Int} {P : List Int} {ph lv : List AV} {h : List UInt8} (root : List UInt8) (r : RunsX 49 [.slice lv, Mny c P ph] ⟨[.blob h, .int w], [], false⟩) : RunsX 13 [.blob root, .slice lv, Mny c P ph] ⟨[.bool (eqI w 0 && eqS h root)], [], false⟩ := by
  refine Evt.succ (r.mono fun m hm => ?_)
  rw [f13_run, f13_eq, hm, step2, toInt_i, toBlob_b]
  cases eqI w 0 <;> rfl

theorem eqS_comm (a b : List UInt8) : eqS a b = eqS b a := by
  by_cases h : a = b
  · rw [eqS_t h, eqS_t h.symm]
  · rw [eqS_f h, eqS_f (fun e => h e.symm)]

end Go.Proofs.Ytncajhkogppojaa.Ev
