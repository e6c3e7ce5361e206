/- What is opened holds. -/
import Derived.Test.YtbpllpdmkhojoaaEvPOpens
import Derived.Test.YtbpllpdmkhojoaaEvPKit
namespace Go.Proofs.Ytbpllpdmkhojoaa.Ev
open Go Go.RowKit

theorem holdAwake : RunsX 30 [] ⟨[.bool true], [], false⟩ := by
  have r1 := refTreeRoot_runs (l := [AV.str [97]]) (by simp) one_short
  have r2 := holdCheck_runs (root := rootH 1 (leafH [97])) (s := [97]) (i := 0) (n := 1) (P := []) (by simp) no_blobs
  have r3 := holdCheck_runs (root := zero32) (s := [97]) (i := 0) (n := 1) (P := []) (by simp) no_blobs
  rw [one_root] at r1
  rw [one_check] at r2
  rw [one_check0] at r3
  unfold zero32 at r3
  refine Evt.succ ((r1.and (r2.and r3)).mono fun m hn => ?_)
  obtain ⟨e1, e2, e3⟩ := hn
  rw [f30_run, f30_eq, e1, step1, toBlob_b, e2, step1, toBool_b, cond_true, e3, step1]
  rfl

theorem holdOpened_runs {l : List AV} {i : Int} (hl : l.length ≤ maxLen) (hs : Short l) : RunsX 7 [.slice l, .int i] ⟨[.bool true], [], false⟩ := by
  obtain ⟨b, h0, hm⟩ := much_runs hl
  cases b with
  | true =>
    refine Evt.succ ((hm.and holdAwake).mono fun n hn => ?_)
    rw [f7_run, f7_eq, hn.1, step1, toBool_b, cond_true, hn.2, step1]; rfl
  | false =>
  have hle := h0 rfl
  have r1 := open_runs (l := l) (i := i) (by omega) hs
  by_cases hi : 0 ≤ i ∧ i < l.length
  · obtain ⟨i0, i1⟩ := hi
    rw [openV_in i0 i1] at r1
    have q := hs i.toNat (by omega)
    have hm' := opened_may (l := l) (by omega) i0 i1
    have hp : (pathL l i).length ≤ l.length := pathV_len _ _ _
    have r2 := up_runs (s := (nth l i.toNat).toStr) (i := i) (n := (l.length : Int)) q (pathL_blob l i)
    rw [if_pos hm'] at r2
    have r3 := may_runs i (l.length : Int) (pathL l i)
    rw [hm'] at r3
    have r4 := root_runs (l := l) (by omega) hs
    have r5 := holdCheck_runs (root := rootV l) (s := (nth l i.toNat).toStr) (i := i) (n := l.length) (P := pathL l i) q (pathL_blob l i)
    rw [opened_check (by omega) i0 i1] at r5
    have r6 := leaves_runs (l := l) (by omega) hs
    have r7 := top_runs l.length (leavesV l) (by rw [leavesV_len]; omega) (by rw [leavesV_len]; omega) (leavesV_blob l)
    have e1 : nth (upsV (waysH i (l.length : Int) (pathL l i)) (leafH (nth l i.toNat).toStr) (pathL l i).length) (pathL l i).length = .blob (topV l.length (leavesV l)) := by
      rw [upsV_nth _ _ (Nat.le_refl _), List.take_of_length_le (by unfold waysH; rw [List.length_zip]; omega), opened_climbs i0 i1]
    have ew : IntKind.wrap .i64 ((((pathL l i).length + 1 : Nat) : Int) - 1) = ((pathL l i).length : Int) := by rw [w64 (by omega) (by omega)]; omega
    refine Evt.succ (((((hm.and holdAwake).and (r1.and r2)).and ((r3.and r4).and (r5.and r6))).and r7).mono fun n hn => ?_)
    obtain ⟨⟨⟨⟨g1, g2⟩, g3, g4⟩, ⟨g5, g6⟩, g7, g8⟩, g9⟩ := hn
    rw [f7_run, f7_eq]
    repeat (first | rw [step1] | rw [step1f] | rw [step2] | rw [step3] | rw [toBool_b] | rw [toInt_i] | rw [toStr_s] | rw [toBlob_b] | rw [toSlice_s] | rw [fld0] | rw [fld1] | rw [fld2] | rw [fld3] | rw [cond_true] | rw [cond_false] | rw [not_t] | rw [not_f] | rw [g1] | rw [g3] | rw [g4] | rw [g5] | rw [g6] | rw [g7] | rw [g8] | rw [g9] | rw [g2] | rw [ltI_f (show ¬ i < 0 by omega)] | rw [leI_f (show ¬ (l.length : Int) ≤ i by omega)] | rw [eqI_t (a := 0) (b := 0) rfl] | rw [inR_int i0 i1] | rw [upsV_len] | rw [ew] | rw [ltI_t (show (0 : Int) < (((pathL l i).length + 1 : Nat) : Int) by omega)] | rw [inR_nat (Nat.lt_succ_self (pathL l i).length)] | rw [Int.toNat_natCast] | rw [e1] | rw [eqS_t rfl])
    rfl
  · rw [openV_out hi] at r1
    refine Evt.succ (((hm.and holdAwake).and r1).mono fun n hn => ?_)
    obtain ⟨⟨g1, g2⟩, g3⟩ := hn
    rw [f7_run, f7_eq]
    by_cases h : i < 0
    · repeat (first | rw [step1] | rw [step1f] | rw [step2] | rw [step3] | rw [toBool_b] | rw [toInt_i] | rw [toStr_s] | rw [toBlob_b] | rw [toSlice_s] | rw [fld0] | rw [fld1] | rw [fld2] | rw [fld3] | rw [cond_true] | rw [cond_false] | rw [not_t] | rw [not_f] | rw [g1] | rw [g3] | rw [g2] | rw [ltI_t h] | rw [eqI_t (a := 3) (b := 3) rfl])
      rfl
    · repeat (first | rw [step1] | rw [step1f] | rw [step2] | rw [step3] | rw [toBool_b] | rw [toInt_i] | rw [toStr_s] | rw [toBlob_b] | rw [toSlice_s] | rw [fld0] | rw [fld1] | rw [fld2] | rw [fld3] | rw [cond_true] | rw [cond_false] | rw [not_t] | rw [not_f] | rw [g1] | rw [g3] | rw [g2] | rw [ltI_f h] | rw [leI_t (show (l.length : Int) ≤ i by omega)] | rw [eqI_t (a := 3) (b := 3) rfl])
      rfl

theorem holdOpened_sat (xs : List AV) (h : Ty.HasL [.slice .str, .int .i64] xs) : ∃ r, r.vals = [.bool true] ∧ Sat Try.prog f7_info 7 xs r := by
  obtain ⟨x, r, rfl, ⟨l, rfl, hl, _, hx⟩, y, r2, rfl, ⟨n, rfl, _⟩, rfl⟩ := h
  exact ⟨_, rfl, sat_of_runsX (by kernel_rfl) (holdOpened_runs hl (short_of hx))⟩

end Go.Proofs.Ytbpllpdmkhojoaa.Ev
