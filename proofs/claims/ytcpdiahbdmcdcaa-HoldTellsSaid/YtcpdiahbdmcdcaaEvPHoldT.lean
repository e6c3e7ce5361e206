/- HoldTells: both programs tell the same of any opening. -/
import Derived.Test.YtcpdiahbdmcdcaaEvPHold
namespace Go.Proofs.Ytcpdiahbdmcdcaa.Ev
open Go Go.RowKit

theorem holdAwake : RunsX 32 [] ⟨[.bool true], [], false⟩ := by
  have r1 := refTreeRoot_runs (l := [AV.str [97]]) (by simp) one_short
  have r2 := holdCheck_runs (root := rootH 1 (leafH [97])) (s := [97]) (i := 0) (n := 1) (P := []) (by simp) no_blobs
  have r3 := holdCheck_runs (root := zero32) (s := [97]) (i := 0) (n := 1) (P := []) (by simp) no_blobs
  rw [one_root] at r1
  rw [one_check] at r2
  rw [one_check0] at r3
  unfold zero32 at r3
  refine Evt.succ ((r1.and (r2.and r3)).mono fun m hn => ?_)
  obtain ⟨e1, e2, e3⟩ := hn
  rw [f32_run, f32_eq, e1, step1, toBlob_b, e2, step1, toBool_b, cond_true, e3, step1]
  rfl

theorem eqO_self (a : Bool) : eqO a a = true := by cases a <;> rfl

theorem holdTells_runs {root s : List UInt8} {i n : Int} {P : List AV} (hb : Blob32 P) : RunsX 8 [.blob root, .str s, .agg [.int i, .int n, .slice P]] ⟨[.bool true], [], false⟩ := by
  by_cases h1 : 2000 < s.length
  · refine Evt.succ (holdAwake.mono fun m hm => ?_)
    rw [f8_run, f8_eq, ltI_t (by omega), cond_true, hm, step1]; rfl
  · have hs : s.length ≤ 140737488355328 := by omega
    have r1 := holdRoot_runs (s := s) (i := i) (n := n) (P := P) hs hb
    have r2 := refTold_runs (s := s) (i := i) (n := n) (P := P) hs hb
    have r3 := up_runs (s := s) (i := i) (n := n) (P := P) hs hb
    have r4 := may_runs i n P
    have r5 := refMay_runs i n P
    have r6 := holdCheck_runs (root := root) (s := s) (i := i) (n := n) (P := P) hs hb
    have r7 := refCheck11_runs (root := root) (s := s) (i := i) (n := n) (P := P) hs hb
    have r8 := holdCheck_runs (root := toldH s i n P) (s := s) (i := i) (n := n) (P := P) hs hb
    have r9 := refLeaves_runs (l := [AV.str s]) (by simp) (fun j hj => by
      have : j = 0 := by simp at hj; omega
      subst this
      exact hs)
    refine Evt.succ ((((holdAwake.and (r1.and r2)).and (r3.and (r4.and r5))).and ((r6.and r7).and (r8.and r9))).mono fun m hn => ?_)
    obtain ⟨⟨⟨g0, g1, g2⟩, g3, g4, g5⟩, ⟨g6, g7⟩, g8, g9⟩ := hn
    rw [f8_run, f8_eq, ltI_f (by omega), cond_false, g1, step2, g2, step2, g3, step1f, toBlob_b, eqS_t rfl, not_t, cond_false, toInt_i, eqI_t (a := mayH i n P) rfl, not_t, cond_false, g4, step1, g5, step1, toInt_i, eqI_t (a := mayH i n P) (b := mayH i n P) rfl, not_t, cond_false, g6, step1, g7, step1, toBool_b, eqO_self, not_t, cond_false, toSlice_s]
    by_cases hm : mayH i n P = 0
    · obtain ⟨k1, k2, k3, k4, k5⟩ := mayH_in hm
      have hk := sidesV_len n.toNat n i
      have e1 : checkH (toldH s i n P) s i n P = true := by
        unfold checkH
        rw [eqI_t hm, eqS_t rfl]; rfl
      rw [e1] at g8
      have e2 : nth (upsV (waysH i n P) (leafH s) P.length) 0 = .blob (leafH s) := upsV_nth _ _ (Nat.zero_le _)
      have e3 : nth (leavesV [AV.str s]) 0 = .blob (leafH s) := rfl
      rw [eqI_t hm, not_t, cond_false, if_pos hm, upsV_len, w64 (x := (P.length : Int) + 1) (by omega) (by omega), eqI_t (by omega), cond_true, inR_yes (i := 0) (n := P.length + 1) (by omega) (by omega), cond_true, g9, step1f, toSlice_s, leavesV_len, inR_yes (i := 0) (n := [AV.str s].length) (by omega) (by simp), cond_true, e2, e3, toBlob_b, eqS_t rfl, cond_true, g8, step1, toBool_b, cond_true, g0, step1]
      rfl
    · rw [eqI_f hm, not_f, cond_true, if_neg hm, eqI_t (a := (([] : List AV).length : Int)) (b := 0) rfl, cond_true, g0, step1]
      rfl

theorem holdTells_sat (xs : List AV) (h : Ty.HasL [.blob 32, .str, .struct [.int .i64, .int .i64, .slice (.blob 32)]] xs) : ∃ r, r.vals = [.bool true] ∧ Sat Try.prog f8_info 8 xs r := by
  obtain ⟨x, r, rfl, ⟨root, rfl, _⟩, y, r', rfl, ⟨s, rfl, _⟩, z, r2, rfl, ⟨l0, rfl, y0, s0, rfl, ⟨i, rfl, _⟩, y1, s1, rfl, ⟨n, rfl, _⟩, y2, s2, rfl, ⟨P, rfl, _, _, hx⟩, rfl⟩, rfl⟩ := h
  exact ⟨_, rfl, sat_of_runsX (by kernel_rfl) (holdTells_runs (blob32_of hx))⟩

end Go.Proofs.Ytcpdiahbdmcdcaa.Ev
