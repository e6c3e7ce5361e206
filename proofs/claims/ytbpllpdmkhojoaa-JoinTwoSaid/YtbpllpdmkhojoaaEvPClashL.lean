/- Clashes: the laws. -/
import Derived.Test.YtbpllpdmkhojoaaEvPFind
import Derived.Test.YtbpllpdmkhojoaaEvPOpens
namespace Go.Proofs.Ytbpllpdmkhojoaa.Ev
open Go Go.RowKit

def bothV (root s : List UInt8) (i n : Int) (P : List AV) (s' : List UInt8) (i' n' : Int) (P' : List AV) : Bool := checkH root s i n P && (checkH root s' i' n' P' && (eqI i i' && !(eqS s s')))

theorem findNone_runs {root s s' : List UInt8} {i n i' n' : Int} {P P' : List AV} (hs : s.length ≤ 140737488355328) (hs' : s'.length ≤ 140737488355328) (hb : Blob32 P) (hb' : Blob32 P') (h : bothV root s i n P s' i' n' P' = false) :
    RunsX 16 [.blob root, .agg [.str s, .agg [.int i, .int n, .slice P]], .agg [.str s', .agg [.int i', .int n', .slice P']]] ⟨[.str [], .str [], .bool false], [], false⟩ := by
  have r1 := holdCheck_runs (root := root) (s := s) (i := i) (n := n) (P := P) hs hb
  have r2 := holdCheck_runs (root := root) (s := s') (i := i') (n := n') (P := P') hs' hb'
  unfold bothV at h
  refine Evt.succ ((r1.and r2).mono fun m hm => ?_)
  rw [f16_run, f16_eq, hm.1, step1, toBool_b, hm.2, step1, toBool_b]
  cases h1 : checkH root s i n P with
  | false => rfl
  | true => cases h2 : checkH root s' i' n' P' with
    | false => rfl
    | true => cases h3 : eqI i i' with
      | false => rfl
      | true => cases h4 : eqS s s' with
        | true => rfl
        | false => rw [h1, h2, h3, h4] at h; cases h

theorem bothV_in {root s s' : List UInt8} {i n i' n' : Int} {P P' : List AV} (h : bothV root s i n P s' i' n' P' = true) : checkH root s i n P = true ∧ checkH root s' i' n' P' = true ∧ i = i' ∧ s ≠ s' := by
  unfold bothV at h
  simp only [Bool.and_eq_true] at h
  obtain ⟨h1, h2, h3, h4⟩ := h
  refine ⟨h1, h2, eqI_true h3, eqS_false ?_⟩
  cases h5 : eqS s s' with
  | true => rw [h5] at h4; cases h4
  | false => rfl

/-- What the search tells of any two opened leaves. -/
theorem find_runs {root s s' : List UInt8} {i n i' n' : Int} {P P' : List AV} (hs : s.length ≤ 140737488355328) (hs' : s'.length ≤ 140737488355328) (hb : Blob32 P) (hb' : Blob32 P') :
    ∃ t u : List UInt8, RunsX 16 [.blob root, .agg [.str s, .agg [.int i, .int n, .slice P]], .agg [.str s', .agg [.int i', .int n', .slice P']]] ⟨[.str t, .str u, .bool (bothV root s i n P s' i' n' P')], [], false⟩ ∧
      (bothV root s i n P s' i' n' P' = false → t = [] ∧ u = []) ∧ (bothV root s i n P s' i' n' P' = true → isV t u = true) ∧ t.length ≤ s.length + 100 ∧ u.length ≤ s'.length + 100 := by
  cases h : bothV root s i n P s' i' n' P' with
  | false => exact ⟨[], [], findNone_runs hs hs' hb hb' h, fun _ => ⟨rfl, rfl⟩, (fun h => by cases h), Nat.zero_le _, Nat.zero_le _⟩
  | true =>
    obtain ⟨h1, h2, rfl, h4⟩ := bothV_in h
    obtain ⟨t, u, k1, k2, k3, k4⟩ := find_both hs hs' hb hb' h4 h1 h2
    exact ⟨t, u, k1, (fun h => by cases h), fun _ => k2, k3, k4⟩

theorem clashFinds_runs {root s s' : List UInt8} {i n i' n' : Int} {P P' : List AV} (hb : Blob32 P) (hb' : Blob32 P') :
    RunsX 3 [.blob root, .agg [.str s, .agg [.int i, .int n, .slice P]], .agg [.str s', .agg [.int i', .int n', .slice P']]] ⟨[.bool true], [], false⟩ := by
  by_cases h1 : 2000 < s.length
  · refine Evt.succ (clashAwake.mono fun m hm => ?_)
    rw [f3_run, f3_eq, ltI_t (by omega), cond_true, hm, step1]; rfl
  by_cases h2 : 2000 < s'.length
  · refine Evt.succ (clashAwake.mono fun m hm => ?_)
    rw [f3_run, f3_eq, ltI_f (by omega), cond_false, ltI_t (by omega), cond_true, hm, step1]; rfl
  obtain ⟨t, u, r1, k1, k2, k3, k4⟩ := find_runs (root := root) (s := s) (s' := s') (i := i) (n := n) (i' := i') (n' := n') (by omega) (by omega) hb hb'
  have r2 := refCheck11_runs (root := root) (s := s) (i := i) (n := n) (P := P) (by omega) hb
  have r3 := refCheck11_runs (root := root) (s := s') (i := i') (n := n') (P := P') (by omega) hb'
  have r4 := is_runs (a := t) (b := u) (by omega) (by omega)
  refine Evt.succ (((r1.and r2).and ((r3.and r4).and clashAwake)).mono fun m hn => ?_)
  obtain ⟨⟨g1, g2⟩, ⟨g3, g4⟩, g5⟩ := hn
  rw [f3_run, f3_eq, ltI_f (by omega), cond_false, ltI_f (by omega), cond_false]
  cases hB : bothV root s i n P s' i' n' P' with
  | false =>
    obtain ⟨rfl, rfl⟩ := k1 hB
    rw [hB] at g1
    unfold bothV at hB
    cases h1 : checkH root s i n P with
    | false =>
      rw [h1] at g2
      repeat (first | rw [step1] | rw [step1f] | rw [step2] | rw [step3] | rw [toBool_b] | rw [toInt_i] | rw [toStr_s] | rw [toBlob_b] | rw [toSlice_s] | rw [fld0] | rw [fld1] | rw [fld2] | rw [fld3] | rw [cond_true] | rw [cond_false] | rw [not_t] | rw [not_f] | rw [g1] | rw [g2] | rw [g5] | rw [eqO_t rfl] | rw [eqS_t rfl])
      rfl
    | true => cases h2 : checkH root s' i' n' P' with
      | false =>
        rw [h1] at g2
        rw [h2] at g3
        repeat (first | rw [step1] | rw [step1f] | rw [step2] | rw [step3] | rw [toBool_b] | rw [toInt_i] | rw [toStr_s] | rw [toBlob_b] | rw [toSlice_s] | rw [fld0] | rw [fld1] | rw [fld2] | rw [fld3] | rw [cond_true] | rw [cond_false] | rw [not_t] | rw [not_f] | rw [g1] | rw [g2] | rw [g3] | rw [g5] | rw [eqO_t rfl] | rw [eqS_t rfl])
        rfl
      | true => cases h3 : eqI i i' with
        | false =>
          rw [h1] at g2
          rw [h2] at g3
          repeat (first | rw [step1] | rw [step1f] | rw [step2] | rw [step3] | rw [toBool_b] | rw [toInt_i] | rw [toStr_s] | rw [toBlob_b] | rw [toSlice_s] | rw [fld0] | rw [fld1] | rw [fld2] | rw [fld3] | rw [cond_true] | rw [cond_false] | rw [not_t] | rw [not_f] | rw [g1] | rw [g2] | rw [g3] | rw [g5] | rw [h3] | rw [eqO_t rfl] | rw [eqS_t rfl])
          rfl
        | true => cases h4 : eqS s s' with
          | true =>
            rw [h1] at g2
            rw [h2] at g3
            repeat (first | rw [step1] | rw [step1f] | rw [step2] | rw [step3] | rw [toBool_b] | rw [toInt_i] | rw [toStr_s] | rw [toBlob_b] | rw [toSlice_s] | rw [fld0] | rw [fld1] | rw [fld2] | rw [fld3] | rw [cond_true] | rw [cond_false] | rw [not_t] | rw [not_f] | rw [g1] | rw [g2] | rw [g3] | rw [g5] | rw [h3] | rw [h4] | rw [eqO_t rfl] | rw [eqS_t rfl])
            rfl
          | false => rw [h1, h2, h3, h4] at hB; cases hB
  | true =>
    have k5 := k2 hB
    rw [hB] at g1
    rw [k5] at g4
    obtain ⟨h1, h2, h3, h4⟩ := bothV_in hB
    rw [h1] at g2
    rw [h2] at g3
    repeat (first | rw [step1] | rw [step1f] | rw [step2] | rw [step3] | rw [toBool_b] | rw [toInt_i] | rw [toStr_s] | rw [toBlob_b] | rw [toSlice_s] | rw [fld0] | rw [fld1] | rw [fld2] | rw [fld3] | rw [cond_true] | rw [cond_false] | rw [not_t] | rw [not_f] | rw [g1] | rw [g2] | rw [g3] | rw [g4] | rw [g5] | rw [eqI_t h3] | rw [eqS_f h4] | rw [eqO_t rfl])
    rfl

theorem clashFinds_sat (xs : List AV) (h : Ty.HasL [.blob 32, .struct [.str, .struct [.int .i64, .int .i64, .slice (.blob 32)]], .struct [.str, .struct [.int .i64, .int .i64, .slice (.blob 32)]]] xs) : ∃ r, r.vals = [.bool true] ∧ Sat Try.prog f3_info 3 xs r := by
  obtain ⟨x, r, rfl, ⟨root, rfl, _⟩, y, r', rfl, ⟨l0, rfl, y0, s0, rfl, ⟨s, rfl, _⟩, y1, s1, rfl, ⟨l1, rfl, z0, t0, rfl, ⟨i, rfl, _⟩, z1, t1, rfl, ⟨n, rfl, _⟩, z2, t2, rfl, ⟨P, rfl, _, _, hx⟩, rfl⟩, rfl⟩, y', r2, rfl, ⟨l0', rfl, y0', s0', rfl, ⟨s', rfl, _⟩, y1', s1', rfl, ⟨l1', rfl, z0', t0', rfl, ⟨i', rfl, _⟩, z1', t1', rfl, ⟨n', rfl, _⟩, z2', t2', rfl, ⟨P', rfl, _, _, hx'⟩, rfl⟩, rfl⟩, rfl⟩ := h
  exact ⟨_, rfl, sat_of_runsX (by kernel_rfl) (clashFinds_runs (blob32_of hx) (blob32_of hx'))⟩

theorem clashOpened_runs {l l' : List AV} {i : Int} (hl : l.length ≤ maxLen) (hl' : l'.length ≤ maxLen) (hs : Short l) (hs' : Short l') : RunsX 4 [.slice l, .slice l', .int i] ⟨[.bool true], [], false⟩ := by
  obtain ⟨b, h0, hm⟩ := much_runs hl
  cases b with
  | true =>
    refine Evt.succ ((hm.and clashAwake).mono fun n hn => ?_)
    rw [f4_run, f4_eq, hn.1, step1, toBool_b, cond_true, hn.2, step1]; rfl
  | false =>
  obtain ⟨b', h0', hm'⟩ := much_runs hl'
  cases b' with
  | true =>
    refine Evt.succ (((hm.and hm').and clashAwake).mono fun n hn => ?_)
    rw [f4_run, f4_eq, hn.1.1, step1, toBool_b, cond_false, hn.1.2, step1, toBool_b, cond_true, hn.2, step1]; rfl
  | false =>
  have hle := h0 rfl
  have hle' := h0' rfl
  by_cases hi : 0 ≤ i ∧ i < l.length ∧ i < l'.length
  · obtain ⟨i0, i1, i2⟩ := hi
    have r1 := refOpen_runs (l := l) (i := i) (by omega) hs
    have r2 := refOpen_runs (l := l') (i := i) (by omega) hs'
    rw [openV_in i0 i1] at r1
    rw [openV_in i0 i2] at r2
    have r3 := refTreeRoot_runs (l := l) (by omega) hs
    have r4 := refTreeRoot_runs (l := l') (by omega) hs'
    have q1 := hs i.toNat (by omega)
    have q2 := hs' i.toNat (by omega)
    obtain ⟨t, u, r5, k1, k2, k3, k4⟩ := find_runs (root := rootV l) (s := (nth l i.toNat).toStr) (s' := (nth l' i.toNat).toStr) (i := i) (n := (l.length : Int)) (i' := i) (n' := (l'.length : Int)) q1 q2 (pathL_blob l i) (pathL_blob l' i)
    have r6 := is_runs (a := t) (b := u) (by omega) (by omega)
    have c1 := opened_check (l := l) (i := i) (by omega) i0 i1
    have c2 := opened_check (l := l') (i := i) (by omega) i0 i2
    have c3 : ¬ rootV l = rootV l' → checkH (rootV l) (nth l' i.toNat).toStr i (l'.length : Int) (pathL l' i) = false := by
      intro hne
      unfold checkH
      rw [opened_told (by omega) i0 i2, eqS_f (fun h => hne h.symm)]
      cases eqI (mayH i (l'.length : Int) (pathL l' i)) 0 <;> rfl
    refine Evt.succ (((((hm.and hm').and clashAwake).and ((r1.and r2).and (r3.and r4))).and (r5.and r6)).mono fun n hn => ?_)
    obtain ⟨⟨⟨⟨g1, g2⟩, g3⟩, ⟨g4, g5⟩, g6, g7⟩, g8, g9⟩ := hn
    rw [f4_run, f4_eq]
    by_cases hr : rootV l = rootV l'
    · by_cases he : (nth l i.toNat).toStr = (nth l' i.toNat).toStr
      · have hB : bothV (rootV l) (nth l i.toNat).toStr i (l.length : Int) (pathL l i) (nth l' i.toNat).toStr i (l'.length : Int) (pathL l' i) = false := by
          unfold bothV
          rw [eqS_t he, not_t, Bool.and_false, Bool.and_false, Bool.and_false]
        rw [hB] at g8
        repeat (first | rw [step1] | rw [step1f] | rw [step2] | rw [step3] | rw [toBool_b] | rw [toInt_i] | rw [toStr_s] | rw [toBlob_b] | rw [toSlice_s] | rw [fld0] | rw [fld1] | rw [fld2] | rw [fld3] | rw [cond_true] | rw [cond_false] | rw [not_t] | rw [not_f] | rw [g1] | rw [g2] | rw [g3] | rw [g4] | rw [g5] | rw [g6] | rw [g7] | rw [g8] | rw [ltI_f (show ¬ i < 0 by omega)] | rw [leI_f (show ¬ (l.length : Int) ≤ i by omega)] | rw [leI_f (show ¬ (l'.length : Int) ≤ i by omega)] | rw [inR_int i0 i1] | rw [inR_int i0 i2] | rw [eqS_t hr] | rw [eqS_t he])
        rfl
      · have hB : bothV (rootV l) (nth l i.toNat).toStr i (l.length : Int) (pathL l i) (nth l' i.toNat).toStr i (l'.length : Int) (pathL l' i) = true := by
          unfold bothV
          rw [← hr] at c2
          rw [eqS_f he, c1, c2, eqI_t rfl]; rfl
        rw [hB] at g8
        rw [k2 hB] at g9
        repeat (first | rw [step1] | rw [step1f] | rw [step2] | rw [step3] | rw [toBool_b] | rw [toInt_i] | rw [toStr_s] | rw [toBlob_b] | rw [toSlice_s] | rw [fld0] | rw [fld1] | rw [fld2] | rw [fld3] | rw [cond_true] | rw [cond_false] | rw [not_t] | rw [not_f] | rw [g1] | rw [g2] | rw [g3] | rw [g4] | rw [g5] | rw [g6] | rw [g7] | rw [g8] | rw [g9] | rw [ltI_f (show ¬ i < 0 by omega)] | rw [leI_f (show ¬ (l.length : Int) ≤ i by omega)] | rw [leI_f (show ¬ (l'.length : Int) ≤ i by omega)] | rw [inR_int i0 i1] | rw [inR_int i0 i2] | rw [eqS_t hr] | rw [eqS_f he])
        rfl
    · have hB : bothV (rootV l) (nth l i.toNat).toStr i (l.length : Int) (pathL l i) (nth l' i.toNat).toStr i (l'.length : Int) (pathL l' i) = false := by
        unfold bothV
        rw [c3 hr, Bool.false_and, Bool.and_false]
      rw [hB] at g8
      repeat (first | rw [step1] | rw [step1f] | rw [step2] | rw [step3] | rw [toBool_b] | rw [toInt_i] | rw [toStr_s] | rw [toBlob_b] | rw [toSlice_s] | rw [fld0] | rw [fld1] | rw [fld2] | rw [fld3] | rw [cond_true] | rw [cond_false] | rw [not_t] | rw [not_f] | rw [g1] | rw [g2] | rw [g3] | rw [g4] | rw [g5] | rw [g6] | rw [g7] | rw [g8] | rw [ltI_f (show ¬ i < 0 by omega)] | rw [leI_f (show ¬ (l.length : Int) ≤ i by omega)] | rw [leI_f (show ¬ (l'.length : Int) ≤ i by omega)] | rw [inR_int i0 i1] | rw [inR_int i0 i2] | rw [eqS_f hr])
      rfl
  · refine Evt.succ (((hm.and hm').and clashAwake).mono fun n hn => ?_)
    obtain ⟨⟨g1, g2⟩, g3⟩ := hn
    rw [f4_run, f4_eq, g1, step1, toBool_b, cond_false, g2, step1, toBool_b, cond_false]
    by_cases c1 : i < 0
    · rw [ltI_t c1, cond_true, g3, step1]; rfl
    rw [ltI_f c1, cond_false]
    by_cases c2 : (l.length : Int) ≤ i
    · rw [leI_t c2, cond_true, g3, step1]; rfl
    rw [leI_f c2, cond_false, leI_t (by omega), cond_true, g3, step1]; rfl

theorem clashOpened_sat (xs : List AV) (h : Ty.HasL [.slice .str, .slice .str, .int .i64] xs) : ∃ r, r.vals = [.bool true] ∧ Sat Try.prog f4_info 4 xs r := by
  obtain ⟨x, r, rfl, ⟨l, rfl, hl, _, hx⟩, x', r', rfl, ⟨l', rfl, hl', _, hx'⟩, y, r2, rfl, ⟨n, rfl, _⟩, rfl⟩ := h
  exact ⟨_, rfl, sat_of_runsX (by kernel_rfl) (clashOpened_runs hl hl' (short_of hx) (short_of hx'))⟩

end Go.Proofs.Ytbpllpdmkhojoaa.Ev
