/- Transactions: openings; which hold. -/
import Derived.Test.YtbpllpdmkhojoaaEvPTxs
import Derived.Test.YtbpllpdmkhojoaaEvPLinkC
namespace Go.Proofs.Ytbpllpdmkhojoaa.Ev
open Go Go.RowKit

def txOpenV (l : List AV) (i : Int) : List AV := bif eqI (mayV l) 0 then openV (txT l) i else [.agg [.int 0, .int 0, .slice []], .int (mayV l)]
theorem txOpenV_form (l : List AV) (i : Int) : ∃ (a b : Int) (p : List AV) (e : Int), txOpenV l i = [.agg [.int a, .int b, .slice p], .int e] ∧ Blob32 p ∧ p.length ≤ l.length := by
  unfold txOpenV
  cases eqI (mayV l) 0
  · exact ⟨_, _, _, _, rfl, no_blobs, Nat.zero_le _⟩
  · have := openV_form (txT l) i
    rwa [txT_len] at this
theorem txOpen_runs {l : List AV} {i : Int} (hl : l.length ≤ 100000) (hs : Shorter l) : RunsX 50 [.slice l, .int i] ⟨txOpenV l i, [], false⟩ := by
  have r1 := txMay_runs hl
  unfold txOpenV
  by_cases hm : mayV l = 0
  · obtain ⟨a, b, p, e, hf, _⟩ := openV_form (txT l) i
    have r := open_runs (l := txT l) (i := i) (by rw [txT_len]; omega) (txT_short hs)
    rw [eqI_t hm, cond_true]
    refine Evt.succ ((r1.and ((txTexts_runs hl hs).and r)).mono fun n hn => ?_)
    obtain ⟨g1, g2, g3⟩ := hn
    rw [hf] at g3 ⊢
    rw [f50_run, f50_eq]
    repeat (first | rw [step1] | rw [step1f] | rw [step2] | rw [step3] | rw [toBool_b] | rw [toInt_i] | rw [toStr_s] | rw [toBlob_b] | rw [toSlice_s] | rw [fld0] | rw [fld1] | rw [fld2] | rw [fld3] | rw [cond_true] | rw [cond_false] | rw [not_t] | rw [not_f] | rw [g1] | rw [g2] | rw [g3] | rw [eqI_t hm])
    rfl
  · rw [eqI_f hm, cond_false]
    refine Evt.succ (r1.mono fun n hn => ?_)
    rw [f50_run, f50_eq]
    repeat (first | rw [step1] | rw [step1f] | rw [step2] | rw [step3] | rw [toBool_b] | rw [toInt_i] | rw [toStr_s] | rw [toBlob_b] | rw [toSlice_s] | rw [fld0] | rw [fld1] | rw [fld2] | rw [fld3] | rw [cond_true] | rw [cond_false] | rw [not_t] | rw [not_f] | rw [hn] | rw [eqI_f hm])
    rfl
theorem refTxOpen_runs {l : List AV} {i : Int} (hl : l.length ≤ 100000) (hs : Shorter l) : RunsX 51 [.slice l, .int i] ⟨txOpenV l i, [], false⟩ := by
  have r1 := refTxMay_runs hl
  unfold txOpenV
  by_cases hm : mayV l = 0
  · obtain ⟨a, b, p, e, hf, _⟩ := openV_form (txT l) i
    have r := refOpen_runs (l := txT l) (i := i) (by rw [txT_len]; omega) (txT_short hs)
    rw [eqI_t hm, cond_true]
    refine Evt.succ ((r1.and ((refTxTexts_runs hl hs).and r)).mono fun n hn => ?_)
    obtain ⟨g1, g2, g3⟩ := hn
    rw [hf] at g3 ⊢
    rw [f51_run, f51_eq]
    repeat (first | rw [step1] | rw [step1f] | rw [step2] | rw [step3] | rw [toBool_b] | rw [toInt_i] | rw [toStr_s] | rw [toBlob_b] | rw [toSlice_s] | rw [fld0] | rw [fld1] | rw [fld2] | rw [fld3] | rw [cond_true] | rw [cond_false] | rw [not_t] | rw [not_f] | rw [g1] | rw [g2] | rw [g3] | rw [eqI_t hm])
    rfl
  · rw [eqI_f hm, cond_false]
    refine Evt.succ (r1.mono fun n hn => ?_)
    rw [f51_run, f51_eq]
    repeat (first | rw [step1] | rw [step1f] | rw [step2] | rw [step3] | rw [toBool_b] | rw [toInt_i] | rw [toStr_s] | rw [toBlob_b] | rw [toSlice_s] | rw [fld0] | rw [fld1] | rw [fld2] | rw [fld3] | rw [cond_true] | rw [cond_false] | rw [not_t] | rw [not_f] | rw [hn] | rw [eqI_f hm])
    rfl

theorem txText_runs {s : List UInt8} (h : s.length ≤ 140737488355328) : RunsX 58 [.str s] ⟨[.str ([84] ++ s)], [], false⟩ := by
  refine Evt.succ (.of fun n => ?_)
  rw [f58_run, f58_eq, show Nat.ble (1 + s.length) maxLen = true from Nat.ble_eq_true_of_le (by rw [maxLen_eq]; omega), cond_true]; rfl

def txChkV (root s : List UInt8) (i n : Int) (P : List AV) : Bool := bif leI n 1024 then (bif leI (s.length : Int) 4096 then checkH root ([84] ++ s) i n P else false) else false
theorem txCheck_runs {root s : List UInt8} {i n : Int} {P : List AV} (hs : s.length ≤ 140737488351232) (hb : Blob32 P) : RunsX 56 [.blob root, .str s, .agg [.int i, .int n, .slice P]] ⟨[.bool (txChkV root s i n P)], [], false⟩ := by
  refine Evt.succ (((txText_runs (s := s) (by omega)).and (holdCheck_runs (root := root) (s := [84] ++ s) (i := i) (n := n) (by simp; omega) hb)).mono fun m hn => ?_)
  unfold txChkV
  rw [f56_run, f56_eq]
  cases leI n 1024
  · rfl
  cases leI (s.length : Int) 4096
  · rfl
  · rw [cond_true, cond_true, cond_true, cond_true, hn.1, step1, toStr_s, hn.2, step1]; rfl
theorem refTxCheck_runs {root s : List UInt8} {i n : Int} {P : List AV} (hs : s.length ≤ 140737488351232) (hb : Blob32 P) : RunsX 57 [.blob root, .str s, .agg [.int i, .int n, .slice P]] ⟨[.bool (txChkV root s i n P)], [], false⟩ := by
  refine Evt.succ ((refCheck11_runs (root := root) (s := [84] ++ s) (i := i) (n := n) (by simp; omega) hb).mono fun m hn => ?_)
  unfold txChkV
  rw [f57_run, f57_eq]
  cases leI n 1024
  · rfl
  cases leI (s.length : Int) 4096
  · rfl
  · rw [cond_true, cond_true, cond_true, cond_true, show Nat.ble (1 + s.length) maxLen = true from Nat.ble_eq_true_of_le (by rw [maxLen_eq]; omega), cond_true, hn, step1]; rfl

/- what may be has short texts -/
theorem bigB_at {l : List AV} : ∀ (j i k : Nat), bigB l j i = false → i ≤ k → k < i + j → (nth l k).toStr.length ≤ 4096
  | 0, i, k, _, h1, h2 => by omega
  | j + 1, i, k, h, h1, h2 => by
    simp only [bigB, Bool.or_eq_false_iff] at h
    by_cases hk : k = i
    · subst hk
      have := of_decide_eq_false h.1
      omega
    · exact bigB_at j (i + 1) k h.2 (by omega) (by omega)
theorem mayV_in {l : List AV} (h : mayV l = 0) : l.length ≤ 1024 ∧ ∀ k, k < l.length → (nth l k).toStr.length ≤ 4096 := by
  unfold mayV at h
  by_cases h1 : (1024 : Int) < (l.length : Int)
  · rw [ltI_t h1, cond_true] at h; cases h
  · rw [ltI_f h1, cond_false] at h
    cases hb : bigB l l.length 0 with
    | true => rw [hb, cond_true] at h; cases h
    | false => exact ⟨by omega, fun k hk => bigB_at l.length 0 k hb (by omega) (by omega)⟩
theorem txT_at {l : List AV} {i : Nat} (h : i < l.length) : (nth (txT l) i).toStr = [84] ++ (nth l i).toStr := by
  rw [nth_lt (by rw [txT_len]; exact h), nth_lt h]
  simp only [txT, List.getElem_map]; rfl
theorem txOpened {l : List AV} {i : Int} (h0 : 0 ≤ i) (h1 : i < l.length) (h : mayV l = 0) : txOpenV l i = [.agg [.int i, .int (l.length : Int), .slice (pathL (txT l) i)], .int 0] ∧ txChkV (txR l) (nth l i.toNat).toStr i (l.length : Int) (pathL (txT l) i) = true := by
  obtain ⟨k1, k2⟩ := mayV_in h
  have i2 : i < (txT l).length := by rw [txT_len]; exact h1
  refine ⟨?_, ?_⟩
  · unfold txOpenV
    rw [eqI_t h, cond_true, openV_in h0 i2, txT_len]
  · unfold txChkV
    have := opened_check (l := txT l) (i := i) (by rw [txT_len]; omega) h0 i2
    rw [txT_at (by omega), txT_len] at this
    have k3 := k2 i.toNat (by omega)
    rw [leI_t (by omega), leI_t (by omega), cond_true, cond_true]
    exact this

/- chapter 22's example -/
def exT : List AV := [.str [97], .str [98]]
theorem exT_short : Shorter exT := by
  intro i hi
  match i, hi with
  | 0, _ => exact (by decide : 1 ≤ 140737488351232)
  | 1, _ => exact (by decide : 1 ≤ 140737488351232)
theorem txAwake : RunsX 49 [] ⟨[.bool true], [], false⟩ := by
  have hm : mayV exT = 0 := by decide
  obtain ⟨e1, e2⟩ := txOpened (l := exT) (i := 1) (by omega) (by simp [exT]) hm
  have r1 := txOpen_runs (l := exT) (i := 1) (by simp [exT]) exT_short
  rw [e1] at r1
  have r2 := txRoot_runs (l := []) (by simp) (fun i hi => by cases hi)
  have r3 := linkRoot_runs (v := []) (by simp) no_blobs
  have r4 := txRoot_runs (l := exT) (by simp [exT]) exT_short
  have r5 := txCheck_runs (root := txR exT) (s := [98]) (i := 1) (n := 2) (P := pathL (txT exT) 1) (by simp) (pathL_blob _ _)
  have e3 : txChkV (txR exT) [98] 1 2 (pathL (txT exT) 1) = true := e2
  rw [e3] at r5
  have r6 := txText_runs (s := [97]) (by simp)
  have e4 : linkR [] = txR [] := rfl
  rw [e4] at r3
  refine Evt.succ ((((r1.and r2).and (r3.and r4)).and (r5.and r6)).mono fun n hn => ?_)
  obtain ⟨⟨⟨g1, g2⟩, g3, g4⟩, g5, g6⟩ := hn
  unfold exT at g1 g4 g5
  have e5 : (([AV.str [97], .str [98]] : List AV).length : Int) = 2 := rfl
  rw [f49_run, f49_eq]
  repeat (first | rw [step1] | rw [step1f] | rw [step2] | rw [step3] | rw [toBool_b] | rw [toInt_i] | rw [toStr_s] | rw [toBlob_b] | rw [toSlice_s] | rw [fld0] | rw [fld1] | rw [fld2] | rw [fld3] | rw [cond_true] | rw [cond_false] | rw [not_t] | rw [not_f] | rw [g1] | rw [g2] | rw [g3] | rw [g4] | rw [e5] | rw [g5] | rw [g6] | rw [eqS_t rfl] | rw [eqI_t (a := 0) (b := 0) rfl])
  rfl

/- too much -/
theorem much22_l0 (run : Run) (n : Nat) (l : List AV) (hl : l.length ≤ maxLen) : ∀ (j k i : Nat) (x : Int), 1101 - i = j → i ≤ l.length → j < k → ∃ b, (b = false → l.length ≤ 1050 ∧ (60 < l.length → 1024 < l.length)) ∧ f48_l0 run n k l x (i : Int) = some ⟨[.bool b], [], false⟩ := by
  rw [maxLen_eq] at hl
  have fin : ∀ x : Int, ∃ b, (b = false → l.length ≤ 1050 ∧ (60 < l.length → 1024 < l.length)) ∧ (bif ltI 60 (l.length : Int) then bif leI (l.length : Int) 1024 then some ⟨[.bool true], [], false⟩ else bif ltI 1050 (l.length : Int) then some ⟨[.bool true], [], false⟩ else some ⟨[.bool (ltI 6000 x)], [], false⟩ else bif ltI 1050 (l.length : Int) then some ⟨[.bool true], [], false⟩ else some ⟨[.bool (ltI 6000 x)], [], false⟩) = some (⟨[.bool b], [], false⟩ : Res) := by
    intro x
    by_cases h : 60 < (l.length : Int)
    · by_cases h2 : (l.length : Int) ≤ 1024
      · exact ⟨true, (fun h => by cases h), by rw [ltI_t h, leI_t h2]; rfl⟩
      · by_cases h3 : 1050 < (l.length : Int)
        · exact ⟨true, (fun h => by cases h), by rw [ltI_t h, leI_f h2, ltI_t h3]; rfl⟩
        · exact ⟨ltI 6000 x, (fun _ => by omega), by rw [ltI_t h, leI_f h2, ltI_f h3]; rfl⟩
    · exact ⟨ltI 6000 x, (fun _ => by omega), by rw [ltI_f h, ltI_f (show ¬ 1050 < (l.length : Int) by omega)]; rfl⟩
  intro j
  induction j with
  | zero =>
    intro k i x hi _ hk
    obtain ⟨k, rfl⟩ : ∃ j, k = j + 1 := ⟨k - 1, by omega⟩
    rw [f48_l0_eq, ltI_f (a := (i : Int)) (b := 1100) (by omega)]
    cases ltI (i : Int) l.length
    · exact fin x
    · exact fin x
  | succ j ih =>
    intro k i x hi hil hk
    obtain ⟨k, rfl⟩ : ∃ j, k = j + 1 := ⟨k - 1, by omega⟩
    rw [f48_l0_eq]
    by_cases h : i < l.length
    · by_cases h2 : (i : Int) < 1100
      · rw [ltI_t (by omega), ltI_t h2, cond_true, cond_true, inR_nat h, cond_true, w64 (x := (i : Int) + 1) (by omega) (by omega)]
        have := ih k (i + 1) (mn2 (IntKind.wrap .i64 (IntKind.wrap .i64 (x + 1) + (((nth l (Int.toNat i)).toStr).length : Int))) 1048576) (by omega) (by omega) (by omega)
        rw [show ((i + 1 : Nat) : Int) = (i : Int) + 1 by omega] at this
        exact this
      · rw [ltI_t (a := (i : Int)) (b := l.length) (by omega), cond_true, ltI_f h2, cond_false]
        exact fin x
    · rw [ltI_f (by omega), cond_false]
      exact fin x
theorem much22_runs {l : List AV} (hl : l.length ≤ maxLen) : ∃ b, (b = false → l.length ≤ 1050 ∧ (60 < l.length → 1024 < l.length)) ∧ RunsX 48 [.slice l] ⟨[.bool b], [], false⟩ := by
  obtain ⟨b, h0, h⟩ := much22_l0 (runE G ext 2000) 2000 l hl 1101 2000 0 0 rfl (by omega) (by omega)
  exact ⟨b, h0, RunsX.of_eval 2001 (by rw [f48_run, f48_eq]; exact h)⟩

theorem txsRoots_runs {l : List AV} {i : Int} (hl : l.length ≤ maxLen) (hs : Shorter l) : RunsX 12 [.slice l, .int i] ⟨[.bool true], [], false⟩ := by
  obtain ⟨b, h0, hm⟩ := much22_runs hl
  cases b with
  | true =>
    refine Evt.succ ((hm.and txAwake).mono fun n hn => ?_)
    rw [f12_run, f12_eq, hn.1, step1, toBool_b, cond_true, hn.2, step1]; rfl
  | false =>
  obtain ⟨k1, k2⟩ := h0 rfl
  have hle : l.length ≤ 100000 := by omega
  obtain ⟨a, b, p, e, hf, _, hp⟩ := txOpenV_form l i
  have r1 := txOpen_runs (i := i) hle hs
  have r2 := refTxOpen_runs (i := i) hle hs
  rw [hf] at r1 r2
  have r3 := txMay_runs hle
  have r4 := refTxMay_runs hle
  have r5 := refSame_refl (a := a) (b := b) (l := p) (by rw [maxLen_eq]; omega)
  have r6 := txRoot_runs hle hs
  have r7 := refTxRoot_runs hle hs
  refine Evt.succ (((((hm.and txAwake).and (r1.and r2)).and ((r3.and r4).and (r5.and r6))).and r7).mono fun n hn => ?_)
  obtain ⟨⟨⟨⟨g1, g2⟩, g3, g4⟩, ⟨g5, g6⟩, g7, g8⟩, g9⟩ := hn
  rw [f12_run, f12_eq]
  by_cases h : 60 < (l.length : Int)
  · repeat (first | rw [step1] | rw [step1f] | rw [step2] | rw [step3] | rw [toBool_b] | rw [toInt_i] | rw [toStr_s] | rw [toBlob_b] | rw [toSlice_s] | rw [fld0] | rw [fld1] | rw [fld2] | rw [fld3] | rw [cond_true] | rw [cond_false] | rw [not_t] | rw [not_f] | rw [g1] | rw [g3] | rw [g4] | rw [g5] | rw [g6] | rw [g7] | rw [ltI_t h] | rw [g2] | rw [eqI_t (a := mayV l) (b := mayV l) rfl] | rw [eqI_t (a := e) (b := e) rfl])
    rfl
  · repeat (first | rw [step1] | rw [step1f] | rw [step2] | rw [step3] | rw [toBool_b] | rw [toInt_i] | rw [toStr_s] | rw [toBlob_b] | rw [toSlice_s] | rw [fld0] | rw [fld1] | rw [fld2] | rw [fld3] | rw [cond_true] | rw [cond_false] | rw [not_t] | rw [not_f] | rw [g1] | rw [g3] | rw [g4] | rw [g5] | rw [g6] | rw [g7] | rw [ltI_f h] | rw [g8] | rw [g9] | rw [g2] | rw [eqI_t (a := mayV l) (b := mayV l) rfl] | rw [eqI_t (a := e) (b := e) rfl] | rw [eqS_t rfl])
    rfl

theorem txsRoots_sat (xs : List AV) (h : Ty.HasL [.slice .str, .int .i64] xs) : ∃ r, r.vals = [.bool true] ∧ Sat Try.prog f12_info 12 xs r := by
  obtain ⟨x, r, rfl, ⟨l, rfl, hl, _, hx⟩, y, r2, rfl, ⟨n, rfl, _⟩, rfl⟩ := h
  exact ⟨_, rfl, sat_of_runsX (by kernel_rfl) (txsRoots_runs hl (shorter_of hx))⟩

theorem txsChecks_runs {root s : List UInt8} {i n : Int} {P : List AV} (hb : Blob32 P) : RunsX 13 [.blob root, .str s, .agg [.int i, .int n, .slice P]] ⟨[.bool true], [], false⟩ := by
  by_cases h1 : 5000 < s.length
  · refine Evt.succ (txAwake.mono fun n hn => ?_)
    rw [f13_run, f13_eq, ltI_t (by omega), cond_true, hn, step1]; rfl
  · refine Evt.succ ((((txCheck_runs (root := root) (s := s) (i := i) (n := n) (by omega) hb).and (refTxCheck_runs (root := root) (s := s) (i := i) (n := n) (by omega) hb)).and txAwake).mono fun m hn => ?_)
    obtain ⟨⟨g1, g2⟩, g3⟩ := hn
    rw [f13_run, f13_eq]
    repeat (first | rw [step1] | rw [step1f] | rw [step2] | rw [step3] | rw [toBool_b] | rw [toInt_i] | rw [toStr_s] | rw [toBlob_b] | rw [toSlice_s] | rw [fld0] | rw [fld1] | rw [fld2] | rw [fld3] | rw [cond_true] | rw [cond_false] | rw [not_t] | rw [not_f] | rw [ltI_f (show ¬ 5000 < (s.length : Int) by omega)] | rw [g1] | rw [g2] | rw [g3] | rw [eqO_t rfl])
    rfl

theorem txsChecks_sat (xs : List AV) (h : Ty.HasL [.blob 32, .str, .struct [.int .i64, .int .i64, .slice (.blob 32)]] xs) : ∃ r, r.vals = [.bool true] ∧ Sat Try.prog f13_info 13 xs r := by
  obtain ⟨x, r, rfl, ⟨root, rfl, _⟩, y, r', rfl, ⟨s, rfl, hs⟩, z, r2, rfl, ⟨l0, rfl, y0, s0, rfl, ⟨i, rfl, _⟩, y1, s1, rfl, ⟨n, rfl, _⟩, y2, s2, rfl, ⟨P, rfl, _, _, hx⟩, rfl⟩, rfl⟩ := h
  exact ⟨_, rfl, sat_of_runsX (by kernel_rfl) (txsChecks_runs (blob32_of hx))⟩

theorem txsApart_runs {l : List AV} {i : Int} {id : List UInt8} (hl : l.length ≤ maxLen) (hs : Shorter l) (hid : id.length = 32) : RunsX 14 [.slice l, .int i, .blob id] ⟨[.bool true], [], false⟩ := by
  obtain ⟨b, h0, hm⟩ := much22_runs hl
  cases b with
  | true =>
    refine Evt.succ ((hm.and txAwake).mono fun n hn => ?_)
    rw [f14_run, f14_eq, hn.1, step1, toBool_b, cond_true, hn.2, step1]; rfl
  | false =>
  obtain ⟨k1, k2⟩ := h0 rfl
  have hle : l.length ≤ 100000 := by omega
  by_cases h60 : 60 < (l.length : Int)
  · refine Evt.succ ((hm.and txAwake).mono fun n hn => ?_)
    rw [f14_run, f14_eq]
    repeat (first | rw [step1] | rw [step1f] | rw [step2] | rw [step3] | rw [toBool_b] | rw [toInt_i] | rw [toStr_s] | rw [toBlob_b] | rw [toSlice_s] | rw [fld0] | rw [fld1] | rw [fld2] | rw [fld3] | rw [cond_true] | rw [cond_false] | rw [not_t] | rw [not_f] | rw [hn.1] | rw [hn.2] | rw [ltI_t h60])
    rfl
  by_cases hi : 0 ≤ i ∧ i < l.length
  · obtain ⟨i0, i1⟩ := hi
    have r1 := txOpen_runs (i := i) hle hs
    have r2 := txMay_runs hle
    by_cases hz : mayV l = 0
    · obtain ⟨e1, e2⟩ := txOpened i0 i1 hz
      rw [e1] at r1
      have q := hs i.toNat (by omega)
      have r3 := txText_runs (s := (nth l i.toNat).toStr) (by omega)
      have r4 := linkText_runs hid
      have r5 := txRoot_runs hle hs
      have r6 := txCheck_runs (root := txR l) (s := (nth l i.toNat).toStr) (i := i) (n := (l.length : Int)) q (pathL_blob (txT l) i)
      rw [e2] at r6
      have e3 : eqS ([84] ++ (nth l i.toNat).toStr) ([76] ++ id) = false := eqS_f (fun h => by simp at h)
      refine Evt.succ ((((hm.and txAwake).and (r1.and r3)).and ((r4.and r5).and r6)).mono fun n hn => ?_)
      obtain ⟨⟨⟨g1, g2⟩, g3, g4⟩, ⟨g5, g6⟩, g7⟩ := hn
      rw [f14_run, f14_eq]
      repeat (first | rw [step1] | rw [step1f] | rw [step2] | rw [step3] | rw [toBool_b] | rw [toInt_i] | rw [toStr_s] | rw [toBlob_b] | rw [toSlice_s] | rw [fld0] | rw [fld1] | rw [fld2] | rw [fld3] | rw [cond_true] | rw [cond_false] | rw [not_t] | rw [not_f] | rw [g1] | rw [ltI_f h60] | rw [ltI_f (show ¬ i < 0 by omega)] | rw [leI_f (show ¬ (l.length : Int) ≤ i by omega)] | rw [g3] | rw [g4] | rw [g5] | rw [g6] | rw [g7] | rw [g2] | rw [e3] | rw [eqI_t (a := 0) (b := 0) rfl] | rw [inR_int i0 i1])
      rfl
    · have e1 : txOpenV l i = [.agg [.int 0, .int 0, .slice []], .int (mayV l)] := by
        unfold txOpenV
        rw [eqI_f hz, cond_false]
      rw [e1] at r1
      refine Evt.succ (((hm.and txAwake).and (r1.and r2)).mono fun n hn => ?_)
      obtain ⟨⟨g1, g2⟩, g3, g4⟩ := hn
      rw [f14_run, f14_eq]
      repeat (first | rw [step1] | rw [step1f] | rw [step2] | rw [step3] | rw [toBool_b] | rw [toInt_i] | rw [toStr_s] | rw [toBlob_b] | rw [toSlice_s] | rw [fld0] | rw [fld1] | rw [fld2] | rw [fld3] | rw [cond_true] | rw [cond_false] | rw [not_t] | rw [not_f] | rw [g1] | rw [ltI_f h60] | rw [ltI_f (show ¬ i < 0 by omega)] | rw [leI_f (show ¬ (l.length : Int) ≤ i by omega)] | rw [g3] | rw [g4] | rw [g2] | rw [eqI_f hz])
      rfl
  · refine Evt.succ ((hm.and txAwake).mono fun n hn => ?_)
    rw [f14_run, f14_eq]
    by_cases h : i < 0
    · repeat (first | rw [step1] | rw [step1f] | rw [step2] | rw [step3] | rw [toBool_b] | rw [toInt_i] | rw [toStr_s] | rw [toBlob_b] | rw [toSlice_s] | rw [fld0] | rw [fld1] | rw [fld2] | rw [fld3] | rw [cond_true] | rw [cond_false] | rw [not_t] | rw [not_f] | rw [hn.1] | rw [hn.2] | rw [ltI_f h60] | rw [ltI_t h])
      rfl
    · repeat (first | rw [step1] | rw [step1f] | rw [step2] | rw [step3] | rw [toBool_b] | rw [toInt_i] | rw [toStr_s] | rw [toBlob_b] | rw [toSlice_s] | rw [fld0] | rw [fld1] | rw [fld2] | rw [fld3] | rw [cond_true] | rw [cond_false] | rw [not_t] | rw [not_f] | rw [hn.1] | rw [hn.2] | rw [ltI_f h60] | rw [ltI_f h] | rw [leI_t (show (l.length : Int) ≤ i by omega)])
      rfl

theorem txsApart_sat (xs : List AV) (h : Ty.HasL [.slice .str, .int .i64, .blob 32] xs) : ∃ r, r.vals = [.bool true] ∧ Sat Try.prog f14_info 14 xs r := by
  obtain ⟨x, r, rfl, ⟨l, rfl, hl, _, hx⟩, y, r2, rfl, ⟨n, rfl, _⟩, z, r3, rfl, ⟨id, rfl, hid⟩, rfl⟩ := h
  exact ⟨_, rfl, sat_of_runsX (by kernel_rfl) (txsApart_runs hl (shorter_of hx) hid)⟩

end Go.Proofs.Ytbpllpdmkhojoaa.Ev
