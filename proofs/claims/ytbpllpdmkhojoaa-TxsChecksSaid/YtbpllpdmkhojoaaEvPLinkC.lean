/- Links: openings of ids; which hold. -/
import Derived.Test.YtbpllpdmkhojoaaEvPLinks
import Derived.Test.YtbpllpdmkhojoaaEvPOpens
import Derived.Test.YtbpllpdmkhojoaaEvPKit
namespace Go.Proofs.Ytbpllpdmkhojoaa.Ev
open Go Go.RowKit

theorem openV_form (l : List AV) (i : Int) : ∃ (a b : Int) (p : List AV) (e : Int), openV l i = [.agg [.int a, .int b, .slice p], .int e] ∧ Blob32 p ∧ p.length ≤ l.length := by
  by_cases h : 0 ≤ i ∧ i < l.length
  · exact ⟨_, _, _, _, openV_in h.1 h.2, pathL_blob _ _, pathV_len _ _ _⟩
  · exact ⟨_, _, _, _, openV_out h, no_blobs, Nat.zero_le _⟩

theorem linkText_runs {a : List UInt8} (h : a.length = 32) : RunsX 44 [.blob a] ⟨[.str ([76] ++ a)], [], false⟩ := by
  refine Evt.succ (.of fun n => ?_)
  rw [f44_run, f44_eq, raw32 h, show Nat.ble (1 + a.length) maxLen = true from Nat.ble_eq_true_of_le (by rw [maxLen_eq]; omega), cond_true]; rfl
theorem refLinkText_runs {a : List UInt8} (h : a.length = 32) : RunsX 45 [.blob a] ⟨[.str ([76] ++ a)], [], false⟩ := by
  refine Evt.succ ((Evt.ge 200).mono fun n hn => ?_)
  obtain ⟨n, rfl⟩ : ∃ j, n = j + 1 := ⟨n - 1, by omega⟩
  rw [f45_run, f45_eq, raw_at n (by omega) h, step1, toStr_s, show Nat.ble (1 + a.length) maxLen = true from Nat.ble_eq_true_of_le (by rw [maxLen_eq]; omega), cond_true]; rfl

def leadsV (root id : List UInt8) (i n : Int) (P : List AV) : Bool := bif leI n 257 then checkH root ([76] ++ id) i n P else false
theorem leads_len {id : List UInt8} (h : id.length = 32) : ([76] ++ id).length ≤ 140737488355328 := by simp; omega
theorem linkCheck_runs {root id : List UInt8} {i n : Int} {P : List AV} (h : id.length = 32) (hb : Blob32 P) : RunsX 46 [.blob root, .blob id, .agg [.int i, .int n, .slice P]] ⟨[.bool (leadsV root id i n P)], [], false⟩ := by
  refine Evt.succ (((linkText_runs h).and (holdCheck_runs (root := root) (i := i) (n := n) (leads_len h) hb)).mono fun m hn => ?_)
  unfold leadsV
  rw [f46_run, f46_eq]
  cases leI n 257
  · rfl
  · rw [cond_true, cond_true, hn.1, step1, toStr_s, hn.2, step1]; rfl
theorem refLeads_runs {root id : List UInt8} {i n : Int} {P : List AV} (h : id.length = 32) (hb : Blob32 P) : RunsX 47 [.blob root, .blob id, .agg [.int i, .int n, .slice P]] ⟨[.bool (leadsV root id i n P)], [], false⟩ := by
  refine Evt.succ (((refLinkText_runs h).and (refCheck11_runs (root := root) (i := i) (n := n) (leads_len h) hb)).mono fun m hn => ?_)
  unfold leadsV
  rw [f47_run, f47_eq]
  cases leI n 257
  · rfl
  · rw [cond_true, cond_true, hn.1, step1, toStr_s, hn.2, step1]; rfl

theorem linkOpen_runs {v : List AV} {i : Int} (hl : v.length ≤ 100000) (hb : Blob32 v) : RunsX 39 [.slice v, .int i] ⟨openV (linkT v) i, [], false⟩ := by
  obtain ⟨a, b, p, e, hf, _⟩ := openV_form (linkT v) i
  have r := open_runs (l := linkT v) (i := i) (by rw [linkT_len]; omega) (linkT_short hb)
  refine Evt.succ (((linkTexts_runs hl hb).and r).mono fun n hn => ?_)
  rw [f39_run, f39_eq, hn.1, step1f, toSlice_s, hn.2, hf, step2]; rfl

/- chapter 21's example -/
def one32 : List UInt8 := [1, 0, 0, 0, 0, 0, 0, 0, 0, 0, 0, 0, 0, 0, 0, 0, 0, 0, 0, 0, 0, 0, 0, 0, 0, 0, 0, 0, 0, 0, 0, 0]
def two32 : List UInt8 := [2, 0, 0, 0, 0, 0, 0, 0, 0, 0, 0, 0, 0, 0, 0, 0, 0, 0, 0, 0, 0, 0, 0, 0, 0, 0, 0, 0, 0, 0, 0, 0]
def exL : List AV := [.blob one32, .blob two32]
theorem exL_blob : Blob32 exL := by
  intro y hy
  simp [exL] at hy
  rcases hy with rfl | rfl
  · exact ⟨_, rfl, rfl⟩
  · exact ⟨_, rfl, rfl⟩
theorem exL_no : leadsV (linkR exL) one32 1 2 (pathL (linkT exL) 1) = false := by decide +kernel

theorem linkAwake : RunsX 38 [] ⟨[.bool true], [], false⟩ := by
  have r1 := linkOpen_runs (v := exL) (i := 1) (by simp [exL]) exL_blob
  have e1 : openV (linkT exL) 1 = [.agg [.int 1, .int 2, .slice (pathL (linkT exL) 1)], .int 0] := openV_in (by omega) (by simp [linkT, exL])
  rw [e1] at r1
  have r2 := linkText_runs (a := one32) rfl
  have r3 := linkRoot_runs (v := exL) (by simp [exL]) exL_blob
  have r4 := linkCheck_runs (root := linkR exL) (id := two32) (i := 1) (n := 2) (P := pathL (linkT exL) 1) rfl (pathL_blob _ _)
  have e4 : leadsV (linkR exL) two32 1 2 (pathL (linkT exL) 1) = true := by
    unfold leadsV
    rw [leI_t (by omega), cond_true]
    exact opened_check (l := linkT exL) (i := 1) (by simp [linkT, exL]) (by omega) (by simp [linkT, exL])
  rw [e4] at r4
  have r5 := linkCheck_runs (root := linkR exL) (id := one32) (i := 1) (n := 2) (P := pathL (linkT exL) 1) rfl (pathL_blob _ _)
  rw [exL_no] at r5
  refine Evt.succ (((r1.and r2).and ((r3.and r4).and r5)).mono fun n hn => ?_)
  obtain ⟨⟨g1, g2⟩, ⟨g3, g4⟩, g5⟩ := hn
  have n0 : nth exL 0 = .blob one32 := rfl
  have n1 : nth exL 1 = .blob two32 := rfl
  have h33 : eqI (([76] ++ one32).length : Int) 33 = true := rfl
  rw [f38_run, f38_eq]
  simp only [exL, one32, two32] at g1 g2 g3 g4 g5 n0 n1 h33
  repeat (first | rw [step1] | rw [step1f] | rw [step2] | rw [step3] | rw [toBool_b] | rw [toInt_i] | rw [toStr_s] | rw [toBlob_b] | rw [toSlice_s] | rw [fld0] | rw [fld1] | rw [fld2] | rw [fld3] | rw [cond_true] | rw [cond_false] | rw [not_t] | rw [not_f] | rw [n0] | rw [n1] | rw [g1] | rw [g2] | rw [g3] | rw [g4] | rw [g5] | rw [h33] | rw [eqI_t (a := 0) (b := 0) rfl])
  rfl

theorem linkRoots_runs {v : List AV} {i : Int} (hb : Blob32 v) : RunsX 8 [.slice v, .int i] ⟨[.bool true], [], false⟩ := by
  by_cases h1 : 300 < v.length
  · refine Evt.succ (linkAwake.mono fun n hn => ?_)
    rw [f8_run, f8_eq, ltI_t (by omega), cond_true, hn, step1]; rfl
  have hl : v.length ≤ 100000 := by omega
  obtain ⟨a, b, p, e, hf, _, hp⟩ := openV_form (linkT v) i
  rw [linkT_len] at hp
  have r1 := linkOpen_runs (i := i) hl hb
  have r2 := refLinkTexts_runs hl hb
  have r3 := refOpen_runs (l := linkT v) (i := i) (by rw [linkT_len]; omega) (linkT_short hb)
  rw [hf] at r1 r3
  have r4 := linkRoot_runs hl hb
  have r5 := refLinkRoot_runs hl hb
  have r6 := refSame_refl (a := a) (b := b) (l := p) (by rw [maxLen_eq]; omega)
  by_cases h0 : v.length = 0
  · refine Evt.succ ((((r1.and r2).and (r3.and r4)).and ((r5.and r6).and linkAwake)).mono fun n hn => ?_)
    obtain ⟨⟨⟨g1, g2⟩, g3, g4⟩, ⟨g5, g6⟩, g7⟩ := hn
    rw [f8_run, f8_eq]
    repeat (first | rw [step1] | rw [step1f] | rw [step2] | rw [step3] | rw [toBool_b] | rw [toInt_i] | rw [toStr_s] | rw [toBlob_b] | rw [toSlice_s] | rw [fld0] | rw [fld1] | rw [fld2] | rw [fld3] | rw [cond_true] | rw [cond_false] | rw [not_t] | rw [not_f] | rw [ltI_f (show ¬ 300 < (v.length : Int) by omega)] | rw [g1] | rw [g2] | rw [g3] | rw [g4] | rw [g5] | rw [g6] | rw [g7] | rw [eqS_t rfl] | rw [eqI_t (a := e) (b := e) rfl] | rw [eqI_t (show (v.length : Int) = 0 by omega)])
    rfl
  · have h32 := blob_at hb (i := 0) (by omega)
    have r7 := linkText_runs h32
    have r8 := refLinkText_runs h32
    refine Evt.succ (((((r1.and r2).and (r3.and r4)).and ((r5.and r6).and linkAwake)).and (r7.and r8)).mono fun n hn => ?_)
    obtain ⟨⟨⟨⟨g1, g2⟩, g3, g4⟩, ⟨g5, g6⟩, g7⟩, g8, g9⟩ := hn
    rw [f8_run, f8_eq]
    repeat (first | rw [step1] | rw [step1f] | rw [step2] | rw [step3] | rw [toBool_b] | rw [toInt_i] | rw [toStr_s] | rw [toBlob_b] | rw [toSlice_s] | rw [fld0] | rw [fld1] | rw [fld2] | rw [fld3] | rw [cond_true] | rw [cond_false] | rw [not_t] | rw [not_f] | rw [ltI_f (show ¬ 300 < (v.length : Int) by omega)] | rw [g1] | rw [g2] | rw [g3] | rw [g4] | rw [g5] | rw [g6] | rw [g8] | rw [g9] | rw [g7] | rw [eqS_t rfl] | rw [eqI_t (a := e) (b := e) rfl] | rw [eqI_f (show ¬ (v.length : Int) = 0 by omega)] | rw [inR_int (i := 0) (n := v.length) (by omega) (by omega)])
    rfl

theorem linkRoots_sat (xs : List AV) (h : Ty.HasL [.slice (.blob 32), .int .i64] xs) : ∃ r, r.vals = [.bool true] ∧ Sat Try.prog f8_info 8 xs r := by
  obtain ⟨x, r, rfl, ⟨l, rfl, hl, _, hx⟩, y, r2, rfl, ⟨n, rfl, _⟩, rfl⟩ := h
  exact ⟨_, rfl, sat_of_runsX (by kernel_rfl) (linkRoots_runs (blob32_of hx))⟩

theorem linkChecks_runs {root id : List UInt8} {i n : Int} {P : List AV} (h : id.length = 32) (hb : Blob32 P) : RunsX 9 [.blob root, .blob id, .agg [.int i, .int n, .slice P]] ⟨[.bool true], [], false⟩ := by
  refine Evt.succ ((((linkCheck_runs (root := root) (i := i) (n := n) h hb).and (refLeads_runs (root := root) (i := i) (n := n) h hb)).and linkAwake).mono fun m hn => ?_)
  obtain ⟨⟨g1, g2⟩, g3⟩ := hn
  rw [f9_run, f9_eq]
  repeat (first | rw [step1] | rw [step1f] | rw [step2] | rw [step3] | rw [toBool_b] | rw [toInt_i] | rw [toStr_s] | rw [toBlob_b] | rw [toSlice_s] | rw [fld0] | rw [fld1] | rw [fld2] | rw [fld3] | rw [cond_true] | rw [cond_false] | rw [not_t] | rw [not_f] | rw [g1] | rw [g2] | rw [g3] | rw [eqO_t rfl])
  rfl

theorem linkChecks_sat (xs : List AV) (h : Ty.HasL [.blob 32, .blob 32, .struct [.int .i64, .int .i64, .slice (.blob 32)]] xs) : ∃ r, r.vals = [.bool true] ∧ Sat Try.prog f9_info 9 xs r := by
  obtain ⟨x, r, rfl, ⟨root, rfl, _⟩, y, r', rfl, ⟨s, rfl, hs⟩, z, r2, rfl, ⟨l0, rfl, y0, s0, rfl, ⟨i, rfl, _⟩, y1, s1, rfl, ⟨n, rfl, _⟩, y2, s2, rfl, ⟨P, rfl, _, _, hx⟩, rfl⟩, rfl⟩ := h
  exact ⟨_, rfl, sat_of_runsX (by kernel_rfl) (linkChecks_runs hs (blob32_of hx))⟩

theorem linkBack_runs {v : List AV} {i : Int} (hb : Blob32 v) : RunsX 10 [.slice v, .int i] ⟨[.bool true], [], false⟩ := by
  by_cases h1 : 300 < v.length
  · refine Evt.succ (linkAwake.mono fun n hn => ?_)
    rw [f10_run, f10_eq, ltI_t (by omega), cond_true, hn, step1]; rfl
  have hl : v.length ≤ 100000 := by omega
  by_cases hi : 0 ≤ i ∧ i < v.length
  · obtain ⟨i0, i1⟩ := hi
    have i2 : i < (linkT v).length := by rw [linkT_len]; exact i1
    have h32 := blob_at hb (i := i.toNat) (by omega)
    have r1 := linkOpen_runs (i := i) hl hb
    rw [openV_in i0 i2, linkT_len] at r1
    have r2 := linkRoot_runs hl hb
    have r3 := linkCheck_runs (root := linkR v) (i := i) (n := (v.length : Int)) h32 (pathL_blob (linkT v) i)
    have e3 : leadsV (linkR v) (nth v i.toNat).toBlob i (v.length : Int) (pathL (linkT v) i) = leI (v.length : Int) 257 := by
      unfold leadsV
      have := opened_check (l := linkT v) (i := i) (by rw [linkT_len]; omega) i0 i2
      have e : (nth (linkT v) i.toNat).toStr = [76] ++ (nth v i.toNat).toBlob := by
        rw [nth_lt (by rw [linkT_len]; omega), nth_lt (by omega)]
        simp only [linkT, List.getElem_map]; rfl
      rw [e, linkT_len] at this
      unfold linkR
      rw [this]
      cases leI (v.length : Int) 257 <;> rfl
    rw [e3] at r3
    refine Evt.succ (((r1.and r2).and (r3.and linkAwake)).mono fun n hn => ?_)
    obtain ⟨⟨g1, g2⟩, g3, g4⟩ := hn
    rw [f10_run, f10_eq]
    repeat (first | rw [step1] | rw [step1f] | rw [step2] | rw [step3] | rw [toBool_b] | rw [toInt_i] | rw [toStr_s] | rw [toBlob_b] | rw [toSlice_s] | rw [fld0] | rw [fld1] | rw [fld2] | rw [fld3] | rw [cond_true] | rw [cond_false] | rw [not_t] | rw [not_f] | rw [ltI_f (show ¬ 300 < (v.length : Int) by omega)] | rw [ltI_f (show ¬ i < 0 by omega)] | rw [leI_f (show ¬ (v.length : Int) ≤ i by omega)] | rw [g1] | rw [g2] | rw [g3] | rw [g4] | rw [eqI_t (a := 0) (b := 0) rfl] | rw [inR_int i0 i1] | rw [eqO_same])
    rfl
  · refine Evt.succ (linkAwake.mono fun n hn => ?_)
    rw [f10_run, f10_eq, ltI_f (by omega), cond_false]
    by_cases h : i < 0
    · rw [ltI_t h, cond_true, hn, step1]; rfl
    · rw [ltI_f h, cond_false, leI_t (by omega), cond_true, hn, step1]; rfl

theorem linkBack_sat (xs : List AV) (h : Ty.HasL [.slice (.blob 32), .int .i64] xs) : ∃ r, r.vals = [.bool true] ∧ Sat Try.prog f10_info 10 xs r := by
  obtain ⟨x, r, rfl, ⟨l, rfl, hl, _, hx⟩, y, r2, rfl, ⟨n, rfl, _⟩, rfl⟩ := h
  exact ⟨_, rfl, sat_of_runsX (by kernel_rfl) (linkBack_runs (blob32_of hx))⟩

end Go.Proofs.Ytbpllpdmkhojoaa.Ev
