/- Links: openings of ids; which hold. -/
import Derived.Test.YtogehijjhibdkaaGreatEvPLinks
import Derived.Test.YtogehijjhibdkaaGreatEvPOpens
import Derived.Test.YtogehijjhibdkaaGreatEvPKit
namespace Go.Proofs.YtogehijjhibdkaaGreat.Ev
open Go Go.RowKit

theorem openV_form (l : List AV) (i : Int) : ∃ (a b : Int) (p : List AV) (e : Int), openV l i = [.agg [.int a, .int b, .slice p], .int e] ∧ Blob32 p ∧ p.length ≤ l.length := by
  by_cases h : 0 ≤ i ∧ i < l.length
  · exact ⟨_, _, _, _, openV_in h.1 h.2, pathL_blob _ _, pathV_len _ _ _⟩
  · exact ⟨_, _, _, _, openV_out h, no_blobs, Nat.zero_le _⟩

theorem linkText_runs {a : List UInt8} (h : a.length = 32) : RunsX 149 [.blob a] ⟨[.str ([76] ++ a)], [], false⟩ := by
  refine Evt.succ (.of fun n => ?_)
  rw [f149_run, f149_eq, raw32 h, show Nat.ble (1 + a.length) maxLen = true from Nat.ble_eq_true_of_le (by rw [maxLen_eq]; omega), cond_true]; rfl
def leadsV (root id : List UInt8) (i n : Int) (P : List AV) : Bool := bif leI n 257 then checkH root ([76] ++ id) i n P else false
theorem leads_len {id : List UInt8} (h : id.length = 32) : ([76] ++ id).length ≤ 140737488355328 := by simp; omega
theorem linkCheck_runs {root id : List UInt8} {i n : Int} {P : List AV} (h : id.length = 32) (hb : Blob32 P) : RunsX 136 [.blob root, .blob id, .agg [.int i, .int n, .slice P]] ⟨[.bool (leadsV root id i n P)], [], false⟩ := by
  refine Evt.succ (((linkText_runs h).and (holdCheck_runs (root := root) (i := i) (n := n) (leads_len h) hb)).mono fun m hn => ?_)
  unfold leadsV
  rw [f136_run, f136_eq]
  cases leI n 257
  · rfl
  · rw [cond_true, cond_true, hn.1, step1, toStr_s, hn.2, step1]; rfl
theorem linkOpen_runs {v : List AV} {i : Int} (hl : v.length ≤ 100000) (hb : Blob32 v) : RunsX 85 [.slice v, .int i] ⟨openV (linkT v) i, [], false⟩ := by
  obtain ⟨a, b, p, e, hf, _⟩ := openV_form (linkT v) i
  have r := open_runs (l := linkT v) (i := i) (by rw [linkT_len]; omega) (linkT_short hb)
  refine Evt.succ (((linkTexts_runs hl hb).and r).mono fun n hn => ?_)
  rw [f85_run, f85_eq, hn.1, step1f, toSlice_s, hn.2, hf, step2]; rfl

/- chapter 21's example -/
def one32 : List UInt8 := [1, 0, 0, 0, 0, 0, 0, 0, 0, 0, 0, 0, 0, 0, 0, 0, 0, 0, 0, 0, 0, 0, 0, 0, 0, 0, 0, 0, 0, 0, 0, 0]
def two32 : List UInt8 := [2, 0, 0, 0, 0, 0, 0, 0, 0, 0, 0, 0, 0, 0, 0, 0, 0, 0, 0, 0, 0, 0, 0, 0, 0, 0, 0, 0, 0, 0, 0, 0]
def exL : List AV := [.blob one32, .blob two32]
theorem exL_blob : Blob32 exL := by
  intro y hy
  simp [exL] at hy
  rcases hy with rfl | rfl
  · exact ⟨_, rfl, rfl⟩
  · exact ⟨_, rfl, rfl⟩
theorem exL_no : leadsV (linkR exL) one32 1 2 (pathL (linkT exL) 1) = false := by decide +kernel

end Go.Proofs.YtogehijjhibdkaaGreat.Ev
