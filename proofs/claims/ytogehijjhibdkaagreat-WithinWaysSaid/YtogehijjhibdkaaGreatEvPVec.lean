/- Vectors of blocks: both programs tell them alike. -/
import Derived.Test.YtogehijjhibdkaaGreatEvPLevel
import Derived.Test.YtogehijjhibdkaaGreatEvPJoin
namespace Go.Proofs.YtogehijjhibdkaaGreat.Ev
open Go Go.RowKit

theorem Blob32.blobs {l : List AV} (h : Blob32 l) : Blobs l := by
  intro i hi
  obtain ⟨b, hb, _⟩ := h l[i] (List.getElem_mem hi)
  rw [nth_lt hi, hb]; rfl
theorem nextV_blob {l : List AV} {id : List UInt8} {lv : Int} (h : Blob32 l) (hid : id.length = 32) : Blob32 (nextV l id lv) := by
  unfold nextV
  by_cases h0 : l.length = 0
  · rw [if_pos h0]; exact no_blobs
  · rw [if_neg h0]
    intro y hy
    obtain ⟨i, _, rfl⟩ := List.mem_map.1 hy
    unfold nextAt
    split
    · exact ⟨_, rfl, hid⟩
    · split
      · rename_i h2
        rw [nth_lt h2]; exact h _ (List.getElem_mem h2)
      · rw [nth_lt (show l.length - 1 < l.length by omega)]; exact h _ (List.getElem_mem _)

/-- The vector of the block at a place. -/
def behindV (t : List UInt8) (v : List AV) (b : AV) (i : Nat) : List AV := if i = 0 then [.blob (idA (b.fld 0))] else nextV v (idA (b.fld 0)) (levelV (idA (b.fld 0)) t)
def vecV (t : List UInt8) (l : List AV) : Nat → List AV
  | 0 => []
  | i + 1 => behindV t (vecV t l i) (nth l i) i
theorem vecV_blob (t : List UInt8) (l : List AV) : ∀ i, Blob32 (vecV t l i)
  | 0 => no_blobs
  | i + 1 => by
    simp only [vecV, behindV]
    split
    · intro y hy
      rw [List.mem_singleton] at hy
      exact ⟨_, hy, idA_len _⟩
    · exact nextV_blob (vecV_blob t l i) (idA_len _)
theorem vecV_len (t : List UInt8) (l : List AV) : ∀ i, (vecV t l i).length ≤ 257
  | 0 => by simp [vecV]
  | i + 1 => by
    simp only [vecV, behindV]
    split
    · simp
    · rw [nextV_len]
      have := vecV_len t l i
      have hc := clampV_le (levelV (idA ((nth l i).fld 0)) t)
      split <;> omega
def levsV (t : List UInt8) (l : List AV) : List AV := (List.range l.length).map fun i => .int (if i = 0 then 256 else levelV (idA ((nth l i).fld 0)) t)
theorem levsV_len (t : List UInt8) (l : List AV) : (levsV t l).length = l.length := by simp [levsV]
theorem levsV_nth (t : List UInt8) (l : List AV) {i : Nat} (h : i < l.length) : nth (levsV t l) i = .int (if i = 0 then 256 else levelV (idA ((nth l i).fld 0)) t) := nth_range h
theorem idsV_nth (l : List AV) {i : Nat} (h : i < l.length) : nth (idsV l) i = .blob (idA ((nth l i).fld 0)) := by
  rw [nth_lt (by rw [idsV_len]; exact h), nth_lt h]
  simp [idsV]
def vecsV (t : List UInt8) (l : List AV) (m : Nat) : List AV := (List.range m).map fun i => .slice (vecV t l i)
theorem vecsV_len (t : List UInt8) (l : List AV) (m : Nat) : (vecsV t l m).length = m := by simp [vecsV]
theorem vecsV_succ (t : List UInt8) (l : List AV) (m : Nat) : vecsV t l (m + 1) = vecsV t l m ++ [.slice (vecV t l m)] := by simp [vecsV, List.range_succ]
theorem vecsV_nth (t : List UInt8) (l : List AV) {i m : Nat} (h : i < m) : nth (vecsV t l m) i = .slice (vecV t l i) := nth_range h

def Heads (l : List AV) : Prop := ∀ i, i < l.length → HeadA ((nth l i).fld 0)

theorem chainId_runs {h : Int} {ls ts : List UInt8} {nc : Int} {x : List AV} (H : HeadOk h ls ts nc) : RunsX 44 [.agg [.agg [.int h, .blob ls, .blob ts, .int nc], .slice x]] ⟨[.blob (idV h ls ts nc)], [], false⟩ := by
  refine Evt.succ ((id_runs H).mono fun n hn => ?_)
  rw [f44_run, f44_eq]
  repeat (first | rw [step1] | rw [step1f] | rw [step2] | rw [step3] | rw [toBool_b] | rw [toInt_i] | rw [toStr_s] | rw [toBlob_b] | rw [toSlice_s] | rw [fld0] | rw [fld1] | rw [fld2] | rw [fld3] | rw [cond_true] | rw [cond_false] | rw [not_t] | rw [not_f] | rw [hn])
  rfl
theorem behind_runs {t : List UInt8} {v : List AV} {h : Int} {ls ts : List UInt8} {nc : Int} {x : List AV} (i : Nat) (H : HeadOk h ls ts nc) (ht : t.length = 32) (hv : v.length ≤ 1000) (hb : Blob32 v) :
    RunsX 42 [.blob t, .slice v, .agg [.agg [.int h, .blob ls, .blob ts, .int nc], .slice x], .int i] ⟨[.slice (if i = 0 then [.blob (idV h ls ts nc)] else nextV v (idV h ls ts nc) (levelV (idV h ls ts nc) t))], [], false⟩ := by
  by_cases hi : i = 0
  · refine Evt.succ (((chainId_runs (x := x) H).and (first_runs (id := idV h ls ts nc))).mono fun n hn => ?_)
    rw [if_pos hi, f42_run, f42_eq]
    repeat (first | rw [step1] | rw [step1f] | rw [step2] | rw [step3] | rw [toBool_b] | rw [toInt_i] | rw [toStr_s] | rw [toBlob_b] | rw [toSlice_s] | rw [fld0] | rw [fld1] | rw [fld2] | rw [fld3] | rw [cond_true] | rw [cond_false] | rw [not_t] | rw [not_f] | rw [hn.1] | rw [hn.2] | rw [eqI_t (show (i : Int) = 0 by omega)])
    rfl
  · refine Evt.succ (((chainId_runs (x := x) H).and ((level_runs (idV_len h ls ts nc) ht).and (next_runs (id := idV h ls ts nc) (lv := levelV (idV h ls ts nc) t) hv hb.blobs))).mono fun n hn => ?_)
    obtain ⟨g1, g2, g3⟩ := hn
    rw [if_neg hi, f42_run, f42_eq]
    repeat (first | rw [step1] | rw [step1f] | rw [step2] | rw [step3] | rw [toBool_b] | rw [toInt_i] | rw [toStr_s] | rw [toBlob_b] | rw [toSlice_s] | rw [fld0] | rw [fld1] | rw [fld2] | rw [fld3] | rw [cond_true] | rw [cond_false] | rw [not_t] | rw [not_f] | rw [g1] | rw [g2] | rw [g3] | rw [eqI_f (show ¬ (i : Int) = 0 by omega)])
    rfl

theorem vectors_runs {t : List UInt8} {l : List AV} (ht : t.length = 32) (hl : l.length ≤ 100000) (hh : Heads l) : RunsX 83 [.blob t, .slice l] ⟨[.slice (vecsV t l (l.length + 1))], [], true⟩ := by
  have hall := Evt.all l.length fun i hi => behind_runs (t := t) (v := vecV t l i) (x := ((nth l i).fld 1).toSlice) i (hh i hi) ht (Nat.le_trans (vecV_len t l i) (by omega)) (vecV_blob t l i)
  refine Evt.succ ((hall.and (Evt.ge (l.length + 1))).mono fun n hn => ?_)
  have key : ∀ (j k i : Nat), i + j = l.length → j < k → f83_l0 (runE G ext n) n k (vecsV t l (i + 1)) l (l.length : Int) (i : Int) t = some ⟨[.slice (vecsV t l (l.length + 1))], [], true⟩ := by
    intro j
    induction j with
    | zero =>
      intro k i hi hk
      obtain ⟨k, rfl⟩ : ∃ j, k = j + 1 := ⟨k - 1, by omega⟩
      rw [f83_l0_eq, ltI_f (by omega), cond_false, show i = l.length by omega]; rfl
    | succ j ih =>
      intro k i hi hk
      obtain ⟨k, rfl⟩ : ∃ j, k = j + 1 := ⟨k - 1, by omega⟩
      have ih' := ih k (i + 1) (by omega) (by omega)
      rw [show ((i + 1 : Nat) : Int) = (i : Int) + 1 by omega, vecsV_succ _ _ (i + 1)] at ih'
      rw [f83_l0_eq, ltI_t (by omega), cond_true, inR_nat (by omega), cond_true, inR_nat (by rw [vecsV_len]; omega), cond_true, Int.toNat_natCast, vecsV_nth _ _ (by omega), toSlice_s, hn.1 i (by omega), step1, toSlice_s, vecsV_len, show Nat.ble ((i + 1 + 1) * 24) 140737488355328 = true from Nat.ble_eq_true_of_le (by omega), cond_true, w64 (by omega) (by omega)]
      exact ih'
  rw [f83_run, f83_eq]
  exact key l.length n 0 (by omega) (by omega)

/- the reference's -/
end Go.Proofs.YtogehijjhibdkaaGreat.Ev
