import Derived.Test.YteiahdlklppghaaGreatPrMJB
namespace Go.Proofs.YteiahdlklppghaaGreat.Ev
open Go Go.RowKit
theorem Blob32.blobs {l : List AV} (h : Blob32 l) : Blobs l := by
  intro i hi
  obtain ⟨b, hb, _⟩ := h l[i] (List.getElem_mem hi)
  rw [nth_lt hi, hb]; rfl
theorem nextV_blob {l : List AV} {id : List UInt8} {lv : Int} (h : Blob32 l) (hid : id.length = 32) : Blob32 (nextV l id lv) := by
  unfold nextV
  by_cases h0 : l.length = 0
  · rw [if_pos h0]; exact no_blobs
  · rw [if_neg h0]
    intro y hy
    obtain ⟨i, _, rfl⟩ := List.mem_map.1 hy
    unfold nextAt
    split
    · exact ⟨_, rfl, hid⟩
    · split
      · rename_i h2
        rw [nth_lt h2]; exact h _ (List.getElem_mem h2)
      · rw [nth_lt (show l.length - 1 < l.length by omega)]; exact h _ (List.getElem_mem _)
def behindV (t : List UInt8) (v : List AV) (b : AV) (i : Nat) : List AV := if i = 0 then [.blob (idA (b.fld 0))] else nextV v (idA (b.fld 0)) (levelV (idA (b.fld 0)) t)
def vecV (t : List UInt8) (l : List AV) : Nat → List AV
  | 0 => []
  | i + 1 => behindV t (vecV t l i) (nth l i) i
theorem vecV_blob (t : List UInt8) (l : List AV) : ∀ i, Blob32 (vecV t l i)
  | 0 => no_blobs
  | i + 1 => by
    simp only [vecV, behindV]
    split
    · intro y hy
      rw [List.mem_singleton] at hy
      exact ⟨_, hy, idA_len _⟩
    · exact nextV_blob (vecV_blob t l i) (idA_len _)
theorem vecV_len (t : List UInt8) (l : List AV) : ∀ i, (vecV t l i).length ≤ 257
  | 0 => by simp [vecV]
  | i + 1 => by
    simp only [vecV, behindV]
    split
    · simp
    · rw [nextV_len]
      have := vecV_len t l i
      have hc := clampV_le (levelV (idA ((nth l i).fld 0)) t)
      split <;> omega
def levsV (t : List UInt8) (l : List AV) : List AV := (List.range l.length).map fun i => .int (if i = 0 then 256 else levelV (idA ((nth l i).fld 0)) t)
theorem levsV_len (t : List UInt8) (l : List AV) : (levsV t l).length = l.length := by simp [levsV]
theorem levsV_nth (t : List UInt8) (l : List AV) {i : Nat} (h : i < l.length) : nth (levsV t l) i = .int (if i = 0 then 256 else levelV (idA ((nth l i).fld 0)) t) := nth_range h
theorem idsV_nth (l : List AV) {i : Nat} (h : i < l.length) : nth (idsV l) i = .blob (idA ((nth l i).fld 0)) := by
  rw [nth_lt (by rw [idsV_len]; exact h), nth_lt h]
  simp [idsV]
def vecsV (t : List UInt8) (l : List AV) (m : Nat) : List AV := (List.range m).map fun i => .slice (vecV t l i)
theorem vecsV_len (t : List UInt8) (l : List AV) (m : Nat) : (vecsV t l m).length = m := by simp [vecsV]
theorem vecsV_succ (t : List UInt8) (l : List AV) (m : Nat) : vecsV t l (m + 1) = vecsV t l m ++ [.slice (vecV t l m)] := by simp [vecsV, List.range_succ]
theorem vecsV_nth (t : List UInt8) (l : List AV) {i m : Nat} (h : i < m) : nth (vecsV t l m) i = .slice (vecV t l i) := nth_range h
def Heads (l : List AV) : Prop := ∀ i, i < l.length → HeadA ((nth l i).fld 0)
theorem chainId_runs {h : Int} {ls ts : List UInt8} {nc : Int} {x : List AV} (H : HeadOk h ls ts nc) : RunsX 54 [.agg [.agg [.int h, .blob ls, .blob ts, .int nc], .slice x]] ⟨[.blob (idV h ls ts nc)], [], false⟩ := by
  refine Evt.succ ((id_runs H).mono fun n hn => ?_)
  rw [f54_run, f54_eq]
  repeat (first | rw [step1] | rw [step1f] | rw [step2] | rw [step3] | rw [toBool_b] | rw [toInt_i] | rw [toStr_s] | rw [toBlob_b] | rw [toSlice_s] | rw [fld0] | rw [fld1] | rw [fld2] | rw [fld3] | rw [cond_true] | rw [cond_false] | rw [not_t] | rw [not_f] | rw [hn])
  rfl
theorem behind_runs {t : List UInt8} {v : List AV} {h : Int} {ls ts : List UInt8} {nc : Int} {x : List AV} (i : Nat) (H : HeadOk h ls ts nc) (ht : t.length = 32) (hv : v.length ≤ 1000) (hb : Blob32 v) :
    RunsX 62 [.blob t, .slice v, .agg [.agg [.int h, .blob ls, .blob ts, .int nc], .slice x], .int i] ⟨[.slice (if i = 0 then [.blob (idV h ls ts nc)] else nextV v (idV h ls ts nc) (levelV (idV h ls ts nc) t))], [], false⟩ := by
  by_cases hi : i = 0
  · refine Evt.succ (((chainId_runs (x := x) H).and (first_runs (id := idV h ls ts nc))).mono fun n hn => ?_)
    rw [if_pos hi, f62_run, f62_eq]
    repeat (first | rw [step1] | rw [step1f] | rw [step2] | rw [step3] | rw [toBool_b] | rw [toInt_i] | rw [toStr_s] | rw [toBlob_b] | rw [toSlice_s] | rw [fld0] | rw [fld1] | rw [fld2] | rw [fld3] | rw [cond_true] | rw [cond_false] | rw [not_t] | rw [not_f] | rw [hn.1] | rw [hn.2] | rw [eqI_t (show (i : Int) = 0 by omega)])
    rfl
  · refine Evt.succ (((chainId_runs (x := x) H).and ((level_runs (idV_len h ls ts nc) ht).and (next_runs (id := idV h ls ts nc) (lv := levelV (idV h ls ts nc) t) hv hb.blobs))).mono fun n hn => ?_)
    obtain ⟨g1, g2, g3⟩ := hn
    rw [if_neg hi, f62_run, f62_eq]
    repeat (first | rw [step1] | rw [step1f] | rw [step2] | rw [step3] | rw [toBool_b] | rw [toInt_i] | rw [toStr_s] | rw [toBlob_b] | rw [toSlice_s] | rw [fld0] | rw [fld1] | rw [fld2] | rw [fld3] | rw [cond_true] | rw [cond_false] | rw [not_t] | rw [not_f] | rw [g1] | rw [g2] | rw [g3] | rw [eqI_f (show ¬ (i : Int) = 0 by omega)])
    rfl
theorem vectors_runs {t : List UInt8} {l : List AV} (ht : t.length = 32) (hl : l.length ≤ 100000) (hh : Heads l) : RunsX 43 [.blob t, .slice l] ⟨[.slice (vecsV t l (l.length + 1))], [], true⟩ := by
  have hall := Evt.all l.length fun i hi => behind_runs (t := t) (v := vecV t l i) (x := ((nth l i).fld 1).toSlice) i (hh i hi) ht (Nat.le_trans (vecV_len t l i) (by omega)) (vecV_blob t l i)
  refine Evt.succ ((hall.and (Evt.ge (l.length + 1))).mono fun n hn => ?_)
  have key : ∀ (j k i : Nat), i + j = l.length → j < k → f43_l0 (runE G ext n) n k (vecsV t l (i + 1)) l (l.length : Int) (i : Int) t = some ⟨[.slice (vecsV t l (l.length + 1))], [], true⟩ := by
    intro j
    induction j with
    | zero =>
      intro k i hi hk
      obtain ⟨k, rfl⟩ : ∃ j, k = j + 1 := ⟨k - 1, by omega⟩
      rw [f43_l0_eq, ltI_f (by omega), cond_false, show i = l.length by omega]; rfl
    | succ j ih =>
      intro k i hi hk
      obtain ⟨k, rfl⟩ : ∃ j, k = j + 1 := ⟨k - 1, by omega⟩
      have ih' := ih k (i + 1) (by omega) (by omega)
      rw [show ((i + 1 : Nat) : Int) = (i : Int) + 1 by omega, vecsV_succ _ _ (i + 1)] at ih'
      rw [f43_l0_eq, ltI_t (by omega), cond_true, inR_nat (by omega), cond_true, inR_nat (by rw [vecsV_len]; omega), cond_true, Int.toNat_natCast, vecsV_nth _ _ (by omega), toSlice_s, hn.1 i (by omega), step1, toSlice_s, vecsV_len, show Nat.ble ((i + 1 + 1) * 24) 140737488355328 = true from Nat.ble_eq_true_of_le (by omega), cond_true, w64 (by omega) (by omega)]
      exact ih'
  rw [f43_run, f43_eq]
  exact key l.length n 0 (by omega) (by omega)
theorem refBIds_runs {l : List AV} (hl : l.length ≤ 100000) (hh : Heads l) : RunsX 29 [.slice l] ⟨[.slice (idsV l)], [], true⟩ := by
  have hall := Evt.all l.length fun i hi => refId_runs (hh i hi)
  refine Evt.succ ((hall.and (Evt.ge (l.length + 1))).mono fun n hn => ?_)
  have key : ∀ (j k i : Nat), i + j = l.length → j < k → f29_l0 (runE G ext n) n k l (idsV (l.take i)) (i : Int) = some ⟨[.slice (idsV l)], [], true⟩ := by
    intro j
    induction j with
    | zero =>
      intro k i hi hk
      obtain ⟨k, rfl⟩ : ∃ j, k = j + 1 := ⟨k - 1, by omega⟩
      rw [f29_l0_eq, ltI_f (by omega), cond_false, List.take_of_length_le (by omega)]; rfl
    | succ j ih =>
      intro k i hi hk
      obtain ⟨k, rfl⟩ : ∃ j, k = j + 1 := ⟨k - 1, by omega⟩
      have ih' := ih k (i + 1) (by omega) (by omega)
      rw [show ((i + 1 : Nat) : Int) = (i : Int) + 1 by omega, ← idsV_take (by omega)] at ih'
      rw [f29_l0_eq, ltI_t (by omega), cond_true, inR_nat (by omega), cond_true, Int.toNat_natCast, hn.1 i (by omega), step1, toBlob_b, show Nat.ble (((idsV (l.take i)).length + 1) * 32) 140737488355328 = true from Nat.ble_eq_true_of_le (by rw [idsV_len]; simp; omega), cond_true, w64 (by omega) (by omega)]
      exact ih'
  rw [f29_run, f29_eq]
  exact key l.length n 0 (by omega) (by omega)
theorem refLevels_runs {t : List UInt8} {l : List AV} (ht : t.length = 32) (hl : l.length ≤ 100000) : RunsX 28 [.blob t, .slice (idsV l)] ⟨[.slice (levsV t l)], [], true⟩ := by
  have hall := Evt.all l.length fun i (_ : i < l.length) => refLevel_runs (idA_len ((nth l i).fld 0)) ht
  refine Evt.succ ((hall.and (Evt.ge (l.length + 1))).mono fun n hn => ?_)
  have key : ∀ (j k i : Nat), i + j = l.length → j < k → f28_l0 (runE G ext n) n k (idsV l) ((List.range i).map fun i => .int (if i = 0 then 256 else levelV (idA ((nth l i).fld 0)) t)) (i : Int) t = some ⟨[.slice (levsV t l)], [], true⟩ := by
    intro j
    induction j with
    | zero =>
      intro k i hi hk
      obtain ⟨k, rfl⟩ : ∃ j, k = j + 1 := ⟨k - 1, by omega⟩
      rw [f28_l0_eq, idsV_len, ltI_f (by omega), cond_false, show i = l.length by omega]; rfl
    | succ j ih =>
      intro k i hi hk
      obtain ⟨k, rfl⟩ : ∃ j, k = j + 1 := ⟨k - 1, by omega⟩
      have ih' := ih k (i + 1) (by omega) (by omega)
      rw [show ((i + 1 : Nat) : Int) = (i : Int) + 1 by omega, List.range_succ, List.map_append, List.map_singleton] at ih'
      have nb : Nat.ble ((((List.range i).map fun i => AV.int (if i = 0 then 256 else levelV (idA ((nth l i).fld 0)) t)).length + 1) * 8) 140737488355328 = true := Nat.ble_eq_true_of_le (by simp; omega)
      rw [f28_l0_eq, idsV_len, ltI_t (by omega), cond_true, nb, w64 (by omega) (by omega)]
      by_cases h0 : i = 0
      · rw [if_pos h0] at ih'
        rw [eqI_t (show (i : Int) = 0 by omega), cond_true, cond_true]
        exact ih'
      · rw [if_neg h0] at ih'
        rw [eqI_f (show ¬ (i : Int) = 0 by omega), cond_false, inR_nat (by omega), cond_true, Int.toNat_natCast, idsV_nth l (by omega), toBlob_b, hn.1 i (by omega), step1, toInt_i, cond_true]
        exact ih'
  rw [f28_run, f28_eq]
  exact key l.length n 0 (by omega) (by omega)
theorem rule_runs {t : List UInt8} {l : List AV} {i : Nat} (hi : i ≤ l.length) (hl : l.length ≤ 100000) : RunsX 49 [.slice (idsV l), .slice (levsV t l), .int i] ⟨[.slice (vecV t l i)], [], true⟩ := by
  by_cases h0 : i = 0
  · subst h0
    refine Evt.succ (.of fun n => ?_)
    rw [f49_run, f49_eq, ltI_t (by omega)]; rfl
  have hall := Evt.all l.length fun j (_ : j < l.length) => refNext_runs (l := vecV t l j) (id := idA ((nth l j).fld 0)) (lv := levelV (idA ((nth l j).fld 0)) t) (Nat.le_trans (vecV_len t l j) (by omega)) (vecV_blob t l j).blobs
  refine Evt.succ ((hall.and (Evt.ge (l.length + 1))).mono fun n hn => ?_)
  have key : ∀ (j k m : Nat), m + j = i → 1 ≤ m → j < k → f49_l0 (runE G ext n) n k (idsV l) (levsV t l) (i : Int) (vecV t l m) (m : Int) = some ⟨[.slice (vecV t l i)], [], true⟩ := by
    intro j
    induction j with
    | zero =>
      intro k m hm _ hk
      obtain ⟨k, rfl⟩ : ∃ j, k = j + 1 := ⟨k - 1, by omega⟩
      rw [f49_l0_eq, ltI_f (by omega), cond_false, show m = i by omega]; rfl
    | succ j ih =>
      intro k m hm h1 hk
      obtain ⟨k, rfl⟩ : ∃ j, k = j + 1 := ⟨k - 1, by omega⟩
      have ih' := ih k (m + 1) (by omega) (by omega) (by omega)
      simp only [vecV, behindV] at ih'
      rw [show ((m + 1 : Nat) : Int) = (m : Int) + 1 by omega, if_neg (by omega)] at ih'
      rw [f49_l0_eq, ltI_t (by omega), cond_true, inR_nat (by rw [idsV_len]; omega), cond_true, inR_nat (by rw [levsV_len]; omega), cond_true, Int.toNat_natCast, idsV_nth l (by omega), levsV_nth t l (by omega), if_neg (show ¬ m = 0 by omega), toBlob_b, toInt_i, hn.1 m (by omega), step1f, toSlice_s, w64 (by omega) (by omega)]
      exact ih'
  rw [f49_run, f49_eq, ltI_f (by omega), cond_false, inR_int (by omega) (by rw [idsV_len]; omega), cond_true, idsV_nth l (by omega), toBlob_b]
  exact key (i - 1) n 1 (by omega) (by omega) (by omega)
end Go.Proofs.YteiahdlklppghaaGreat.Ev

namespace Go.Proofs.YteiahdlklppghaaGreat.Ev
open Go Go.RowKit
def txT (l : List AV) : List AV := l.map fun y => .str ([84] ++ y.toStr)
theorem txT_len (l : List AV) : (txT l).length = l.length := by simp [txT]
theorem txT_take {l : List AV} {i : Nat} (h : i < l.length) : txT (l.take i) ++ [.str ([84] ++ (nth l i).toStr)] = txT (l.take (i + 1)) := by
  rw [List.take_succ_eq_append_getElem h, nth_lt h]; simp only [txT, List.map_append, List.map_cons, List.map_nil]
def Shorter (l : List AV) : Prop := ∀ i, i < l.length → (nth l i).toStr.length ≤ 140737488351232
theorem shorter_of {l : List AV} (h : ∀ (i : Nat) y, l[i]? = some y → Ty.str.Has y) : Shorter l := by
  intro i hi
  obtain ⟨s, hs, hl⟩ := h i _ (List.getElem?_eq_getElem hi)
  rw [nth_lt hi, hs]
  unfold reachBytes at hl
  exact hl
theorem txT_short {l : List AV} (h : Shorter l) : Short (txT l) := by
  intro i hi
  rw [txT_len] at hi
  have := h i hi
  rw [nth_lt (by rw [txT_len]; exact hi)]
  rw [nth_lt hi] at this
  simp only [txT, List.getElem_map]
  show ([84] ++ l[i].toStr).length ≤ _
  simp; omega
theorem txTexts_runs {l : List AV} (hl : l.length ≤ 100000) (hs : Shorter l) : RunsX 72 [.slice l] ⟨[.slice (txT l)], [], true⟩ := by
  refine Evt.succ ((Evt.ge (l.length + 10)).mono fun n hn => ?_)
  obtain ⟨m, rfl⟩ : ∃ m, n = m + 1 := ⟨n - 1, by omega⟩
  have key : ∀ (j k i : Nat), i + j = l.length → j < k → f72_l0 (runE G ext (m + 1)) (m + 1) k (txT (l.take i)) l (l.length : Int) (i : Int) = some ⟨[.slice (txT l)], [], true⟩ := by
    intro j
    induction j with
    | zero =>
      intro k i hi hk
      obtain ⟨k, rfl⟩ : ∃ j, k = j + 1 := ⟨k - 1, by omega⟩
      rw [f72_l0_eq, ltI_f (by omega), cond_false, List.take_of_length_le (by omega)]
      rfl
    | succ j ih =>
      intro k i hi hk
      obtain ⟨k, rfl⟩ : ∃ j, k = j + 1 := ⟨k - 1, by omega⟩
      have ih' := ih k (i + 1) (by omega) (by omega)
      rw [show ((i + 1 : Nat) : Int) = (i : Int) + 1 by omega, ← txT_take (by omega)] at ih'
      have h32 := hs i (by omega)
      have ht : runE G ext (m + 1) 104 [.str (nth l i).toStr] = some ⟨[.str ([84] ++ (nth l i).toStr)], [], false⟩ := by
        rw [f104_run, f104_eq, show Nat.ble (1 + (nth l i).toStr.length) maxLen = true from Nat.ble_eq_true_of_le (by rw [maxLen_eq]; omega), cond_true]; rfl
      rw [f72_l0_eq, ltI_t (by omega), cond_true, inR_nat (by omega), cond_true, Int.toNat_natCast, ht, step1, toStr_s, show Nat.ble (((txT (l.take i)).length + 1) * 16) 140737488355328 = true from Nat.ble_eq_true_of_le (by rw [txT_len]; simp; omega), cond_true, w64 (by omega) (by omega)]
      exact ih'
  rw [f72_run, f72_eq]
  exact key l.length (m + 1) 0 (by omega) (by omega)
theorem refTxTexts_runs {l : List AV} (hl : l.length ≤ 100000) (hs : Shorter l) : RunsX 74 [.slice l] ⟨[.slice (txT l)], [], true⟩ := by
  refine Evt.succ ((Evt.ge (l.length + 10)).mono fun n hn => ?_)
  have key : ∀ (j k i : Nat), i + j = l.length → j < k → f74_l0 (runE G ext n) n k l (txT (l.take i)) (i : Int) = some ⟨[.slice (txT l)], [], true⟩ := by
    intro j
    induction j with
    | zero =>
      intro k i hi hk
      obtain ⟨k, rfl⟩ : ∃ j, k = j + 1 := ⟨k - 1, by omega⟩
      rw [f74_l0_eq, ltI_f (by omega), cond_false, List.take_of_length_le (by omega)]
      rfl
    | succ j ih =>
      intro k i hi hk
      obtain ⟨k, rfl⟩ : ∃ j, k = j + 1 := ⟨k - 1, by omega⟩
      have ih' := ih k (i + 1) (by omega) (by omega)
      rw [show ((i + 1 : Nat) : Int) = (i : Int) + 1 by omega, ← txT_take (by omega)] at ih'
      have h32 := hs i (by omega)
      rw [f74_l0_eq, ltI_t (by omega), cond_true, inR_nat (by omega), cond_true, Int.toNat_natCast, show Nat.ble (1 + (nth l i).toStr.length) maxLen = true from Nat.ble_eq_true_of_le (by rw [maxLen_eq]; omega), cond_true, show Nat.ble (((txT (l.take i)).length + 1) * 16) 140737488355328 = true from Nat.ble_eq_true_of_le (by rw [txT_len]; simp; omega), cond_true, w64 (by omega) (by omega)]
      exact ih'
  rw [f74_run, f74_eq]
  exact key l.length n 0 (by omega) (by omega)
def txR (l : List AV) : List UInt8 := rootV (txT l)
theorem txRoot_runs {l : List AV} (hl : l.length ≤ 100000) (hs : Shorter l) : RunsX 146 [.slice l] ⟨[.blob (txR l)], [], false⟩ := by
  refine Evt.succ (((txTexts_runs hl hs).and (root_runs (l := txT l) (by rw [txT_len]; omega) (txT_short hs))).mono fun n hn => ?_)
  rw [f146_run, f146_eq, hn.1, step1f, toSlice_s, hn.2, step1]; rfl
theorem refTxRoot_runs {l : List AV} (hl : l.length ≤ 100000) (hs : Shorter l) : RunsX 99 [.slice l] ⟨[.blob (txR l)], [], false⟩ := by
  refine Evt.succ (((refTxTexts_runs hl hs).and (refTreeRoot_runs (l := txT l) (by rw [txT_len]; omega) (txT_short hs))).mono fun n hn => ?_)
  rw [f99_run, f99_eq, hn.1, step1f, toSlice_s, hn.2, step1]; rfl
def bigB (l : List AV) : Nat → Nat → Bool
  | 0, _ => false
  | j + 1, i => ltI 4096 ((nth l i).toStr.length : Int) || bigB l j (i + 1)
def mayV (l : List AV) : Int := bif ltI 1024 (l.length : Int) then 4 else bif bigB l l.length 0 then 4 else 0
theorem txMay_l0 (run : Run) (n : Nat) (l : List AV) (hl : l.length ≤ 100000) : ∀ (j k i : Nat), i + j = l.length → j < k → f70_l0 run n k l (l.length : Int) (i : Int) = some ⟨[.int (bif bigB l j i then 4 else 0)], [], false⟩ := by
  intro j
  induction j with
  | zero =>
    intro k i hi hk
    obtain ⟨k, rfl⟩ : ∃ j, k = j + 1 := ⟨k - 1, by omega⟩
    rw [f70_l0_eq, ltI_f (by omega)]; rfl
  | succ j ih =>
    intro k i hi hk
    obtain ⟨k, rfl⟩ : ∃ j, k = j + 1 := ⟨k - 1, by omega⟩
    have ih' := ih k (i + 1) (by omega) (by omega)
    rw [show ((i + 1 : Nat) : Int) = (i : Int) + 1 by omega] at ih'
    rw [f70_l0_eq, ltI_t (a := (i : Int)) (by omega), cond_true, inR_nat (by omega), cond_true, Int.toNat_natCast, w64 (by omega) (by omega), ih']
    simp only [bigB]
    cases ltI 4096 ((nth l i).toStr.length : Int) <;> rfl
theorem refTxMay_l0 (run : Run) (n : Nat) (l : List AV) (hl : l.length ≤ 100000) : ∀ (j k i : Nat), i + j = l.length → j < k → f73_l0 run n k l (i : Int) = some ⟨[.int (bif bigB l j i then 4 else 0)], [], false⟩ := by
  intro j
  induction j with
  | zero =>
    intro k i hi hk
    obtain ⟨k, rfl⟩ : ∃ j, k = j + 1 := ⟨k - 1, by omega⟩
    rw [f73_l0_eq, ltI_f (by omega)]; rfl
  | succ j ih =>
    intro k i hi hk
    obtain ⟨k, rfl⟩ : ∃ j, k = j + 1 := ⟨k - 1, by omega⟩
    have ih' := ih k (i + 1) (by omega) (by omega)
    rw [show ((i + 1 : Nat) : Int) = (i : Int) + 1 by omega] at ih'
    rw [f73_l0_eq, ltI_t (a := (i : Int)) (by omega), cond_true, inR_nat (by omega), cond_true, Int.toNat_natCast, w64 (by omega) (by omega), ih']
    simp only [bigB]
    cases ltI 4096 ((nth l i).toStr.length : Int) <;> rfl
theorem txMay_runs {l : List AV} (hl : l.length ≤ 100000) : RunsX 70 [.slice l] ⟨[.int (mayV l)], [], false⟩ := by
  refine Evt.succ ((Evt.ge (l.length + 1)).mono fun n hn => ?_)
  unfold mayV
  have := txMay_l0 (runE G ext n) n l hl l.length n 0 (by omega) (by omega)
  rw [f70_run, f70_eq]
  cases ltI 1024 (l.length : Int)
  · exact this
  · rfl
theorem refTxMay_runs {l : List AV} (hl : l.length ≤ 100000) : RunsX 73 [.slice l] ⟨[.int (mayV l)], [], false⟩ := by
  refine Evt.succ ((Evt.ge (l.length + 1)).mono fun n hn => ?_)
  unfold mayV
  have := refTxMay_l0 (runE G ext n) n l hl l.length n 0 (by omega) (by omega)
  rw [f73_run, f73_eq]
  cases ltI 1024 (l.length : Int)
  · exact this
  · rfl
end Go.Proofs.YteiahdlklppghaaGreat.Ev

namespace Go.Proofs.YteiahdlklppghaaGreat.Ev
open Go Go.RowKit
abbrev Hd (h : Int) (b c : List UInt8) (n : Int) : AV := .agg [.int h, .blob b, .blob c, .int n]
abbrev Blk (h : Int) (b c : List UInt8) (n : Int) (l : List AV) : AV := .agg [Hd h b c n, .slice l]
theorem make_runs {h n : Int} {v l : List AV} (hv : v.length ≤ 100000) (hb : Blob32 v) (hl : l.length ≤ 100000) (hs : Shorter l) : RunsX 123 [.int h, .slice v, .slice l, .int n] ⟨[Blk h (linkR v) (txR l) n l], [], false⟩ := by
  refine Evt.succ (((linkRoot_runs hv hb).and (txRoot_runs hl hs)).mono fun m hm => ?_)
  rw [f123_run, f123_eq, hm.1, step1, hm.2, step1, show Nat.ble (l.length * 16) 140737488355328 = true from Nat.ble_eq_true_of_le (by omega), cond_true]; rfl
def checkV (h : Int) (b c : List UInt8) (l : List AV) (h' : Int) (v : List AV) : Int :=
  bif eqI h h' then bif eqI (mayV l) 0 then bif eqS (linkR v) b && eqS (txR l) c then 0 else 12 else mayV l else 8
theorem check_runs {h n h' : Int} {b c : List UInt8} {v l : List AV} (hv : v.length ≤ 100000) (hb : Blob32 v) (hl : l.length ≤ 100000) (hs : Shorter l) : RunsX 94 [Blk h b c n l, .int h', .slice v] ⟨[.int (checkV h b c l h' v)], [], false⟩ := by
  refine Evt.succ (((txMay_runs hl).and (make_runs (h := h') (n := n) hv hb hl hs)).mono fun m hm => ?_)
  unfold checkV
  rw [f94_run, f94_eq, hm.1, step1, toInt_i, hm.2, step1]
  have e0 : (((AV.fld (Blk h' (linkR v) (txR l) n l) 0).fld 0).toInt) = h' := rfl
  have e1 : (((AV.fld (Blk h' (linkR v) (txR l) n l) 0).fld 1).toBlob) = linkR v := rfl
  have e2 : (((AV.fld (Blk h' (linkR v) (txR l) n l) 0).fld 2).toBlob) = txR l := rfl
  have e3 : (((AV.fld (Blk h' (linkR v) (txR l) n l) 0).fld 3).toInt) = n := rfl
  rw [e0, e1, e2, e3, eqI_t (a := n) rfl]
  by_cases hh : h = h'
  · rw [eqI_t hh, eqI_t hh.symm]
    cases eqI (mayV l) 0 <;> cases eqS (linkR v) b <;> cases eqS (txR l) c <;> rfl
  · rw [eqI_f hh]; rfl
theorem eqS_comm' (a b : List UInt8) : eqS a b = eqS b a := by
  by_cases h : a = b
  · rw [eqS_t h, eqS_t h.symm]
  · rw [eqS_f h, eqS_f (fun e => h e.symm)]
theorem refCheck_runs {h n h' : Int} {b c : List UInt8} {v l : List AV} (hv : v.length ≤ 100000) (hb : Blob32 v) (hl : l.length ≤ 100000) (hs : Shorter l) : RunsX 64 [Blk h b c n l, .int h', .slice v] ⟨[.int (checkV h b c l h' v)], [], false⟩ := by
  refine Evt.succ ((((refTxMay_runs hl).and (refLinkRoot_runs hv hb)).and (refTxRoot_runs hl hs)).mono fun m hm => ?_)
  unfold checkV
  rw [f64_run, f64_eq, hm.1.1, step1, toInt_i, hm.1.2, step1, toBlob_b, hm.2, step1, toBlob_b, eqS_comm' b, eqS_comm' c]
  cases eqI h h' <;> cases eqI (mayV l) 0 <;> cases eqS (linkR v) b <;> cases eqS (txR l) c <;> rfl
end Go.Proofs.YteiahdlklppghaaGreat.Ev

namespace Go.Proofs.YteiahdlklppghaaGreat.Ev
open Go Go.RowKit
def BlockA (y : AV) : Prop := HeadA (y.fld 0) ∧ Shorter ((y.fld 1).toSlice) ∧ ((y.fld 1).toSlice).length ≤ 100000
def Blocks (l : List AV) : Prop := ∀ i, i < l.length → BlockA (nth l i)
theorem Blocks.heads {l : List AV} (h : Blocks l) : Heads l := fun i hi => (h i hi).1
def ancV (gh : Int) (gl gt : List UInt8) (gn : Int) (y : AV) (i : Nat) : Int :=
  bif eqI (i : Int) 0 then (bif !(eqI (y.fld 0).toInt gh && (eqS (y.fld 1).toBlob gl && (eqS (y.fld 2).toBlob gt && (eqI (y.fld 3).toInt gn && true)))) then 7 else 0) else 0
def formV (b : AV) (i : Nat) (v : List AV) : Int := checkV ((b.fld 0).fld 0).toInt ((b.fld 0).fld 1).toBlob ((b.fld 0).fld 2).toBlob ((b.fld 1).toSlice) (i : Int) v
def blkErr (gh : Int) (gl gt : List UInt8) (gn : Int) (t : List UInt8) (l : List AV) (i : Nat) : Int :=
  bif !(eqI (ancV gh gl gt gn ((nth l i).fld 0) i) 0) then ancV gh gl gt gn ((nth l i).fld 0) i
  else bif !(eqI (formV (nth l i) i (vecV t l i)) 0) then formV (nth l i) i (vecV t l i)
  else bif !(okV (idA ((nth l i).fld 0)) t) then 9 else 0
def faultV (gh : Int) (gl gt : List UInt8) (gn : Int) (t : List UInt8) (l : List AV) : Nat → Nat → AV
  | 0, _ => .agg [.int 0, .int 0]
  | j + 1, i => bif !(eqI (blkErr gh gl gt gn t l i) 0) then .agg [.int (blkErr gh gl gt gn t l i), .int (i : Int)] else faultV gh gl gt gn t l j (i + 1)
def chainV (gh : Int) (gl gt : List UInt8) (gn : Int) (t : List UInt8) (l : List AV) : AV :=
  if l.length = 0 then .agg [.int 6, .int 0] else if 1024 < l.length then .agg [.int 4, .int 1024] else faultV gh gl gt gn t l l.length 0
abbrev Cfg (gh : Int) (gl gt : List UInt8) (gn : Int) (t : List UInt8) (c1 c2 c3 c4 c5 c6 : Int) : AV := .agg [Hd gh gl gt gn, .blob t, .int c1, .int c2, .int c3, .int c4, .int c5, .int c6]
theorem cfg_of {y : AV} (h : (Ty.struct [.struct [.int .u32, .blob 32, .blob 32, .int .u64], .blob 32, .int .i64, .int .i64, .int .i64, .int .i64, .int .i64, .int .i64]).Has y) :
    ∃ gh gl gt gn t c1 c2 c3 c4 c5 c6, y = Cfg gh gl gt gn t c1 c2 c3 c4 c5 c6 ∧ t.length = 32 ∧ HeadOk gh gl gt gn := by
  obtain ⟨l0, rfl, y0, s0, rfl, ⟨l1, rfl, z0, t0, rfl, ⟨a, rfl, ha⟩, z1, t1, rfl, ⟨b, rfl, hb⟩, z2, t2, rfl, ⟨c, rfl, hc⟩, z3, t3, rfl, ⟨d, rfl, hd⟩, rfl⟩, y1, s1, rfl, ⟨t, rfl, ht⟩, y2, s2, rfl, ⟨c1, rfl, _⟩, y3, s3, rfl, ⟨c2, rfl, _⟩, y4, s4, rfl, ⟨c3, rfl, _⟩, y5, s5, rfl, ⟨c4, rfl, _⟩, y6, s6, rfl, ⟨c5, rfl, _⟩, y7, s7, rfl, ⟨c6, rfl, _⟩, rfl⟩ := h
  have h1 := wfu32 ha
  have h2 := wfu64 hd
  exact ⟨a, b, c, d, t, c1, c2, c3, c4, c5, c6, rfl, ht, h1.1, by omega, hb, hc, h2.1, by omega⟩
section
variable {gh : Int} {gl gt : List UInt8} {gn : Int} {t : List UInt8} {c1 c2 c3 c4 c5 c6 : Int}
theorem lookAnchor_runs {i : Nat} {h : Int} {ls ts : List UInt8} {nc : Int} {x v : List AV} :
    RunsX 59 [.agg [Cfg gh gl gt gn t c1 c2 c3 c4 c5 c6, .int (i : Int), .agg [.agg [.int h, .blob ls, .blob ts, .int nc], .slice x], .slice v]] ⟨[.int (ancV gh gl gt gn (.agg [.int h, .blob ls, .blob ts, .int nc]) i)], [], false⟩ := by
  refine Evt.succ (.of fun n => ?_)
  rw [f59_run, f59_eq]
  unfold ancV
  cases eqI (i : Int) 0
  · rfl
  · rw [cond_true, cond_true]
    show _ = some (⟨[.int (bif !(eqI h gh && (eqS ls gl && (eqS ts gt && (eqI nc gn && true)))) then 7 else 0)], [], false⟩ : Res)
    cases (eqI h gh && (eqS ls gl && (eqS ts gt && (eqI nc gn && true)))) <;> rfl
theorem lookForm_runs {i : Nat} {h : Int} {ls ts : List UInt8} {nc : Int} {x v : List AV} (hi : i ≤ 100000) (hv : v.length ≤ 100000) (hb : Blob32 v) (hl : x.length ≤ 100000) (hs : Shorter x) :
    RunsX 60 [.agg [Cfg gh gl gt gn t c1 c2 c3 c4 c5 c6, .int (i : Int), .agg [.agg [.int h, .blob ls, .blob ts, .int nc], .slice x], .slice v]] ⟨[.int (checkV h ls ts x (i : Int) v)], [], false⟩ := by
  refine Evt.succ ((check_runs (h := h) (n := nc) (h' := (i : Int)) (b := ls) (c := ts) hv hb hl hs).mono fun n hn => ?_)
  rw [f60_run, f60_eq, show IntKind.wrap .u32 (i : Int) = (i : Int) by rw [wrap32]; omega]
  repeat (first | rw [step1] | rw [step1f] | rw [step2] | rw [step3] | rw [toBool_b] | rw [toInt_i] | rw [toStr_s] | rw [toBlob_b] | rw [toSlice_s] | rw [fld0] | rw [fld1] | rw [fld2] | rw [fld3] | rw [cond_true] | rw [cond_false] | rw [not_t] | rw [not_f] | rw [hn])
  rfl
theorem lookWork_runs {i : Nat} {h : Int} {ls ts : List UInt8} {nc : Int} {x v : List AV} (H : HeadOk h ls ts nc) (ht : t.length = 32) :
    RunsX 61 [.agg [Cfg gh gl gt gn t c1 c2 c3 c4 c5 c6, .int (i : Int), .agg [.agg [.int h, .blob ls, .blob ts, .int nc], .slice x], .slice v]] ⟨[.int (bif !(okV (idV h ls ts nc) t) then 9 else 0)], [], false⟩ := by
  refine Evt.succ (((chainId_runs (x := x) H).and (workOk_runs (idV_len h ls ts nc) ht)).mono fun n hn => ?_)
  rw [f61_run, f61_eq]
  repeat (first | rw [step1] | rw [step1f] | rw [step2] | rw [step3] | rw [toBool_b] | rw [toInt_i] | rw [toStr_s] | rw [toBlob_b] | rw [toSlice_s] | rw [fld0] | rw [fld1] | rw [fld2] | rw [fld3] | rw [cond_true] | rw [cond_false] | rw [not_t] | rw [not_f] | rw [hn.1] | rw [hn.2])
  cases okV (idV h ls ts nc) t <;> rfl
theorem blkErr_a {l : List AV} {i : Nat} (h : eqI (ancV gh gl gt gn ((nth l i).fld 0) i) 0 = false) : blkErr gh gl gt gn t l i = ancV gh gl gt gn ((nth l i).fld 0) i := by
  unfold blkErr; rw [h]; rfl
theorem blkErr_f {l : List AV} {i : Nat} (h : eqI (ancV gh gl gt gn ((nth l i).fld 0) i) 0 = true) (h2 : eqI (formV (nth l i) i (vecV t l i)) 0 = false) : blkErr gh gl gt gn t l i = formV (nth l i) i (vecV t l i) := by
  unfold blkErr; rw [h, h2]; rfl
theorem blkErr_o {l : List AV} {i : Nat} (h : eqI (ancV gh gl gt gn ((nth l i).fld 0) i) 0 = true) (h2 : eqI (formV (nth l i) i (vecV t l i)) 0 = true) : blkErr gh gl gt gn t l i = bif !(okV (idA ((nth l i).fld 0)) t) then 9 else 0 := by
  unfold blkErr; rw [h, h2]; rfl
theorem chainCheck_runs {l : List AV} (ht : t.length = 32) (hB : Blocks l) : RunsX 31 [Cfg gh gl gt gn t c1 c2 c3 c4 c5 c6, .slice l] ⟨[chainV gh gl gt gn t l], [], false⟩ := by
  unfold chainV
  by_cases h0 : l.length = 0
  · refine Evt.succ (.of fun n => ?_)
    rw [if_pos h0, f31_run, f31_eq, eqI_t (by omega)]; rfl
  by_cases h1 : 1024 < l.length
  · refine Evt.succ (.of fun n => ?_)
    rw [if_neg h0, if_pos h1, f31_run, f31_eq, eqI_f (by omega), ltI_t (by omega)]; rfl
  rw [if_neg h0, if_neg h1]
  have hall := Evt.all l.length fun i (hi : i < l.length) =>
    ((lookAnchor_runs (gh := gh) (gl := gl) (gt := gt) (gn := gn) (t := t) (c1 := c1) (c2 := c2) (c3 := c3) (c4 := c4) (c5 := c5) (c6 := c6) (i := i) (h := (((nth l i).fld 0).fld 0).toInt) (ls := (((nth l i).fld 0).fld 1).toBlob) (ts := (((nth l i).fld 0).fld 2).toBlob) (nc := (((nth l i).fld 0).fld 3).toInt) (x := ((nth l i).fld 1).toSlice) (v := vecV t l i)).and
     (lookForm_runs (gh := gh) (gl := gl) (gt := gt) (gn := gn) (t := t) (c1 := c1) (c2 := c2) (c3 := c3) (c4 := c4) (c5 := c5) (c6 := c6) (i := i) (h := (((nth l i).fld 0).fld 0).toInt) (ls := (((nth l i).fld 0).fld 1).toBlob) (ts := (((nth l i).fld 0).fld 2).toBlob) (nc := (((nth l i).fld 0).fld 3).toInt) (x := ((nth l i).fld 1).toSlice) (v := vecV t l i) (by omega) (Nat.le_trans (vecV_len t l i) (by omega)) (vecV_blob t l i) (hB i hi).2.2 (hB i hi).2.1)).and
    ((lookWork_runs (gh := gh) (gl := gl) (gt := gt) (gn := gn) (t := t) (c1 := c1) (c2 := c2) (c3 := c3) (c4 := c4) (c5 := c5) (c6 := c6) (i := i) (x := ((nth l i).fld 1).toSlice) (v := vecV t l i) (hB i hi).1 ht).and
     (behind_runs (t := t) (v := vecV t l i) (x := ((nth l i).fld 1).toSlice) i (hB i hi).1 ht (Nat.le_trans (vecV_len t l i) (by omega)) (vecV_blob t l i)))
  refine Evt.succ ((hall.and (Evt.ge (l.length + 10))).mono fun n hn => ?_)
  have key : ∀ (j k i : Nat) (o1 o2 : Int), i + j = l.length → j < k → f31_l1 (runE G ext n) n k (vecV t l i) l (l.length : Int) (i : Int) gh gl gt gn t c1 c2 c3 c4 c5 c6 o1 o2 = some ⟨[faultV gh gl gt gn t l j i], [], false⟩ := by
    intro j
    induction j with
    | zero =>
      intro k i o1 o2 hi hk
      obtain ⟨k, rfl⟩ : ∃ j, k = j + 1 := ⟨k - 1, by omega⟩
      rw [f31_l1_eq, ltI_f (by omega)]; rfl
    | succ j ih =>
      intro k i o1 o2 hi hk
      obtain ⟨k, rfl⟩ : ∃ j, k = j + 1 := ⟨k - 1, by omega⟩
      obtain ⟨m, hm⟩ : ∃ m, n = m + 4 := ⟨n - 4, by omega⟩
      obtain ⟨⟨e1, e2⟩, e3, e4⟩ := hn.1 i (by omega)
      have ih' := ih k (i + 1) o1 o2 (by omega) (by omega)
      rw [show ((i + 1 : Nat) : Int) = (i : Int) + 1 by omega] at ih'
      simp only [vecV, behindV] at ih'
      rw [f31_l1_eq, ltI_t (by omega), cond_true, inR_nat (by omega), cond_true, Int.toNat_natCast]
      simp only [faultV]
      generalize hL : AV.agg [AV.agg [AV.agg [.int gh, .blob gl, .blob gt, .int gn], .blob t, .int c1, .int c2, .int c3, .int c4, .int c5, .int c6], .int (i : Int), .agg [.agg [.int (((nth l i).fld 0).fld 0).toInt, .blob (((nth l i).fld 0).fld 1).toBlob, .blob (((nth l i).fld 0).fld 2).toBlob, .int (((nth l i).fld 0).fld 3).toInt], .slice ((nth l i).fld 1).toSlice], .slice (vecV t l i)] = Lk at *
      have a1 : ancV gh gl gt gn ((nth l i).fld 0) i = ancV gh gl gt gn (.agg [.int (((nth l i).fld 0).fld 0).toInt, .blob (((nth l i).fld 0).fld 1).toBlob, .blob (((nth l i).fld 0).fld 2).toBlob, .int (((nth l i).fld 0).fld 3).toInt]) i := rfl
      have n0 : nth [AV.clo 59 [Lk], .clo 60 [Lk], .clo 61 [Lk]] (Int.toNat 0) = .clo 59 [Lk] := rfl
      have n1 : nth [AV.clo 59 [Lk], .clo 60 [Lk], .clo 61 [Lk]] (Int.toNat 1) = .clo 60 [Lk] := rfl
      have n2 : nth [AV.clo 59 [Lk], .clo 60 [Lk], .clo 61 [Lk]] (Int.toNat 2) = .clo 61 [Lk] := rfl
      have w0 : IntKind.wrap .i64 (0 + 1) = 1 := by decide
      have w1 : IntKind.wrap .i64 (1 + 1) = 2 := by decide
      have w2 : IntKind.wrap .i64 (2 + 1) = 3 := by decide
      have q0 : nth [Lk] 0 = Lk := rfl
      have len3 : ([AV.clo 59 [Lk], .clo 60 [Lk], .clo 61 [Lk]] : List AV).length = 3 := rfl
      have fin : ∀ m o1 o2, f31_l3 (runE G ext n) n k (m + 1) (vecV t l i) (i : Int) l (l.length : Int) (i : Int) [AV.clo 59 [Lk], .clo 60 [Lk], .clo 61 [Lk]] 3 3 gh gl gt gn t c1 c2 c3 c4 c5 c6 o1 o2 (((nth l i).fld 0).fld 0).toInt (((nth l i).fld 0).fld 1).toBlob (((nth l i).fld 0).fld 2).toBlob (((nth l i).fld 0).fld 3).toInt ((nth l i).fld 1).toSlice = f31_l1 (runE G ext n) n k (if i = 0 then [.blob (idV (((nth l i).fld 0).fld 0).toInt (((nth l i).fld 0).fld 1).toBlob (((nth l i).fld 0).fld 2).toBlob (((nth l i).fld 0).fld 3).toInt)] else nextV (vecV t l i) (idV (((nth l i).fld 0).fld 0).toInt (((nth l i).fld 0).fld 1).toBlob (((nth l i).fld 0).fld 2).toBlob (((nth l i).fld 0).fld 3).toInt) (levelV (idV (((nth l i).fld 0).fld 0).toInt (((nth l i).fld 0).fld 1).toBlob (((nth l i).fld 0).fld 2).toBlob (((nth l i).fld 0).fld 3).toInt) t)) l (l.length : Int) ((i : Int) + 1) gh gl gt gn t c1 c2 c3 c4 c5 c6 o1 o2 := by
        intro m o1 o2
        rw [f31_l3_eq, ltI_f (by omega), cond_false, e4, step1, toSlice_s, w64 (by omega) (by omega)]
      have st2 : ∀ m o1 o2, f31_l3 (runE G ext n) n k (m + 2) (vecV t l i) (i : Int) l (l.length : Int) (i : Int) [AV.clo 59 [Lk], .clo 60 [Lk], .clo 61 [Lk]] 3 2 gh gl gt gn t c1 c2 c3 c4 c5 c6 o1 o2 (((nth l i).fld 0).fld 0).toInt (((nth l i).fld 0).fld 1).toBlob (((nth l i).fld 0).fld 2).toBlob (((nth l i).fld 0).fld 3).toInt ((nth l i).fld 1).toSlice = bif !(okV (idA ((nth l i).fld 0)) t) then some ⟨[.agg [.int 9, .int (i : Int)]], [], false⟩ else f31_l3 (runE G ext n) n k (m + 1) (vecV t l i) (i : Int) l (l.length : Int) (i : Int) [AV.clo 59 [Lk], .clo 60 [Lk], .clo 61 [Lk]] 3 3 gh gl gt gn t c1 c2 c3 c4 c5 c6 o1 o2 (((nth l i).fld 0).fld 0).toInt (((nth l i).fld 0).fld 1).toBlob (((nth l i).fld 0).fld 2).toBlob (((nth l i).fld 0).fld 3).toInt ((nth l i).fld 1).toSlice := by
        intro m o1 o2
        have b0 : Nat.beq (AV.clo 61 [Lk]).cloF 59 = false := rfl
        have b1 : Nat.beq (AV.clo 61 [Lk]).cloF 60 = false := rfl
        have b2 : Nat.beq (AV.clo 61 [Lk]).cloF 61 = true := rfl
        have b3 : (AV.clo 61 [Lk]).cloXs = [Lk] := rfl
        rw [f31_l3_eq, ltI_t (by omega), cond_true, len3, inR_int (by omega) (by omega), cond_true, n2, b0, cond_false, b1, cond_false, b2, cond_true, b3, q0, e3, step1, toInt_i, w2]
        rw [show okV (idV (((nth l i).fld 0).fld 0).toInt (((nth l i).fld 0).fld 1).toBlob (((nth l i).fld 0).fld 2).toBlob (((nth l i).fld 0).fld 3).toInt) t = okV (idA ((nth l i).fld 0)) t from rfl]
        cases okV (idA ((nth l i).fld 0)) t <;> rfl
      have st1 : ∀ m o1 o2, f31_l3 (runE G ext n) n k (m + 3) (vecV t l i) (i : Int) l (l.length : Int) (i : Int) [AV.clo 59 [Lk], .clo 60 [Lk], .clo 61 [Lk]] 3 1 gh gl gt gn t c1 c2 c3 c4 c5 c6 o1 o2 (((nth l i).fld 0).fld 0).toInt (((nth l i).fld 0).fld 1).toBlob (((nth l i).fld 0).fld 2).toBlob (((nth l i).fld 0).fld 3).toInt ((nth l i).fld 1).toSlice = bif !(eqI (formV (nth l i) i (vecV t l i)) 0) then some ⟨[.agg [.int (formV (nth l i) i (vecV t l i)), .int (i : Int)]], [], false⟩ else f31_l3 (runE G ext n) n k (m + 2) (vecV t l i) (i : Int) l (l.length : Int) (i : Int) [AV.clo 59 [Lk], .clo 60 [Lk], .clo 61 [Lk]] 3 2 gh gl gt gn t c1 c2 c3 c4 c5 c6 o1 o2 (((nth l i).fld 0).fld 0).toInt (((nth l i).fld 0).fld 1).toBlob (((nth l i).fld 0).fld 2).toBlob (((nth l i).fld 0).fld 3).toInt ((nth l i).fld 1).toSlice := by
        intro m o1 o2
        have b0 : Nat.beq (AV.clo 60 [Lk]).cloF 59 = false := rfl
        have b1 : Nat.beq (AV.clo 60 [Lk]).cloF 60 = true := rfl
        have b3 : (AV.clo 60 [Lk]).cloXs = [Lk] := rfl
        rw [f31_l3_eq, ltI_t (by omega), cond_true, len3, inR_int (by omega) (by omega), cond_true, n1, b0, cond_false, b1, cond_true, b3, q0, e2, step1, toInt_i, w1]
        rfl
      have st0 : ∀ m o1 o2, f31_l3 (runE G ext n) n k (m + 4) (vecV t l i) (i : Int) l (l.length : Int) (i : Int) [AV.clo 59 [Lk], .clo 60 [Lk], .clo 61 [Lk]] 3 0 gh gl gt gn t c1 c2 c3 c4 c5 c6 o1 o2 (((nth l i).fld 0).fld 0).toInt (((nth l i).fld 0).fld 1).toBlob (((nth l i).fld 0).fld 2).toBlob (((nth l i).fld 0).fld 3).toInt ((nth l i).fld 1).toSlice = bif !(eqI (ancV gh gl gt gn ((nth l i).fld 0) i) 0) then some ⟨[.agg [.int (ancV gh gl gt gn ((nth l i).fld 0) i), .int (i : Int)]], [], false⟩ else f31_l3 (runE G ext n) n k (m + 3) (vecV t l i) (i : Int) l (l.length : Int) (i : Int) [AV.clo 59 [Lk], .clo 60 [Lk], .clo 61 [Lk]] 3 1 gh gl gt gn t c1 c2 c3 c4 c5 c6 o1 o2 (((nth l i).fld 0).fld 0).toInt (((nth l i).fld 0).fld 1).toBlob (((nth l i).fld 0).fld 2).toBlob (((nth l i).fld 0).fld 3).toInt ((nth l i).fld 1).toSlice := by
        intro m o1 o2
        have b0 : Nat.beq (AV.clo 59 [Lk]).cloF 59 = true := rfl
        have b3 : (AV.clo 59 [Lk]).cloXs = [Lk] := rfl
        rw [f31_l3_eq, ltI_t (by omega), cond_true, len3, inR_int (by omega) (by omega), cond_true, n0, b0, cond_true, b3, q0, e1, step1, toInt_i, w0]
        rfl
      rw [hm] at st0 st1 st2 fin ih' ⊢
      rw [st0 m]
      cases ha : eqI (ancV gh gl gt gn ((nth l i).fld 0) i) 0 with
      | false => rw [blkErr_a ha, ha]; rfl
      | true =>
      rw [not_t, cond_false, st1]
      cases hf : eqI (formV (nth l i) i (vecV t l i)) 0 with
      | false => rw [blkErr_f ha hf, hf]; rfl
      | true =>
      rw [not_t, cond_false, st2, fin, blkErr_o ha hf]
      cases okV (idA ((nth l i).fld 0)) t
      · rfl
      · exact ih'
  rw [f31_run, f31_eq, eqI_f (by omega), ltI_f (by omega), cond_false, cond_false]
  exact key l.length n 0 0 0 (by omega) (by omega)
end
end Go.Proofs.YteiahdlklppghaaGreat.Ev

namespace Go.Proofs.YteiahdlklppghaaGreat.Ev
open Go Go.RowKit
theorem mu22_l0 (run : Run) (n : Nat) (l : List AV) (hl : l.length ≤ maxLen) : ∀ (j k i : Nat) (x : Int), 1101 - i = j → i ≤ l.length → j < k → ∃ b, (b = false → l.length ≤ 1050 ∧ (60 < l.length → 1024 < l.length)) ∧ f22_l0 run n k l x (i : Int) = some ⟨[.bool b], [], false⟩ := by
  rw [maxLen_eq] at hl
  have fin : ∀ x : Int, ∃ b, (b = false → l.length ≤ 1050 ∧ (60 < l.length → 1024 < l.length)) ∧ (bif ltI 60 (l.length : Int) then bif leI (l.length : Int) 1024 then some ⟨[.bool true], [], false⟩ else bif ltI 1050 (l.length : Int) then some ⟨[.bool true], [], false⟩ else some ⟨[.bool (ltI 6000 x)], [], false⟩ else bif ltI 1050 (l.length : Int) then some ⟨[.bool true], [], false⟩ else some ⟨[.bool (ltI 6000 x)], [], false⟩) = some (⟨[.bool b], [], false⟩ : Res) := by
    intro x
    by_cases h : 60 < (l.length : Int)
    · by_cases h2 : (l.length : Int) ≤ 1024
      · exact ⟨true, (fun h => by cases h), by rw [ltI_t h, leI_t h2]; rfl⟩
      · by_cases h3 : 1050 < (l.length : Int)
        · exact ⟨true, (fun h => by cases h), by rw [ltI_t h, leI_f h2, ltI_t h3]; rfl⟩
        · exact ⟨ltI 6000 x, (fun _ => by omega), by rw [ltI_t h, leI_f h2, ltI_f h3]; rfl⟩
    · exact ⟨ltI 6000 x, (fun _ => by omega), by rw [ltI_f h, ltI_f (show ¬ 1050 < (l.length : Int) by omega)]; rfl⟩
  intro j
  induction j with
  | zero =>
    intro k i x hi _ hk
    obtain ⟨k, rfl⟩ : ∃ j, k = j + 1 := ⟨k - 1, by omega⟩
    rw [f22_l0_eq, ltI_f (a := (i : Int)) (b := 1100) (by omega)]
    cases ltI (i : Int) l.length
    · exact fin x
    · exact fin x
  | succ j ih =>
    intro k i x hi hil hk
    obtain ⟨k, rfl⟩ : ∃ j, k = j + 1 := ⟨k - 1, by omega⟩
    rw [f22_l0_eq]
    by_cases h : i < l.length
    · by_cases h2 : (i : Int) < 1100
      · rw [ltI_t (by omega), ltI_t h2, cond_true, cond_true, inR_nat h, cond_true, w64 (x := (i : Int) + 1) (by omega) (by omega)]
        have := ih k (i + 1) (mn2 (IntKind.wrap .i64 (IntKind.wrap .i64 (x + 1) + (((nth l (Int.toNat i)).toStr).length : Int))) 1048576) (by omega) (by omega) (by omega)
        rw [show ((i + 1 : Nat) : Int) = (i : Int) + 1 by omega] at this
        exact this
      · rw [ltI_t (a := (i : Int)) (b := l.length) (by omega), cond_true, ltI_f h2, cond_false]
        exact fin x
    · rw [ltI_f (by omega), cond_false]
      exact fin x
theorem mu22_runs {l : List AV} (hl : l.length ≤ maxLen) : ∃ b, (b = false → l.length ≤ 1050 ∧ (60 < l.length → 1024 < l.length)) ∧ RunsX 22 [.slice l] ⟨[.bool b], [], false⟩ := by
  obtain ⟨b, h0, h⟩ := mu22_l0 (runE G ext 2000) 2000 l hl 1101 2000 0 0 rfl (by omega) (by omega)
  exact ⟨b, h0, RunsX.of_eval 2001 (by rw [f22_run, f22_eq]; exact h)⟩
end Go.Proofs.YteiahdlklppghaaGreat.Ev

namespace Go.Proofs.YteiahdlklppghaaGreat.Ev
open Go Go.RowKit
abbrev blockTy : Ty := .struct [headTy, .slice .str]
theorem block_of {y : AV} (h : blockTy.Has y) : HeadA (y.fld 0) ∧ Shorter ((y.fld 1).toSlice) ∧ ((y.fld 1).toSlice).length ≤ maxLen := by
  obtain ⟨l0, rfl, y0, s0, rfl, hh, y1, s1, rfl, ⟨l, rfl, hl, _, hx⟩, rfl⟩ := h
  exact ⟨headA_of hh, shorter_of hx, hl⟩
def Blocks0 (l : List AV) : Prop := ∀ i, i < l.length → HeadA ((nth l i).fld 0) ∧ Shorter (((nth l i).fld 1).toSlice) ∧ (((nth l i).fld 1).toSlice).length ≤ maxLen
theorem blocks0_of {l : List AV} (h : ∀ (i : Nat) y, l[i]? = some y → blockTy.Has y) : Blocks0 l := by
  intro i hi
  rw [nth_lt hi]
  exact block_of (h i _ (List.getElem?_eq_getElem hi))
noncomputable def mB (l : List AV) (h : Blocks0 l) (i : Nat) : Bool := if hi : i < l.length then Classical.choose (mu22_runs (h i hi).2.2) else false
theorem mB_spec {l : List AV} (h : Blocks0 l) {i : Nat} (hi : i < l.length) : (mB l h i = false → (((nth l i).fld 1).toSlice).length ≤ 1050) ∧ RunsX 22 [.slice (((nth l i).fld 1).toSlice)] ⟨[.bool (mB l h i)], [], false⟩ := by
  have := Classical.choose_spec (mu22_runs (h i hi).2.2)
  unfold mB
  rw [dif_pos hi]
  exact ⟨fun hb => (this.1 hb).1, this.2⟩
theorem mu24_l0 {l : List AV} (h : Blocks0 l) (hl : l.length ≤ maxLen) : ∀ (j i : Nat) (x : Int), 31 - i = j → i ≤ l.length → (∀ m, m < i → (((nth l m).fld 1).toSlice).length ≤ 1050) → ∃ b, (b = false → l.length ≤ 24 ∧ ∀ m, m < l.length → (((nth l m).fld 1).toSlice).length ≤ 1050) ∧
    ∀ (n k : Nat), (∀ m, m < min l.length 30 → runE G ext n 22 [.slice (((nth l m).fld 1).toSlice)] = some ⟨[.bool (mB l h m)], [], false⟩) → j < k → f6_l0 (runE G ext n) n k l x (i : Int) = some ⟨[.bool b], [], false⟩ := by
  rw [maxLen_eq] at hl
  intro j
  induction j with
  | zero =>
    intro i x hj hi hm
    by_cases h24 : 24 < (l.length : Int)
    · refine ⟨true, (fun h => by cases h), fun n k hr hk => ?_⟩
      obtain ⟨k, rfl⟩ : ∃ j, k = j + 1 := ⟨k - 1, by omega⟩
      rw [f6_l0_eq, ltI_f (a := (i : Int)) (b := 30) (by omega), ltI_t h24]
      cases ltI (i : Int) (l.length : Int) <;> rfl
    · omega
  | succ j ih =>
    intro i x hj hi hm
    by_cases h1 : i < l.length
    · by_cases h2 : (i : Int) < 30
      · cases hb : mB l h i with
        | true =>
          refine ⟨true, (fun h => by cases h), fun n k hr hk => ?_⟩
          obtain ⟨k, rfl⟩ : ∃ j, k = j + 1 := ⟨k - 1, by omega⟩
          have e := hr i (by omega)
          rw [hb] at e
          rw [f6_l0_eq, ltI_t (by omega), ltI_t h2, cond_true, cond_true, inR_nat h1, cond_true, Int.toNat_natCast, e, step1, toBool_b, cond_true]; rfl
        | false =>
          obtain ⟨b, hb1, hb2⟩ := ih (i + 1) (IntKind.wrap .i64 (x + ((((nth l i).fld 1).toSlice).length : Int))) (by omega) (by omega) (fun m hm' => by
            by_cases he : m = i
            · subst he; exact (mB_spec h h1).1 hb
            · exact hm m (by omega))
          refine ⟨b, hb1, fun n k hr hk => ?_⟩
          obtain ⟨k, rfl⟩ : ∃ j, k = j + 1 := ⟨k - 1, by omega⟩
          have e := hr i (by omega)
          rw [hb] at e
          have ih' := hb2 n k hr (by omega)
          rw [show ((i + 1 : Nat) : Int) = (i : Int) + 1 by omega] at ih'
          rw [f6_l0_eq, ltI_t (by omega), ltI_t h2, cond_true, cond_true, inR_nat h1, cond_true, Int.toNat_natCast, e, step1, toBool_b, cond_false, w64 (x := (i : Int) + 1) (by omega) (by omega), cond_true]
          exact ih'
      · by_cases h24 : 24 < (l.length : Int)
        · refine ⟨true, (fun h => by cases h), fun n k hr hk => ?_⟩
          obtain ⟨k, rfl⟩ : ∃ j, k = j + 1 := ⟨k - 1, by omega⟩
          rw [f6_l0_eq, ltI_f h2, ltI_t h24]
          cases ltI (i : Int) (l.length : Int) <;> rfl
        · omega
    · by_cases h24 : 24 < (l.length : Int)
      · refine ⟨true, (fun h => by cases h), fun n k hr hk => ?_⟩
        obtain ⟨k, rfl⟩ : ∃ j, k = j + 1 := ⟨k - 1, by omega⟩
        rw [f6_l0_eq, ltI_f (a := (i : Int)) (by omega), ltI_t h24]; rfl
      · refine ⟨ltI 100 x, (fun _ => ⟨by omega, fun m hm' => hm m (by omega)⟩), fun n k hr hk => ?_⟩
        obtain ⟨k, rfl⟩ : ∃ j, k = j + 1 := ⟨k - 1, by omega⟩
        rw [f6_l0_eq, ltI_f (a := (i : Int)) (by omega), ltI_f h24]; rfl
theorem mu24_runs {l : List AV} (h : Blocks0 l) (hl : l.length ≤ maxLen) : ∃ b, (b = false → l.length ≤ 24 ∧ Blocks l) ∧ RunsX 6 [.slice l] ⟨[.bool b], [], false⟩ := by
  obtain ⟨b, h1, h2⟩ := mu24_l0 h hl 31 0 0 (by omega) (by omega) (fun m hm => by omega)
  refine ⟨b, fun hb => ⟨(h1 hb).1, fun i hi => ⟨(h i hi).1, (h i hi).2.1, Nat.le_trans ((h1 hb).2 i hi) (by omega)⟩⟩, ?_⟩
  have hall := Evt.all (min l.length 30) fun m hm => (mB_spec h (i := m) (by omega)).2
  refine Evt.succ ((hall.and (Evt.ge 40)).mono fun n hn => ?_)
  rw [f6_run, f6_eq]
  exact h2 n n hn.1 (by omega)
theorem nth_take {l : List AV} {i m : Nat} (h : i < m) : nth (l.take m) i = nth l i := by
  unfold nth
  simp [List.getD, h]
theorem Blocks.take {l : List AV} (h : Blocks l) (m : Nat) : Blocks (l.take m) := by
  intro i hi
  have : i < m ∧ i < l.length := by rw [List.length_take] at hi; omega
  rw [nth_take this.1]
  exact h i this.2
section
variable {gh : Int} {gl gt : List UInt8} {gn : Int} {t : List UInt8} {c1 c2 c3 c4 c5 c6 : Int}
theorem faultV_spec {l : List AV} : ∀ (j i : Nat), (faultV gh gl gt gn t l j i = .agg [.int 0, .int 0] ∧ ∀ k, i ≤ k → k < i + j → blkErr gh gl gt gn t l k = 0) ∨
    ∃ k, i ≤ k ∧ k < i + j ∧ blkErr gh gl gt gn t l k ≠ 0 ∧ faultV gh gl gt gn t l j i = .agg [.int (blkErr gh gl gt gn t l k), .int (k : Int)] ∧ ∀ m, i ≤ m → m < k → blkErr gh gl gt gn t l m = 0
  | 0, _ => .inl ⟨rfl, fun k h1 h2 => by omega⟩
  | j + 1, i => by
    simp only [faultV]
    by_cases hb : blkErr gh gl gt gn t l i = 0
    · rw [eqI_t hb, not_t, cond_false]
      rcases faultV_spec (l := l) j (i + 1) with ⟨h1, h2⟩ | ⟨k, h1, h2, h3, h4, h5⟩
      · refine .inl ⟨h1, fun k k1 k2 => ?_⟩
        by_cases he : k = i
        · rw [he]; exact hb
        · exact h2 k (by omega) (by omega)
      · refine .inr ⟨k, by omega, by omega, h3, h4, fun m m1 m2 => ?_⟩
        by_cases he : m = i
        · rw [he]; exact hb
        · exact h5 m (by omega) m2
    · rw [eqI_f hb, not_f, cond_true]
      exact .inr ⟨i, Nat.le_refl _, by omega, hb, rfl, fun m m1 m2 => by omega⟩
theorem chainV_spec {l : List AV} (h1 : 1 ≤ l.length) (h2 : l.length ≤ 1024) : (chainV gh gl gt gn t l = .agg [.int 0, .int 0] ∧ ∀ k, k < l.length → blkErr gh gl gt gn t l k = 0) ∨
    ∃ k, k < l.length ∧ blkErr gh gl gt gn t l k ≠ 0 ∧ chainV gh gl gt gn t l = .agg [.int (blkErr gh gl gt gn t l k), .int (k : Int)] ∧ ∀ m, m < k → blkErr gh gl gt gn t l m = 0 := by
  unfold chainV
  rw [if_neg (by omega), if_neg (by omega)]
  rcases faultV_spec (gh := gh) (gl := gl) (gt := gt) (gn := gn) (t := t) (l := l) l.length 0 with ⟨h3, h4⟩ | ⟨k, _, h4, h5, h6, h7⟩
  · exact .inl ⟨h3, fun k hk => h4 k (by omega) (by omega)⟩
  · exact .inr ⟨k, by omega, h5, h6, fun m hm => h7 m (by omega) hm⟩
end
end Go.Proofs.YteiahdlklppghaaGreat.Ev

namespace Go.Proofs.YteiahdlklppghaaGreat.Ev
open Go Go.RowKit
theorem levels_runs {t : List UInt8} {l : List AV} (ht : t.length = 32) (hl : l.length ≤ 100000) (hh : Heads l) : RunsX 26 [.blob t, .slice l] ⟨[.slice (levsV t l)], [], true⟩ := by
  have hall := Evt.all l.length fun i (hi : i < l.length) => (chainId_runs (x := ((nth l i).fld 1).toSlice) (hh i hi)).and (level_runs (idA_len ((nth l i).fld 0)) ht)
  refine Evt.succ ((hall.and (Evt.ge (l.length + 1))).mono fun n hn => ?_)
  have key : ∀ (j k i : Nat), i + j = l.length → j < k → f26_l0 (runE G ext n) n k ((List.range i).map fun i => .int (if i = 0 then 256 else levelV (idA ((nth l i).fld 0)) t)) l (l.length : Int) (i : Int) t = some ⟨[.slice (levsV t l)], [], true⟩ := by
    intro j
    induction j with
    | zero =>
      intro k i hi hk
      obtain ⟨k, rfl⟩ : ∃ j, k = j + 1 := ⟨k - 1, by omega⟩
      rw [f26_l0_eq, ltI_f (by omega), cond_false, show i = l.length by omega]; rfl
    | succ j ih =>
      intro k i hi hk
      obtain ⟨k, rfl⟩ : ∃ j, k = j + 1 := ⟨k - 1, by omega⟩
      have ih' := ih k (i + 1) (by omega) (by omega)
      rw [show ((i + 1 : Nat) : Int) = (i : Int) + 1 by omega, List.range_succ, List.map_append, List.map_singleton] at ih'
      have nb : Nat.ble ((((List.range i).map fun i => AV.int (if i = 0 then 256 else levelV (idA ((nth l i).fld 0)) t)).length + 1) * 8) 140737488355328 = true := Nat.ble_eq_true_of_le (by simp; omega)
      obtain ⟨e1, e2⟩ := hn.1 i (by omega)
      unfold idA at e2
      rw [f26_l0_eq, ltI_t (by omega), cond_true, inR_nat (by omega), cond_true, Int.toNat_natCast, e1, step1, toBlob_b, e2, step1, toInt_i, nb, w64 (by omega) (by omega)]
      by_cases h0 : i = 0
      · rw [if_pos h0] at ih'
        rw [eqI_t (show (i : Int) = 0 by omega), cond_true, cond_true]
        exact ih'
      · rw [if_neg h0] at ih'
        rw [eqI_f (show ¬ (i : Int) = 0 by omega), cond_false, cond_true]
        exact ih'
  rw [f26_run, f26_eq]
  exact key l.length n 0 (by omega) (by omega)
end Go.Proofs.YteiahdlklppghaaGreat.Ev

namespace Go.Proofs.YteiahdlklppghaaGreat.Ev
open Go Go.RowKit
theorem nearU_l0s (run : Run) (n : Nat) (l : List AV) (lv : Int) : ∀ (m k : Nat), m ≤ l.length → l.length ≤ maxLen → m < k → f100_l0 run n k l lv ((m : Int) - 1) = some ⟨[.int (nearV l lv m)], [], false⟩ := by
  intro m
  induction m with
  | zero =>
    intro k _ _ hk
    obtain ⟨k, rfl⟩ : ∃ j, k = j + 1 := ⟨k - 1, by omega⟩
    rw [f100_l0_eq, leI_f (by omega)]
    rfl
  | succ m ih =>
    intro k hm hl hk
    obtain ⟨k, rfl⟩ : ∃ j, k = j + 1 := ⟨k - 1, by omega⟩
    rw [maxLen_eq] at hl
    have e : (((m + 1 : Nat) : Int) - 1) = (m : Int) := by omega
    rw [f100_l0_eq, e, leI_t (by omega), cond_true, inR_nat (by omega), cond_true, Int.toNat_natCast, w64 (by omega) (by omega), ih k (by omega) (by rw [maxLen_eq]; omega) (by omega)]
    simp only [nearV]
    by_cases h : lv ≤ (nth l m).toInt
    · rw [leI_t h, if_pos h]; rfl
    · rw [leI_f h, if_neg h]; rfl
theorem allU_l0s {run : Run} {l : List AV} {at_ : Int} (hr : ∀ i, i < 257 → run 100 [.slice l, .int at_, .int (i : Nat)] = some ⟨[.int (nearV l (i : Nat) at_.toNat)], [], false⟩) (n : Nat) :
    ∀ (j k i : Nat) (acc : List AV), i + j = 257 → acc.length ≤ i → j < k → f68_l0 run n k l at_ acc (i : Int) = some ⟨[.slice (allV l at_ acc j i)], [], true⟩ := by
  intro j
  induction j with
  | zero =>
    intro k i acc hi _ hk
    obtain ⟨k, rfl⟩ : ∃ j, k = j + 1 := ⟨k - 1, by omega⟩
    rw [f68_l0_eq, ltI_f (by omega)]
    rfl
  | succ j ih =>
    intro k i acc hi hacc hk
    obtain ⟨k, rfl⟩ : ∃ j, k = j + 1 := ⟨k - 1, by omega⟩
    rw [f68_l0_eq, ltI_t (by omega), cond_true, hr i (by omega)]
    simp only [Option.bind_some, consV, nilV, AV.toInt]
    have hb : Nat.ble ((acc.length + 1) * 8) 140737488355328 = true := Nat.ble_eq_true_of_le (by omega)
    rw [hb, cond_true, w64 (by omega) (by omega)]
    have ih' := ih k (i + 1) (acc ++ [.int (nearV l (i : Nat) at_.toNat)]) (by omega) (by simp; omega) (by omega)
    have e : ((i + 1 : Nat) : Int) = (i : Int) + 1 := by omega
    rw [e] at ih'
    rw [ih']
    simp only [allV]
    by_cases h : nearV l (i : Nat) at_.toNat < 0
    · rw [ltI_t h, if_pos h]; rfl
    · rw [ltI_f h, if_neg h, cond_false]
      by_cases h' : nearV l (i : Nat) at_.toNat = 0
      · rw [eqI_t h', if_pos h']; rfl
      · rw [eqI_f h', if_neg h']; rfl
theorem allV_len (l : List AV) (at_ : Int) : ∀ (j : Nat) (lv : Int) (acc : List AV), (allV l at_ acc j lv).length ≤ acc.length + j
  | 0, _, acc => Nat.le_refl _
  | j + 1, lv, acc => by
    simp only [allV]
    split
    · omega
    · split
      · simp
      · have := allV_len l at_ j (lv + 1) (acc ++ [.int (nearV l lv at_.toNat)])
        simp at this
        omega
theorem allOf_len (l : List AV) (at_ : Int) : (allOf l at_).length ≤ 257 := by
  unfold allOf
  split
  · simp
  · split
    · simp
    · have := allV_len l at_ 257 0 []
      simpa using this
theorem nearV_le (L : List AV) (k : Int) : ∀ i, nearV L k i < i
  | 0 => by simp [nearV]
  | i + 1 => by
    simp only [nearV]
    have := nearV_le L k i
    split <;> omega
section
variable {e : Run}
end
end Go.Proofs.YteiahdlklppghaaGreat.Ev

namespace Go.Proofs.YteiahdlklppghaaGreat.Ev
open Go Go.RowKit
theorem nearU_runs {l : List AV} {at_ lv : Int} (hl : l.length ≤ maxLen) (h0 : 0 ≤ at_) (h1 : at_ ≤ l.length) : RunsX 100 [.slice l, .int at_, .int lv] ⟨[.int (nearV l lv at_.toNat)], [], false⟩ := by
  refine Evt.succ ((Evt.ge (at_.toNat + 1)).mono fun n hn => ?_)
  rw [f100_run, f100_eq, mn2_eq, show min at_ (l.length : Int) = at_ by omega]
  rw [maxLen_eq] at hl
  rw [w64 (by omega) (by omega), show at_ - 1 = ((at_.toNat : Nat) : Int) - 1 by omega]
  exact nearU_l0s _ _ _ _ _ _ (by omega) (by rw [maxLen_eq]; omega) (by omega)
theorem nearR_l0s (run : Run) (n : Nat) (l : List AV) (at_ lv : Int) (h0 : 0 ≤ at_) (h1 : at_ ≤ l.length) (hl : l.length ≤ maxLen) : ∀ (j k i : Nat), i + j = at_.toNat → j < k → f101_l0 run n k l at_ lv (nearV l lv i) (i : Int) = some ⟨[.int (nearV l lv at_.toNat)], [], false⟩ := by
  rw [maxLen_eq] at hl
  intro j
  induction j with
  | zero =>
    intro k i hi hk
    obtain ⟨k, rfl⟩ : ∃ j, k = j + 1 := ⟨k - 1, by omega⟩
    rw [Nat.add_zero] at hi
    subst hi
    rw [f101_l0_eq]
    by_cases h : ((at_.toNat : Nat) : Int) < (l.length : Int)
    · rw [ltI_t h, cond_true, ltI_f (by omega)]; rfl
    · rw [ltI_f h]; rfl
  | succ j ih =>
    intro k i hi hk
    obtain ⟨k, rfl⟩ : ∃ j, k = j + 1 := ⟨k - 1, by omega⟩
    rw [f101_l0_eq, ltI_t (by omega), cond_true, ltI_t (by omega), cond_true, inR_nat (by omega), cond_true, Int.toNat_natCast, w64 (by omega) (by omega)]
    have ih' := ih k (i + 1) (by omega) (by omega)
    have e : ((i + 1 : Nat) : Int) = (i : Int) + 1 := by omega
    rw [e] at ih'
    simp only [nearV] at ih'
    by_cases h : lv ≤ (nth l i).toInt
    · rw [leI_t h, cond_true]
      rw [if_pos h] at ih'
      exact ih'
    · rw [leI_f h, cond_false]
      rw [if_neg h] at ih'
      exact ih'
theorem nearR_runs {l : List AV} {at_ lv : Int} (hl : l.length ≤ maxLen) (h0 : 0 ≤ at_) (h1 : at_ ≤ l.length) : RunsX 101 [.slice l, .int at_, .int lv] ⟨[.int (nearV l lv at_.toNat)], [], false⟩ := by
  refine Evt.succ ((Evt.ge (at_.toNat + 1)).mono fun n hn => ?_)
  rw [f101_run, f101_eq]
  exact nearR_l0s _ _ _ _ _ h0 h1 hl at_.toNat n 0 (by omega) (by omega)
theorem allR_l0s {run : Run} {l : List AV} {at_ : Int} (hr : ∀ i, i < 257 → run 101 [.slice l, .int at_, .int (i : Nat)] = some ⟨[.int (nearV l (i : Nat) at_.toNat)], [], false⟩) (n : Nat) :
    ∀ (j k i : Nat) (acc : List AV), i + j = 257 → acc.length ≤ i → j < k → f69_l0 run n k l at_ acc (i : Int) = some ⟨[.slice (allV l at_ acc j i)], [], true⟩ := by
  intro j
  induction j with
  | zero =>
    intro k i acc hi _ hk
    obtain ⟨k, rfl⟩ : ∃ j, k = j + 1 := ⟨k - 1, by omega⟩
    rw [f69_l0_eq, ltI_f (by omega)]
    rfl
  | succ j ih =>
    intro k i acc hi hacc hk
    obtain ⟨k, rfl⟩ : ∃ j, k = j + 1 := ⟨k - 1, by omega⟩
    rw [f69_l0_eq, ltI_t (by omega), cond_true, hr i (by omega)]
    simp only [Option.bind_some, consV, nilV, AV.toInt]
    have hb : Nat.ble ((acc.length + 1) * 8) 140737488355328 = true := Nat.ble_eq_true_of_le (by omega)
    rw [hb, cond_true, w64 (by omega) (by omega)]
    have ih' := ih k (i + 1) (acc ++ [.int (nearV l (i : Nat) at_.toNat)]) (by omega) (by simp; omega) (by omega)
    have e : ((i + 1 : Nat) : Int) = (i : Int) + 1 := by omega
    rw [e] at ih'
    rw [ih']
    simp only [allV]
    by_cases h : nearV l (i : Nat) at_.toNat < 0
    · rw [ltI_t h, if_pos h]; rfl
    · rw [ltI_f h, if_neg h, cond_false]
      by_cases h' : nearV l (i : Nat) at_.toNat = 0
      · rw [eqI_t h', if_pos h']; rfl
      · rw [eqI_f h', if_neg h']; rfl
theorem allU_runs {l : List AV} {at_ : Int} (hl : l.length ≤ maxLen) : RunsX 68 [.slice l, .int at_] ⟨[.slice (allOf l at_)], [], true⟩ := by
  unfold allOf
  by_cases h1 : at_ < 1
  · refine Evt.succ (.of fun n => ?_)
    rw [f68_run, f68_eq, ltI_t h1, if_pos h1]; rfl
  · by_cases h2 : (l.length : Int) < at_
    · refine Evt.succ (.of fun n => ?_)
      rw [f68_run, f68_eq, ltI_f h1, ltI_t h2, if_neg h1, if_pos h2]; rfl
    · refine Evt.succ (((Evt.all 257 fun i _ => nearU_runs (l := l) (at_ := at_) (lv := (i : Nat)) hl (by omega) (by omega)).and (Evt.ge 258)).mono fun n hn => ?_)
      rw [f68_run, f68_eq, ltI_f h1, ltI_f h2, if_neg h1, if_neg h2, cond_false, cond_false]
      exact allU_l0s hn.1 n 257 n 0 [] (by omega) (by simp) (by omega)
theorem allR_runs {l : List AV} {at_ : Int} (hl : l.length ≤ maxLen) : RunsX 69 [.slice l, .int at_] ⟨[.slice (allOf l at_)], [], true⟩ := by
  unfold allOf
  by_cases h1 : at_ < 1
  · refine Evt.succ (.of fun n => ?_)
    rw [f69_run, f69_eq, ltI_t h1, if_pos h1]; rfl
  · by_cases h2 : (l.length : Int) < at_
    · refine Evt.succ (.of fun n => ?_)
      rw [f69_run, f69_eq, ltI_f h1, ltI_t h2, if_neg h1, if_pos h2]; rfl
    · refine Evt.succ (((Evt.all 257 fun i _ => nearR_runs (l := l) (at_ := at_) (lv := (i : Nat)) hl (by omega) (by omega)).and (Evt.ge 258)).mono fun n hn => ?_)
      rw [f69_run, f69_eq, ltI_f h1, ltI_f h2, if_neg h1, if_neg h2, cond_false, cond_false]
      exact allR_l0s hn.1 n 257 n 0 [] (by omega) (by simp) (by omega)
def idxV (l : List AV) («to» : Int) : Nat → Nat → Int
  | 0, _ => -1
  | j + 1, i => if (nth l i).toInt = «to» then (i : Int) else idxV l «to» j (i + 1)
theorem idxU_l0 (run : Run) (n : Nat) (l : List AV) («to» : Int) (hl : l.length ≤ 1000) : ∀ (j k i : Nat), i + j = l.length → j < k → f44_l0 run n k «to» l (l.length : Int) (i : Int) = some ⟨[.int (idxV l «to» j i)], [], false⟩ := by
  intro j
  induction j with
  | zero =>
    intro k i hi hk
    obtain ⟨k, rfl⟩ : ∃ j, k = j + 1 := ⟨k - 1, by omega⟩
    rw [f44_l0_eq, ltI_f (by omega)]; rfl
  | succ j ih =>
    intro k i hi hk
    obtain ⟨k, rfl⟩ : ∃ j, k = j + 1 := ⟨k - 1, by omega⟩
    have ih' := ih k (i + 1) (by omega) (by omega)
    rw [show ((i + 1 : Nat) : Int) = (i : Int) + 1 by omega] at ih'
    rw [f44_l0_eq, ltI_t (by omega), cond_true, inR_nat (by omega), cond_true, Int.toNat_natCast, w64 (by omega) (by omega), ih']
    simp only [idxV]
    by_cases h : (nth l i).toInt = «to»
    · rw [eqI_t h, if_pos h]; rfl
    · rw [eqI_f h, if_neg h]; rfl
theorem idxR_l0 (run : Run) (n : Nat) (l : List AV) («to» : Int) (hl : l.length ≤ 1000) : ∀ (j k i : Nat), i + j = l.length → j < k → f46_l0 run n k «to» l (i : Int) = some ⟨[.int (idxV l «to» j i)], [], false⟩ := by
  intro j
  induction j with
  | zero =>
    intro k i hi hk
    obtain ⟨k, rfl⟩ : ∃ j, k = j + 1 := ⟨k - 1, by omega⟩
    rw [f46_l0_eq, ltI_f (by omega)]; rfl
  | succ j ih =>
    intro k i hi hk
    obtain ⟨k, rfl⟩ : ∃ j, k = j + 1 := ⟨k - 1, by omega⟩
    have ih' := ih k (i + 1) (by omega) (by omega)
    rw [show ((i + 1 : Nat) : Int) = (i : Int) + 1 by omega] at ih'
    rw [f46_l0_eq, ltI_t (by omega), cond_true, inR_nat (by omega), cond_true, Int.toNat_natCast, w64 (by omega) (by omega), ih']
    simp only [idxV]
    by_cases h : (nth l i).toInt = «to»
    · rw [eqI_t h, if_pos h]; rfl
    · rw [eqI_f h, if_neg h]; rfl
theorem idxU_runs {l : List AV} {at_ «to» : Int} (hl : l.length ≤ maxLen) : RunsX 44 [.slice l, .int at_, .int «to»] ⟨[.int (idxV (allOf l at_) «to» (allOf l at_).length 0)], [], false⟩ := by
  refine Evt.succ (((allU_runs (at_ := at_) hl).and (Evt.ge 400)).mono fun n hn => ?_)
  obtain ⟨h1, h2⟩ := hn
  have h3 := allOf_len l at_
  rw [f44_run, f44_eq, h1]
  simp only [bind_run, consV_c, nilV_n, toSlice_s, cond_true]
  exact idxU_l0 _ n _ «to» (by omega) _ n 0 (by omega) (by omega)
theorem idxR_runs {l : List AV} {at_ «to» : Int} (hl : l.length ≤ maxLen) : RunsX 46 [.slice l, .int at_, .int «to»] ⟨[.int (idxV (allOf l at_) «to» (allOf l at_).length 0)], [], false⟩ := by
  refine Evt.succ (((allR_runs (at_ := at_) hl).and (Evt.ge 400)).mono fun n hn => ?_)
  obtain ⟨h1, h2⟩ := hn
  have h3 := allOf_len l at_
  rw [f46_run, f46_eq, h1]
  simp only [bind_run, consV_c, nilV_n, toSlice_s, cond_true]
  exact idxR_l0 _ n _ «to» (by omega) _ n 0 (by omega) (by omega)
end Go.Proofs.YteiahdlklppghaaGreat.Ev

namespace Go.Proofs.YteiahdlklppghaaGreat.Ev
open Go Go.RowKit
theorem nearV_nonneg {L : List AV} {k : Int} (h0 : k ≤ (nth L 0).toInt) : ∀ i, 1 ≤ i → 0 ≤ nearV L k i
  | 0, h => by omega
  | i + 1, _ => by
    simp only [nearV]
    split
    · omega
    · rename_i h
      by_cases hi : i = 0
      · subst hi; exact absurd h0 h
      · exact nearV_nonneg h0 i (by omega)
theorem nearV_anti {L : List AV} {k m : Int} (h : k ≤ m) : ∀ i, nearV L m i ≤ nearV L k i
  | 0 => by simp [nearV]
  | i + 1 => by
    simp only [nearV]
    have h1 := nearV_anti (L := L) h i
    have h2 := nearV_le L m i
    split
    · rw [if_pos (by omega)]; exact Int.le_refl _
    · split <;> omega
structure NearInv (t : List UInt8) (l : List AV) (i n : Nat) : Prop where
  len : (vecV t l i).length = n
  n1 : 1 ≤ n
  n2 : n ≤ 257
  ent : ∀ k, k < n → nth (vecV t l i) k = .blob (idA ((nth l (nearV (levsV t l) (k : Int) i).toNat).fld 0))
  pos : ∀ k, k + 1 < n → nearV (levsV t l) (k : Int) i ≠ 0
  last : nearV (levsV t l) ((n - 1 : Nat) : Int) i = 0
theorem lev0 {t : List UInt8} {l : List AV} (h : 0 < l.length) : (nth (levsV t l) 0).toInt = 256 := by rw [levsV_nth t l h]; rfl
theorem levI {t : List UInt8} {l : List AV} {i : Nat} (h : i < l.length) (h0 : i ≠ 0) : (nth (levsV t l) i).toInt = levelV (idA ((nth l i).fld 0)) t := by rw [levsV_nth t l h, if_neg h0]; rfl
theorem nearInv {t : List UInt8} {l : List AV} (hok : ∀ i, i < l.length → 0 ≤ levelV (idA ((nth l i).fld 0)) t) : ∀ i, i < l.length → ∃ n, NearInv t l (i + 1) n
  | 0, h => by
    have e0 : nearV (levsV t l) 0 1 = 0 := by
      simp only [nearV]
      rw [if_pos (by rw [lev0 h]; omega)]; rfl
    refine ⟨1, rfl, by omega, by omega, fun k hk => ?_, fun k hk => by omega, e0⟩
    obtain rfl : k = 0 := by omega
    rw [show ((0 : Nat) : Int) = 0 from rfl, e0]; rfl
  | i + 1, h => by
    obtain ⟨n, I⟩ := nearInv hok i (by omega)
    have hr := levelV_range (idA ((nth l (i + 1)).fld 0)) t
    have hp := hok (i + 1) h
    obtain ⟨c, hc⟩ : ∃ c : Nat, levelV (idA ((nth l (i + 1)).fld 0)) t = (c : Int) := ⟨(levelV (idA ((nth l (i + 1)).fld 0)) t).toNat, by omega⟩
    have hcl : clampV (levelV (idA ((nth l (i + 1)).fld 0)) t) = c := by unfold clampV; omega
    have hv : vecV t l (i + 1 + 1) = (List.range (max n (c + 2))).map (nextAt (vecV t l (i + 1)) (idA ((nth l (i + 1)).fld 0)) c) := by
      show behindV t (vecV t l (i + 1)) (nth l (i + 1)) (i + 1) = _
      unfold behindV
      rw [if_neg (by omega)]
      unfold nextV
      rw [if_neg (by have := I.len; have := I.n1; omega), hcl, I.len]
    have hstep : ∀ k : Nat, nearV (levsV t l) (k : Int) (i + 1 + 1) = if k ≤ c then ((i + 1 : Nat) : Int) else nearV (levsV t l) (k : Int) (i + 1) := by
      intro k
      rw [show nearV (levsV t l) (k : Int) (i + 1 + 1) = if (k : Int) ≤ (nth (levsV t l) (i + 1)).toInt then ((i + 1 : Nat) : Int) else nearV (levsV t l) (k : Int) (i + 1) from rfl, levI h (by omega), hc]
      by_cases hk : k ≤ c
      · rw [if_pos hk, if_pos (by omega)]
      · rw [if_neg hk, if_neg (by omega)]
    have hz : ∀ k : Nat, n - 1 ≤ k → k ≤ 256 → nearV (levsV t l) (k : Int) (i + 1) = 0 := by
      intro k h1 h2
      have a := nearV_anti (L := levsV t l) (k := ((n - 1 : Nat) : Int)) (m := (k : Int)) (by omega) (i + 1)
      have b := nearV_nonneg (L := levsV t l) (k := (k : Int)) (by rw [lev0 (by omega)]; omega) (i + 1) (by omega)
      rw [I.last] at a
      omega
    have n1 := I.n1
    have n2 := I.n2
    refine ⟨max n (c + 2), by rw [hv]; simp, by omega, by omega, fun k hk => ?_, fun k hk => ?_, ?_⟩
    · rw [hv, nth_range hk, hstep]
      unfold nextAt
      by_cases h1 : k ≤ c
      · rw [if_pos h1, if_pos h1, Int.toNat_natCast]
      · rw [if_neg h1, if_neg h1, I.len]
        by_cases h2 : k < n
        · rw [if_pos h2]; exact I.ent k h2
        · rw [if_neg h2, I.ent (n - 1) (by omega), I.last, hz k (by omega) (by omega)]
    · rw [hstep]
      by_cases h1 : k ≤ c
      · rw [if_pos h1]; omega
      · rw [if_neg h1]; exact I.pos k (by omega)
    · rw [hstep, if_neg (by omega)]
      exact hz _ (by omega) (by omega)
theorem allV_of {L : List AV} {at_ : Int} {n : Nat} (hn : n ≤ 257) (hpos : ∀ k : Nat, k + 1 < n → 0 < nearV L (k : Int) at_.toNat) (hlast : nearV L ((n - 1 : Nat) : Int) at_.toNat = 0) : ∀ (j s : Nat) (acc : List AV) (lv : Int), s + j = 257 → s < n → acc = ((List.range s).map fun k : Nat => AV.int (nearV L (k : Int) at_.toNat)) → lv = (s : Int) →
    allV L at_ acc j lv = (List.range n).map fun k : Nat => AV.int (nearV L (k : Int) at_.toNat)
  | 0, s, _, _, h1, h2, _, _ => by omega
  | j + 1, s, acc, lv, h1, h2, ha, hv => by
    simp only [allV]
    have e : acc ++ [.int (nearV L lv at_.toNat)] = (List.range (s + 1)).map fun k : Nat => AV.int (nearV L (k : Int) at_.toNat) := by
      rw [List.range_succ, List.map_append, List.map_singleton, ha, hv]
    by_cases hs : s + 1 = n
    · have h0 : nearV L lv at_.toNat = 0 := by rw [hv, show s = n - 1 by omega]; exact hlast
      rw [if_neg (by omega), if_pos h0, e, hs]
    · have h0 := hpos s (by omega)
      rw [← hv] at h0
      rw [if_neg (by omega), if_neg (by omega)]
      exact allV_of hn hpos hlast j (s + 1) _ _ (by omega) (by omega) e (by omega)
theorem allOf_near {t : List UInt8} {l : List AV} {i n : Nat} (hi : i < l.length) (I : NearInv t l (i + 1) n) : allOf (levsV t l) ((i + 1 : Nat) : Int) = (List.range n).map fun k : Nat => AV.int (nearV (levsV t l) (k : Int) (i + 1)) := by
  have n2 := I.n2
  have hp : ∀ k : Nat, k + 1 < n → 0 < nearV (levsV t l) (k : Int) (((i + 1 : Nat) : Int)).toNat := by
    intro k hk
    rw [Int.toNat_natCast]
    have a := I.pos k hk
    have b := nearV_nonneg (L := levsV t l) (k := (k : Int)) (by rw [lev0 (by omega)]; omega) (i + 1) (by omega)
    omega
  have hl : nearV (levsV t l) ((n - 1 : Nat) : Int) (((i + 1 : Nat) : Int)).toNat = 0 := by rw [Int.toNat_natCast]; exact I.last
  have := allV_of (at_ := ((i + 1 : Nat) : Int)) n2 hp hl 257 0 [] 0 (by omega) (by have := I.n1; omega) rfl rfl
  unfold allOf
  rw [if_neg (by omega), if_neg (by rw [levsV_len]; omega), this]
  simp only [Int.toNat_natCast]
theorem lvN_ge (x t : Nat) : ∀ j n : Nat, (n : Int) - 1 ≤ lvN x t j n
  | 0, n => by simp only [lvN]; omega
  | j + 1, n => by
    simp only [lvN]
    have := lvN_ge x t j (n + 1)
    split <;> omega
theorem levelV_ok {id t : List UInt8} (h : okV id t = true) : 0 ≤ levelV id t := by
  have h1 : natN id ≤ natN t := of_decide_eq_true h
  unfold levelV
  have e : lvN (natN id) (natN t) 256 0 = if natN t / 2 ^ 0 < natN id then ((0 : Nat) : Int) - 1 else lvN (natN id) (natN t) 255 (0 + 1) := rfl
  rw [e, if_neg (by rw [Nat.pow_zero, Nat.div_one]; omega)]
  have := lvN_ge (natN id) (natN t) 255 (0 + 1)
  omega
section
variable {gh : Int} {gl gt : List UInt8} {gn : Int} {t : List UInt8} {c1 c2 c3 c4 c5 c6 : Int}
theorem chain_levels {l : List AV} (h : ∀ k, k < l.length → blkErr gh gl gt gn t l k = 0) : ∀ i, i < l.length → 0 ≤ levelV (idA ((nth l i).fld 0)) t := by
  intro i hi
  have h1 := h i hi
  by_cases ha : ancV gh gl gt gn ((nth l i).fld 0) i = 0
  · by_cases hf : formV (nth l i) i (vecV t l i) = 0
    · rw [blkErr_o (eqI_t ha) (eqI_t hf)] at h1
      cases hk : okV (idA ((nth l i).fld 0)) t
      · rw [hk, not_f, cond_true] at h1; exact absurd h1 (by decide)
      · exact levelV_ok hk
    · rw [blkErr_f (eqI_t ha) (eqI_f hf)] at h1; exact absurd h1 hf
  · rw [blkErr_a (eqI_f ha)] at h1; exact absurd h1 ha
theorem chainV_zero' {l : List AV} (h : ((chainV gh gl gt gn t l).fld 0).toInt = 0) : 1 ≤ l.length ∧ l.length ≤ 1024 ∧ ∀ k, k < l.length → blkErr gh gl gt gn t l k = 0 := by
  by_cases h0 : l.length = 0
  · unfold chainV at h
    rw [if_pos h0] at h
    exact absurd (show (6 : Int) = 0 from h) (by decide)
  by_cases h1 : 1024 < l.length
  · unfold chainV at h
    rw [if_neg h0, if_pos h1] at h
    exact absurd (show (4 : Int) = 0 from h) (by decide)
  rcases chainV_spec (gh := gh) (gl := gl) (gt := gt) (gn := gn) (t := t) (l := l) (by omega) (by omega) with ⟨h2, h3⟩ | ⟨k, h2, h3, h4, h5⟩
  · exact ⟨by omega, by omega, h3⟩
  · rw [h4] at h
    exact absurd (show blkErr gh gl gt gn t l k = 0 from h) h3
end
end Go.Proofs.YteiahdlklppghaaGreat.Ev

namespace Go.Proofs.YteiahdlklppghaaGreat.Ev
open Go Go.RowKit
section
variable {B : List AV} {m a b : Int}
theorem pickSt_mono : ∀ (j : Nat) (s : Int) (T : Nat → Bool) (p : Nat), T p = true → pickSt B m a b j s T p = true
  | 0, _, _, _, h => h
  | j + 1, s, T, p, h => pickSt_mono j _ _ p (by unfold takeT; rw [h]; rfl)
theorem pickSt_stage : ∀ (j : Nat) (s : Int) (T : Nat → Bool) (p : Nat), pickSt B m a b j s T p = true → T p = true ∨ ∃ lv s0 : Nat, lv < j ∧ s0 ≤ p ∧ (lv : Int) ≤ lev B p ∧ ∀ x : Nat, s0 ≤ x → (lv : Int) ≤ lev B x → pickSt B m a b j s T x = true
  | 0, _, _, _, h => .inl h
  | j + 1, s, T, p, h => by
    have h' : pickSt B m a b j (beginV B s (j : Int) m a b) (takeT B s (j : Int) T) p = true := h
    rcases pickSt_stage j _ _ p h' with h1 | ⟨lv, s0, h1, h2, h3, h4⟩
    · unfold takeT at h1
      rw [Bool.or_eq_true, Bool.and_eq_true, decide_eq_true_iff, decide_eq_true_iff] at h1
      rcases h1 with h1 | ⟨h1, h2⟩
      · exact .inl h1
      · refine .inr ⟨j, s.toNat, by omega, h1, h2, fun x hx hl => ?_⟩
        refine pickSt_mono j _ _ x ?_
        unfold takeT
        rw [decide_eq_true hx, decide_eq_true hl, Bool.and_true, Bool.or_true]
    · exact .inr ⟨lv, s0, by omega, h2, h3, fun x hx hl => h4 x hx hl⟩
theorem beginV_lt {L : List AV} {s lv : Int} (h0 : 0 ≤ s) (h1 : s < L.length) : 0 ≤ beginV L s lv m a b ∧ beginV L s lv m a b < L.length := by
  unfold beginV
  by_cases hc : m < 1 ∨ ((hitL L s.toNat lv).length : Int) ≤ m ∨ s < 0
  · rw [if_pos hc]; exact ⟨h0, h1⟩
  · rw [if_neg hc]
    cases goodV (L.drop s.toNat) lv m a b with
    | false => exact ⟨h0, h1⟩
    | true =>
      obtain ⟨p, e, p1, p2, _⟩ := hitL_at (L := L) (s := s.toNat) (lv := lv) (i := (hitL L s.toNat lv).length - m.toNat) (by omega)
      rw [cond_true, e, toInt_i]
      omega
theorem pickSt_last (hl : 0 ≤ lev B (B.length - 1)) : ∀ (j : Nat) (s : Int) (T : Nat → Bool), 0 ≤ s → s < B.length → pickSt B m a b (j + 1) s T (B.length - 1) = true
  | 0, s, T, h0, h1 => by
    show takeT B s ((0 : Nat) : Int) T (B.length - 1) = true
    unfold takeT
    rw [decide_eq_true (show s.toNat ≤ B.length - 1 by omega), decide_eq_true (show ((0 : Nat) : Int) ≤ lev B (B.length - 1) from hl), Bool.and_true, Bool.or_true]
  | j + 1, s, T, h0, h1 => by
    have h := beginV_lt (m := m) (a := a) (b := b) (lv := ((j + 1 : Nat) : Int)) h0 h1
    exact pickSt_last hl j _ _ h.1 h.2
theorem pickSt_first {j : Nat} (h : (j : Int) ≤ lev B 0) (T : Nat → Bool) : pickSt B m a b (j + 1) 0 T 0 = true := by
  refine pickSt_mono j _ _ 0 ?_
  unfold takeT
  rw [decide_eq_true (show (0 : Int).toNat ≤ 0 by decide), decide_eq_true h, Bool.and_true, Bool.or_true]
end
def fil (N : Nat) (T : Nat → Bool) : List Nat := (List.range N).filter T
theorem fil_mem {N : Nat} {T : Nat → Bool} {p : Nat} : p ∈ fil N T ↔ p < N ∧ T p = true := by unfold fil; simp
theorem fil_lt {N : Nat} {T : Nat → Bool} {i j : Nat} (hi : i < (fil N T).length) (hj : j < (fil N T).length) (h : i < j) : (fil N T)[i] < (fil N T)[j] := by
  have : (fil N T).Pairwise (· < ·) := List.Pairwise.filter _ List.pairwise_lt_range
  exact List.pairwise_iff_getElem.1 this i j hi hj h
theorem fil_next {N : Nat} {T : Nat → Bool} {i : Nat} (hi : i + 1 < (fil N T).length) (x : Nat) (h1 : (fil N T)[i] < x) (h2 : x < (fil N T)[i + 1]) : T x = false := by
  cases hT : T x with
  | false => rfl
  | true =>
    have hN := (fil_mem.1 (List.getElem_mem hi)).1
    obtain ⟨k, hk, e⟩ := List.mem_iff_getElem.1 (fil_mem.2 ⟨show x < N by omega, hT⟩)
    rcases Nat.lt_trichotomy k i with h | h | h
    · have := fil_lt hk (by omega) h; omega
    · subst h; omega
    · by_cases h' : k = i + 1
      · subst h'; omega
      · have := fil_lt hi hk (by omega); omega
theorem fil_first {N : Nat} {T : Nat → Bool} (hN : 0 < N) (h : T 0 = true) : ∃ h0 : 0 < (fil N T).length, (fil N T)[0] = 0 := by
  obtain ⟨k, hk, e⟩ := List.mem_iff_getElem.1 (fil_mem.2 ⟨hN, h⟩)
  refine ⟨by omega, ?_⟩
  by_cases h0 : k = 0
  · subst h0; exact e
  · have := fil_lt (show 0 < (fil N T).length by omega) hk (by omega); omega
theorem fil_last {N : Nat} {T : Nat → Bool} (hN : 0 < N) (h : T (N - 1) = true) : ∃ h0 : (fil N T).length - 1 < (fil N T).length, (fil N T)[(fil N T).length - 1] = N - 1 := by
  obtain ⟨k, hk, e⟩ := List.mem_iff_getElem.1 (fil_mem.2 ⟨show N - 1 < N by omega, h⟩)
  refine ⟨by omega, ?_⟩
  have hm := (fil_mem.1 (List.getElem_mem (show (fil N T).length - 1 < (fil N T).length by omega))).1
  by_cases h0 : k = (fil N T).length - 1
  · subst h0; exact e
  · have := fil_lt hk (show (fil N T).length - 1 < (fil N T).length by omega) (by omega); omega
theorem near_at {L : List AV} {lv : Int} {p : Nat} (hl : lv ≤ (nth L p).toInt) : ∀ q : Nat, p < q → (∀ x, p < x → x < q → (nth L x).toInt < lv) → nearV L lv q = (p : Int)
  | 0, h, _ => by omega
  | q + 1, h, hx => by
    simp only [nearV]
    by_cases e : q = p
    · subst e; rw [if_pos hl]
    · rw [if_neg (by have := hx q (by omega) (by omega); omega)]
      exact near_at hl q (by omega) (fun x h1 h2 => hx x h1 (by omega))
section
variable {t : List UInt8} {l : List AV}
theorem all_has (hok : ∀ i, i < l.length → 0 ≤ levelV (idA ((nth l i).fld 0)) t) {p q lv : Nat} (hq : q < l.length) (_ : lv ≤ 255) (h1 : 1 ≤ q) (h : nearV (levsV t l) (lv : Int) q = (p : Int)) :
    ∃ k, k < (allOf (levsV t l) (q : Int)).length ∧ nth (allOf (levsV t l) (q : Int)) k = .int (p : Int) := by
  obtain ⟨i, rfl⟩ : ∃ i, q = i + 1 := ⟨q - 1, by omega⟩
  obtain ⟨n, I⟩ := nearInv hok i (by omega)
  have ea := allOf_near (by omega) I
  have n1 := I.n1
  have hlen : (allOf (levsV t l) ((i + 1 : Nat) : Int)).length = n := by rw [ea]; simp
  by_cases hn : lv < n
  · exact ⟨lv, by omega, by rw [ea, nth_range hn, h]⟩
  · refine ⟨n - 1, by omega, ?_⟩
    have c1 := nearV_anti (L := levsV t l) (k := ((n - 1 : Nat) : Int)) (m := (lv : Int)) (by omega) (i + 1)
    rw [I.last, h] at c1
    rw [ea, nth_range (show n - 1 < n by omega), I.last, show p = 0 by omega]
    rfl
structure Picked (t : List UInt8) (l : List AV) (N : Nat) (P : List AV) : Prop where
  len : 1 ≤ P.length
  le : P.length ≤ N
  first : nth P 0 = .int 0
  last : nth P (P.length - 1) = .int ((N - 1 : Nat) : Int)
  at_ : ∀ i, i < P.length → ∃ p : Nat, nth P i = .int (p : Int) ∧ p < N
  next : ∀ i p q : Nat, i + 1 < P.length → nth P i = .int (p : Int) → nth P (i + 1) = .int (q : Int) → p < q ∧ ∃ k, k < (allOf (levsV t l) (q : Int)).length ∧ nth (allOf (levsV t l) (q : Int)) k = .int (p : Int)
theorem pickL_nth {N : Nat} {T : Nat → Bool} {i : Nat} (h : i < (fil N T).length) : nth (pickL N T) i = .int (((fil N T)[i] : Nat) : Int) := by
  unfold pickL nth
  rw [List.getD_eq_getElem?_getD, List.getElem?_map]
  rw [show ((List.range N).filter T)[i]? = some (fil N T)[i] from List.getElem?_eq_getElem h]
  rfl
theorem picked {m k a b : Int} (hok : ∀ i, i < l.length → 0 ≤ levelV (idA ((nth l i).fld 0)) t) (hM : mayP m k a b = true) (hk : k < l.length) (h24 : l.length ≤ 1024) : Picked t l (l.length - k.toNat) (pickV (levsV t l) m k a b) := by
  have hM' := hM
  unfold mayP at hM'
  rw [Bool.and_eq_true, decide_eq_true_iff] at hM'
  obtain ⟨⟨_, _, k1, k2⟩, _⟩ := hM'
  have hLl := levsV_len t l
  have hNl : l.length - k.toNat ≤ l.length := Nat.sub_le _ _
  generalize hN : l.length - k.toNat = N at *
  have hN1 : 1 ≤ N := by omega
  generalize hB : (levsV t l).take N = B
  have hBl : B.length = N := by rw [← hB, List.length_take]; omega
  have hlev : ∀ x, x < N → lev B x = lev (levsV t l) x := by
    intro x hx
    rw [← hB]
    unfold lev nth
    rw [List.getD_eq_getElem?_getD, List.getD_eq_getElem?_getD, List.getElem?_take, if_pos hx]
  have hpos : ∀ x, x < N → 0 ≤ lev B x := by
    intro x hx
    rw [hlev x hx]
    by_cases h0 : x = 0
    · subst h0
      rw [show lev (levsV t l) 0 = 256 from lev0 (by omega)]; omega
    · rw [show lev (levsV t l) x = _ from levI (by omega) h0]; exact hok x (by omega)
  have ht := topLv_in B
  have e : pickV (levsV t l) m k a b = pickL N (pickSt B m a b ((topLv B).toNat + 1) 0 (fun _ => false)) := by
    unfold pickV
    rw [hM, not_t, cond_false, if_neg (by omega), if_neg (by omega), hLl, hN, hB]
  rw [e]
  generalize hT : pickSt B m a b ((topLv B).toNat + 1) 0 (fun _ => false) = T
  have hfirst : T 0 = true := by
    rw [← hT]
    refine pickSt_first ?_ _
    rw [hlev 0 (by omega), show lev (levsV t l) 0 = 256 from lev0 (by omega)]
    omega
  have hlast : T (N - 1) = true := by
    rw [← hT, ← hBl]
    exact pickSt_last (by rw [hBl]; exact hpos _ (by omega)) _ _ _ (by omega) (by omega)
  obtain ⟨f0, f1⟩ := fil_first hN1 hfirst
  obtain ⟨l0, l1⟩ := fil_last hN1 hlast
  have hlenP : (pickL N T).length = (fil N T).length := by unfold pickL fil; rw [List.length_map]
  refine ⟨by omega, pickL_len N T, ?_, ?_, ?_, ?_⟩
  · rw [pickL_nth f0, f1]; rfl
  · rw [hlenP, pickL_nth l0, l1]
  · intro i hi
    rw [hlenP] at hi
    exact ⟨(fil N T)[i], pickL_nth hi, (fil_mem.1 (List.getElem_mem hi)).1⟩
  · intro i p q hi hp hq
    rw [hlenP] at hi
    rw [pickL_nth (show i < (fil N T).length by omega)] at hp
    rw [pickL_nth hi] at hq
    have ep : (fil N T)[i] = p := by injection hp with hp; omega
    have eq_ : (fil N T)[i + 1] = q := by injection hq with hq; omega
    have hlt := fil_lt (show i < (fil N T).length by omega) hi (by omega)
    have mp := fil_mem.1 (List.getElem_mem (show i < (fil N T).length by omega))
    have mq := fil_mem.1 (List.getElem_mem hi)
    have hbet := fil_next hi
    rw [ep] at hlt mp hbet
    rw [eq_] at hlt mq hbet
    refine ⟨hlt, ?_⟩
    have hst := mp.2
    rw [← hT] at hst
    rcases pickSt_stage _ _ _ _ hst with h | ⟨lv, s0, g1, g2, g3, g4⟩
    · cases h
    rw [hT] at g4
    refine all_has hok (lv := lv) (by omega) (by omega) (by omega) (near_at (by rw [hlev p mp.1] at g3; exact g3) q hlt (fun x h1 h2 => ?_))
    have hf := hbet x h1 h2
    have : ¬ (lv : Int) ≤ lev B x := fun hc => by
      have := g4 x (by omega) hc
      rw [hf] at this; cases this
    rw [hlev x (by omega)] at this
    show lev (levsV t l) x < lv
    omega
end
section
variable {gh : Int} {gl gt : List UInt8} {gn : Int} {t : List UInt8} {m k a b c5 c6 : Int}
end
end Go.Proofs.YteiahdlklppghaaGreat.Ev

namespace Go.Proofs.YteiahdlklppghaaGreat.Ev
open Go Go.RowKit
abbrev noOpen : AV := .agg [.int 0, .int 0, .slice []]
def stepAt (y o : AV) : AV := .agg [.agg [.int ((y.fld 0).fld 0).toInt, .blob ((y.fld 0).fld 1).toBlob, .blob ((y.fld 0).fld 2).toBlob, .int ((y.fld 0).fld 3).toInt], .agg [.int (o.fld 0).toInt, .int (o.fld 1).toInt, .slice (o.fld 2).toSlice]]
def idxP (t : List UInt8) (l ps : List AV) (i : Nat) : Int := idxV (allOf (levsV t l) (nth ps i).toInt) (nth ps (i - 1)).toInt (allOf (levsV t l) (nth ps i).toInt).length 0
def vecP (t : List UInt8) (l ps : List AV) (i : Nat) : List AV := vecV t l (min (nth ps i).toInt.toNat l.length)
def opP (t : List UInt8) (l ps : List AV) (i : Nat) : List AV := openV (linkT (vecP t l ps i)) (idxP t l ps i)
def proveL (t : List UInt8) (l ps : List AV) : Nat → Nat → List AV → List AV
  | 0, _, acc => [.slice acc, .int 0]
  | j + 1, i, acc =>
    bif ltI (nth ps i).toInt 0 then [.slice [], .int 15] else bif leI (l.length : Int) (nth ps i).toInt then [.slice [], .int 15] else
    bif ltI 0 (i : Int) then
      (bif ltI (idxP t l ps i) 0 then [.slice [], .int 10] else bif !(eqI (nth (opP t l ps i) 1).toInt 0) then [.slice [], .int (nth (opP t l ps i) 1).toInt]
       else proveL t l ps j (i + 1) (acc ++ [stepAt (nth l (nth ps i).toInt.toNat) (nth (opP t l ps i) 0)]))
    else proveL t l ps j (i + 1) (acc ++ [stepAt (nth l (nth ps i).toInt.toNat) noOpen])
theorem vecP_len (t : List UInt8) (l ps : List AV) (i : Nat) : (vecP t l ps i).length ≤ 257 := vecV_len _ _ _
theorem opP_form (t : List UInt8) (l ps : List AV) (i : Nat) : ∃ (a b : Int) (p : List AV) (e : Int), opP t l ps i = [.agg [.int a, .int b, .slice p], .int e] ∧ p.length ≤ 257 := by
  obtain ⟨a, b, p, e, h, _, h2⟩ := openV_form (linkT (vecP t l ps i)) (idxP t l ps i)
  rw [linkT_len] at h2
  exact ⟨a, b, p, e, h, Nat.le_trans h2 (vecP_len t l ps i)⟩
def PathsS (m : List AV) : Prop := ∀ i, i < m.length → (((nth m i).fld 1).fld 2).toSlice.length ≤ 1000
theorem pathsS_snoc {m : List AV} {y : AV} (h : PathsS m) (hy : ((y.fld 1).fld 2).toSlice.length ≤ 1000) : PathsS (m ++ [y]) := by
  intro i hi
  by_cases hlt : i < m.length
  · have e : nth (m ++ [y]) i = nth m i := by rw [nth_lt hi, nth_lt hlt, List.getElem_append_left hlt]
    rw [e]; exact h i hlt
  · rw [List.length_append] at hi
    have e : nth (m ++ [y]) i = y := by
      obtain rfl : i = m.length := by simp at hi; omega
      rw [nth_lt (by simp), List.getElem_append_right (Nat.le_refl _)]; simp
    rw [e]; exact hy
theorem proveL_form (t : List UInt8) (l ps : List AV) : ∀ j i acc, PathsS acc → ∃ m e, proveL t l ps j i acc = [.slice m, .int e] ∧ PathsS m ∧ m.length ≤ acc.length + j
  | 0, _, acc, h => ⟨acc, 0, rfl, h, Nat.le_refl _⟩
  | j + 1, i, acc, h => by
    have hn : PathsS ([] : List AV) := fun i hi => by simp at hi
    obtain ⟨a, b, p, e, hf, hp⟩ := opP_form t l ps i
    simp only [proveL]
    rw [hf]
    cases ltI (nth ps i).toInt 0
    · rw [cond_false]
      cases leI (l.length : Int) (nth ps i).toInt
      · rw [cond_false]
        cases ltI 0 (i : Int)
        · rw [cond_false]
          obtain ⟨m, e', h1, h2, h3⟩ := proveL_form t l ps j (i + 1) (acc ++ [stepAt (nth l (nth ps i).toInt.toNat) noOpen]) (pathsS_snoc h (by show ([] : List AV).length ≤ 1000; simp))
          exact ⟨m, e', h1, h2, by simp at h3; omega⟩
        · rw [cond_true]
          cases ltI (idxP t l ps i) 0
          · rw [cond_false]
            cases (!(eqI (nth [AV.agg [.int a, .int b, .slice p], .int e] 1).toInt 0))
            · rw [cond_false]
              obtain ⟨m, e', h1, h2, h3⟩ := proveL_form t l ps j (i + 1) (acc ++ [stepAt (nth l (nth ps i).toInt.toNat) (nth [AV.agg [.int a, .int b, .slice p], .int e] 0)]) (pathsS_snoc h (by show p.length ≤ 1000; omega))
              exact ⟨m, e', h1, h2, by simp at h3; omega⟩
            · exact ⟨[], _, rfl, hn, by simp⟩
          · exact ⟨[], _, rfl, hn, by simp⟩
      · exact ⟨[], _, rfl, hn, by simp⟩
    · exact ⟨[], _, rfl, hn, by simp⟩
section
variable {t : List UInt8} {l ps : List AV}
theorem proveSteps_runs (ht : t.length = 32) (hl : l.length ≤ 1000) (hh : Heads l) (hp : ps.length ≤ 1000) : RunsX 23 [.blob t, .slice l, .slice ps] ⟨proveL t l ps ps.length 0 [], [], false⟩ := by
  have hall := Evt.all ps.length fun i (_ : i < ps.length) => (idxU_runs (l := levsV t l) (at_ := (nth ps i).toInt) («to» := (nth ps (i - 1)).toInt) (by rw [levsV_len, maxLen_eq]; omega)).and
    (linkOpen_runs (v := vecP t l ps i) (i := idxP t l ps i) (Nat.le_trans (vecP_len t l ps i) (by omega)) (vecV_blob _ _ _))
  refine Evt.succ ((((levels_runs (t := t) (l := l) ht (by omega) hh).and (vectors_runs (t := t) (l := l) ht (by omega) hh)).and (hall.and (Evt.ge (ps.length + 2)))).mono fun n hn => ?_)
  obtain ⟨⟨g1, g2⟩, g3, g4⟩ := hn
  have key : ∀ (j k i : Nat) (acc : List AV), i + j = ps.length → j < k → acc.length ≤ i → f23_l0 (runE G ext n) n k l ps (levsV t l) (vecsV t l (l.length + 1)) acc ps (ps.length : Int) (i : Int) = some ⟨proveL t l ps j i acc, [], false⟩ := by
    intro j
    induction j with
    | zero =>
      intro k i acc hi hk _
      obtain ⟨k, rfl⟩ : ∃ j, k = j + 1 := ⟨k - 1, by omega⟩
      rw [f23_l0_eq, ltI_f (by omega)]; rfl
    | succ j ih =>
      intro k i acc hi hk ha
      obtain ⟨k, rfl⟩ : ∃ j, k = j + 1 := ⟨k - 1, by omega⟩
      obtain ⟨e1, e2⟩ := g3 i (by omega)
      obtain ⟨a, b, p, e, hf, hp⟩ := opP_form t l ps i
      have iA := ih k (i + 1) (acc ++ [stepAt (nth l (nth ps i).toInt.toNat) (nth (opP t l ps i) 0)]) (by omega) (by omega) (by simp; omega)
      have iB := ih k (i + 1) (acc ++ [stepAt (nth l (nth ps i).toInt.toNat) noOpen]) (by omega) (by omega) (by simp; omega)
      rw [show ((i + 1 : Nat) : Int) = (i : Int) + 1 by omega] at iA iB
      have e2' : runE G ext n 45 [.slice (vecP t l ps i), .int (idxP t l ps i)] = some ⟨opP t l ps i, [], false⟩ := e2
      have e1' : runE G ext n 44 [.slice (levsV t l), .int (nth ps i).toInt, .int (nth ps (i - 1)).toInt] = some ⟨[.int (idxP t l ps i)], [], false⟩ := e1
      have nb : Nat.ble ((acc.length + 1) * 120) 140737488355328 = true := Nat.ble_eq_true_of_le (by omega)
      simp only [proveL]
      rw [f23_l0_eq, ltI_t (a := (i : Int)) (b := (ps.length : Int)) (by omega), cond_true, inR_nat (by omega), cond_true, Int.toNat_natCast, w64 (x := (i : Int) + 1) (by omega) (by omega), nb]
      by_cases h1 : (nth ps i).toInt < 0
      · rw [ltI_t h1]; rfl
      rw [ltI_f h1, cond_false, cond_false]
      by_cases h2 : (l.length : Int) ≤ (nth ps i).toInt
      · rw [leI_t h2]; rfl
      rw [leI_f h2, cond_false, cond_false, inR_int (by omega) (by omega), cond_true]
      by_cases h0 : i = 0
      · rw [ltI_f (a := 0) (b := (i : Int)) (by omega), cond_false, cond_false, cond_true]
        exact iB
      · rw [ltI_t (a := 0) (b := (i : Int)) (by omega), cond_true, cond_true, w64 (x := (i : Int) - 1) (by omega) (by omega), show (i : Int) - 1 = ((i - 1 : Nat) : Int) by omega, inR_nat (by omega), cond_true, Int.toNat_natCast, e1', step1, toInt_i]
        have hv : (nth (vecsV t l (l.length + 1)) (nth ps i).toInt.toNat).toSlice = vecP t l ps i := by
          rw [vecsV_nth t l (by omega)]
          unfold vecP
          rw [show min (nth ps i).toInt.toNat l.length = (nth ps i).toInt.toNat by omega]
          rfl
        rw [hv, vecsV_len, inR_int (i := (nth ps i).toInt) (n := l.length + 1) (by omega) (by omega), cond_true, e2']
        rw [hf] at iA ⊢
        rw [step2, toInt_i, cond_true]
        cases ltI (idxP t l ps i) 0
        · rw [cond_false, cond_false]
          change (bif !(eqI e 0) then _ else _) = some (⟨bif !(eqI e 0) then _ else _, [], false⟩ : Res)
          cases eqI e 0
          · rfl
          · rw [not_t, cond_false, cond_false]
            exact iA
        · rfl
  rw [f23_run, f23_eq, g1, step1f, toSlice_s, g2, step1f, toSlice_s]
  exact key ps.length n 0 [] (by omega) (by omega) (by simp)
theorem refSteps_runs (ht : t.length = 32) (hl : l.length ≤ 1000) (hh : Heads l) (hp : ps.length ≤ 1000) : RunsX 24 [.blob t, .slice l, .slice ps] ⟨proveL t l ps ps.length 0 [], [], false⟩ := by
  have hall := Evt.all ps.length fun i (_ : i < ps.length) => ((idxR_runs (l := levsV t l) (at_ := (nth ps i).toInt) («to» := (nth ps (i - 1)).toInt) (by rw [levsV_len, maxLen_eq]; omega)).and
    (rule_runs (t := t) (l := l) (i := min (nth ps i).toInt.toNat l.length) (by omega) (by omega))).and
    ((refLinkTexts_runs (l := vecP t l ps i) (Nat.le_trans (vecP_len t l ps i) (by omega)) (vecV_blob _ _ _)).and
     (refOpen_runs (l := linkT (vecP t l ps i)) (i := idxP t l ps i) (by rw [linkT_len]; exact Nat.le_trans (vecP_len t l ps i) (by omega)) (linkT_short (vecV_blob _ _ _))))
  refine Evt.succ ((((refBIds_runs (l := l) (by omega) hh).and (refLevels_runs (t := t) (l := l) ht (by omega))).and (hall.and (Evt.ge (ps.length + 2)))).mono fun n hn => ?_)
  obtain ⟨⟨g1, g2⟩, g3, g4⟩ := hn
  have key : ∀ (j k i : Nat) (acc : List AV), i + j = ps.length → j < k → acc.length ≤ i → f24_l0 (runE G ext n) n k l ps (idsV l) (levsV t l) acc (i : Int) = some ⟨proveL t l ps j i acc, [], false⟩ := by
    intro j
    induction j with
    | zero =>
      intro k i acc hi hk _
      obtain ⟨k, rfl⟩ : ∃ j, k = j + 1 := ⟨k - 1, by omega⟩
      rw [f24_l0_eq, ltI_f (by omega)]; rfl
    | succ j ih =>
      intro k i acc hi hk ha
      obtain ⟨k, rfl⟩ : ∃ j, k = j + 1 := ⟨k - 1, by omega⟩
      obtain ⟨⟨e1, e2⟩, e3, e4⟩ := g3 i (by omega)
      obtain ⟨a, b, p, e, hf, hp⟩ := opP_form t l ps i
      have iA := ih k (i + 1) (acc ++ [stepAt (nth l (nth ps i).toInt.toNat) (nth (opP t l ps i) 0)]) (by omega) (by omega) (by simp; omega)
      have iB := ih k (i + 1) (acc ++ [stepAt (nth l (nth ps i).toInt.toNat) noOpen]) (by omega) (by omega) (by simp; omega)
      rw [show ((i + 1 : Nat) : Int) = (i : Int) + 1 by omega] at iA iB
      have e4' : runE G ext n 47 [.slice (linkT (vecP t l ps i)), .int (idxP t l ps i)] = some ⟨opP t l ps i, [], false⟩ := e4
      have e1' : runE G ext n 46 [.slice (levsV t l), .int (nth ps i).toInt, .int (nth ps (i - 1)).toInt] = some ⟨[.int (idxP t l ps i)], [], false⟩ := e1
      have nb : Nat.ble ((acc.length + 1) * 120) 140737488355328 = true := Nat.ble_eq_true_of_le (by omega)
      simp only [proveL]
      rw [f24_l0_eq, ltI_t (a := (i : Int)) (b := (ps.length : Int)) (by omega), cond_true, inR_nat (by omega), cond_true, Int.toNat_natCast, w64 (x := (i : Int) + 1) (by omega) (by omega), nb]
      by_cases h1 : (nth ps i).toInt < 0
      · rw [ltI_t h1]; rfl
      rw [ltI_f h1, cond_false, cond_false]
      by_cases h2 : (l.length : Int) ≤ (nth ps i).toInt
      · rw [leI_t h2]; rfl
      rw [leI_f h2, cond_false, cond_false, inR_int (by omega) (by omega), cond_true]
      by_cases h0 : i = 0
      · rw [ltI_f (a := 0) (b := (i : Int)) (by omega), cond_false, cond_false, cond_true]
        exact iB
      · have e2' : runE G ext n 49 [.slice (idsV l), .slice (levsV t l), .int (nth ps i).toInt] = some ⟨[.slice (vecP t l ps i)], [], true⟩ := by
          rw [show ((min (nth ps i).toInt.toNat l.length : Nat) : Int) = (nth ps i).toInt by omega] at e2
          exact e2
        rw [ltI_t (a := 0) (b := (i : Int)) (by omega), cond_true, cond_true, w64 (x := (i : Int) - 1) (by omega) (by omega), show (i : Int) - 1 = ((i - 1 : Nat) : Int) by omega, inR_nat (by omega), cond_true, Int.toNat_natCast, e1', step1, toInt_i, e2', step1f, toSlice_s, e3, step1f, toSlice_s, e4']
        rw [hf] at iA ⊢
        rw [step2, toInt_i, cond_true]
        cases ltI (idxP t l ps i) 0
        · rw [cond_false, cond_false]
          change (bif !(eqI e 0) then _ else _) = some (⟨bif !(eqI e 0) then _ else _, [], false⟩ : Res)
          cases eqI e 0
          · rfl
          · rw [not_t, cond_false, cond_false]
            exact iA
        · rfl
  rw [f24_run, f24_eq, g1, step1f, toSlice_s, g2, step1f, toSlice_s]
  exact key ps.length n 0 [] (by omega) (by omega) (by simp)
end
theorem sameStp_runs {y : AV} (hy : (((y.fld 1).fld 2).toSlice).length ≤ maxLen) :
    RunsX 30 [.agg [.agg [.int ((y.fld 0).fld 0).toInt, .blob ((y.fld 0).fld 1).toBlob, .blob ((y.fld 0).fld 2).toBlob, .int ((y.fld 0).fld 3).toInt], .agg [.int ((y.fld 1).fld 0).toInt, .int ((y.fld 1).fld 1).toInt, .slice ((y.fld 1).fld 2).toSlice]], .agg [.agg [.int ((y.fld 0).fld 0).toInt, .blob ((y.fld 0).fld 1).toBlob, .blob ((y.fld 0).fld 2).toBlob, .int ((y.fld 0).fld 3).toInt], .agg [.int ((y.fld 1).fld 0).toInt, .int ((y.fld 1).fld 1).toInt, .slice ((y.fld 1).fld 2).toSlice]]] ⟨[.bool true], [], false⟩ := by
  refine Evt.succ ((refSame_refl (a := ((y.fld 1).fld 0).toInt) (b := ((y.fld 1).fld 1).toInt) hy).mono fun n hn => ?_)
  rw [f30_run, f30_eq, eqI_t rfl, eqS_t rfl, eqS_t rfl, eqI_t rfl, show (true && (true && (true && (true && true)))) = true from rfl, cond_true, hn, step1]
  rfl
theorem sameStps_runs {m : List AV} (hm : m.length ≤ 10000000) (hp : PathsS m) : RunsX 13 [.slice m, .slice m] ⟨[.bool true], [], false⟩ := by
  have hall := Evt.all m.length fun i (hi : i < m.length) => sameStp_runs (y := nth m i) (by have := hp i hi; rw [maxLen_eq]; omega)
  refine Evt.succ ((hall.and (Evt.ge (m.length + 2))).mono fun n hn => ?_)
  have key : ∀ (j k i : Nat), i + j = m.length → j < k → f13_l0 (runE G ext n) n k m m (i : Int) = some ⟨[.bool true], [], false⟩ := by
    intro j
    induction j with
    | zero =>
      intro k i hi hk
      obtain ⟨k, rfl⟩ : ∃ j, k = j + 1 := ⟨k - 1, by omega⟩
      rw [f13_l0_eq, ltI_f (by omega)]; rfl
    | succ j ih =>
      intro k i hi hk
      obtain ⟨k, rfl⟩ : ∃ j, k = j + 1 := ⟨k - 1, by omega⟩
      have ih' := ih k (i + 1) (by omega) (by omega)
      rw [show ((i + 1 : Nat) : Int) = (i : Int) + 1 by omega] at ih'
      rw [f13_l0_eq, ltI_t (by omega), cond_true, inR_nat (by omega), cond_true, cond_true, Int.toNat_natCast, hn.1 i (by omega), step1, toBool_b, not_t, cond_false, w64 (by omega) (by omega), ih']
  rw [f13_run, f13_eq, eqI_t rfl, not_t, cond_false]
  exact key m.length n 0 (by omega) (by omega)
def zbk : AV := .agg [.agg [.int 0, .blob (List.replicate 32 0), .blob (List.replicate 32 0), .int 0], .slice []]
theorem proveAwake : RunsX 7 [] ⟨[.bool true], [], false⟩ := by
  have hB : Blocks ([] : List AV) := fun i hi => by simp at hi
  have hh : Heads (List.replicate 1 zbk) := by
    intro i hi
    rw [nth_lt hi, List.getElem_replicate]
    exact ⟨by decide, by decide, by decide, by decide, by decide, by decide⟩
  have r0 := chainCheck_runs (gh := 0) (gl := List.replicate 32 0) (gt := List.replicate 32 0) (gn := 0) (t := List.replicate 32 0) (c1 := 0) (c2 := 0) (c3 := 0) (c4 := 0) (c5 := 0) (c6 := 0) (l := []) (by simp) hB
  rw [show chainV 0 (List.replicate 32 0) (List.replicate 32 0) 0 (List.replicate 32 0) [] = .agg [.int 6, .int 0] from rfl] at r0
  have r1 : RunsX 14 [Cfg 0 (List.replicate 32 0) (List.replicate 32 0) 0 (List.replicate 32 0) 0 0 0 0 0 0, .slice []] ⟨[.int 6], [], false⟩ := by
    refine Evt.succ (r0.mono fun n hn => ?_)
    rw [f14_run, f14_eq, hn, step1]; rfl
  have r2 : RunsX 8 [Cfg 0 (List.replicate 32 0) (List.replicate 32 0) 0 (List.replicate 32 0) 0 0 0 0 0 0, .slice []] ⟨[.slice [], .int 6], [], f8_fresh⟩ := by
    refine Evt.succ (r1.mono fun n hn => ?_)
    rw [f8_run, f8_eq, hn, step1]; rfl
  have r3 := proveSteps_runs (t := List.replicate 32 0) (l := List.replicate 1 zbk) (ps := [.int 0]) (by simp) (by simp) hh (by simp)
  rw [show proveL (List.replicate 32 0) (List.replicate 1 zbk) [.int 0] ([.int 0] : List AV).length 0 [] = [.slice [stepAt zbk noOpen], .int 0] from rfl] at r3
  have z : (List.replicate 32 (0 : UInt8)) = [0, 0, 0, 0, 0, 0, 0, 0, 0, 0, 0, 0, 0, 0, 0, 0, 0, 0, 0, 0, 0, 0, 0, 0, 0, 0, 0, 0, 0, 0, 0, 0] := rfl
  have r3' : RunsX 23 [.blob [0, 0, 0, 0, 0, 0, 0, 0, 0, 0, 0, 0, 0, 0, 0, 0, 0, 0, 0, 0, 0, 0, 0, 0, 0, 0, 0, 0, 0, 0, 0, 0], .slice (List.replicate 1 (.agg [.agg [.int 0, .blob (List.replicate 32 0), .blob (List.replicate 32 0), .int 0], .slice []])), .slice [.int 0]] ⟨[.slice [stepAt zbk noOpen], .int 0], [], false⟩ := r3
  refine Evt.succ ((r2.and r3').mono fun n hn => ?_)
  rw [f7_run, f7_eq, hn.1, step2, hn.2, step2]
  rfl
end Go.Proofs.YteiahdlklppghaaGreat.Ev

namespace Go.Proofs.YteiahdlklppghaaGreat.Ev
open Go Go.RowKit
def hgt (y : AV) : Int := ((y.fld 0).fld 0).toInt
section
variable {gh : Int} {gl gt : List UInt8} {gn : Int} {t : List UInt8} {c1 c2 c3 c4 c5 c6 : Int}
end
end Go.Proofs.YteiahdlklppghaaGreat.Ev

namespace Go.Proofs.YteiahdlklppghaaGreat.Ev
open Go Go.RowKit
section
variable {gh : Int} {gl gt : List UInt8} {gn : Int} {t : List UInt8} {l : List AV}
end
section
variable {t : List UInt8} {l ps : List AV} {p : Nat → Nat}
end
def placesL (P : List AV) (N len : Nat) : List AV := P ++ (List.range (len - N)).map fun j => AV.int ((N + j : Nat) : Int)
theorem placesL_len (P : List AV) {N len : Nat} : (placesL P N len).length = P.length + (len - N) := by simp [placesL]
section
variable {t : List UInt8} {l : List AV}
end
end Go.Proofs.YteiahdlklppghaaGreat.Ev

namespace Go.Proofs.YteiahdlklppghaaGreat.Ev
open Go Go.RowKit
section
variable {gh : Int} {gl gt : List UInt8} {gn : Int} {t : List UInt8} {m K a b c5 c6 : Int} {l : List AV}
def mayE (gh : Int) (gl gt : List UInt8) (gn : Int) (t : List UInt8) (m K a b : Int) (l : List AV) : Int :=
  bif !(eqI ((chainV gh gl gt gn t l).fld 0).toInt 0) then ((chainV gh gl gt gn t l).fld 0).toInt else bif !(mayP m K a b) then 13 else bif leI (l.length : Int) K then 11 else 0
theorem proveMay_runs (ht : t.length = 32) (hB : Blocks l) : RunsX 14 [Cfg gh gl gt gn t m K a b c5 c6, .slice l] ⟨[.int (mayE gh gl gt gn t m K a b l)], [], false⟩ := by
  refine Evt.succ (((chainCheck_runs (gh := gh) (gl := gl) (gt := gt) (gn := gn) (t := t) (c1 := m) (c2 := K) (c3 := a) (c4 := b) (c5 := c5) (c6 := c6) (l := l) ht hB).and (mayP_runs (m := m) (k := K) (a := a) (b := b))).mono fun n hn => ?_)
  unfold mayE
  rw [f14_run, f14_eq, hn.1, step1]
  cases eqI ((chainV gh gl gt gn t l).fld 0).toInt 0 with
  | false => rfl
  | true =>
    rw [not_t, cond_false, cond_false, hn.2, step1, toBool_b]
    cases mayP m K a b with
    | false => rfl
    | true =>
      rw [not_t, cond_false, cond_false]
      cases leI (l.length : Int) K <;> rfl
theorem places_runsP {P : List AV} (ht : t.length = 32) (hl : l.length ≤ 100000) (hh : Heads l) (hP : P = pickV (levsV t l) m K a b) (hP1 : 1 ≤ P.length) (hP2 : P.length ≤ 100000) (hK : 1 ≤ K) (hK2 : K < l.length) :
    RunsX 11 [Cfg gh gl gt gn t m K a b c5 c6, .slice l] ⟨[.slice (placesL P (l.length - K.toNat) l.length)], [], true⟩ := by
  have r2 := pick_runs (L := levsV t l) (m := m) (k := K) (a := a) (b := b) (by rw [levsV_len]; omega)
  rw [← hP] at r2
  refine Evt.succ (((levels_runs (t := t) (l := l) ht hl hh).and (r2.and (Evt.ge (l.length + 2)))).mono fun n hn => ?_)
  obtain ⟨g1, g2, g3⟩ := hn
  rw [f11_run, f11_eq, g1, step1f, toSlice_s, g2, step1f, toSlice_s, mx2_eq, mx2_eq, show max K 0 = K by omega, w64 (by omega) (by omega), show max 0 ((l.length : Int) - K) = ((l.length - K.toNat : Nat) : Int) by omega]
  have key : ∀ (j k i : Nat), (l.length - K.toNat) + i + j = l.length → j < k → f11_l0 (runE G ext n) n k l (P ++ (List.range i).map fun j => AV.int ((l.length - K.toNat + j : Nat) : Int)) ((l.length - K.toNat + i : Nat) : Int) = some ⟨[.slice (placesL P (l.length - K.toNat) l.length)], [], true⟩ := by
    intro j
    induction j with
    | zero =>
      intro k i hi hk
      obtain ⟨k, rfl⟩ : ∃ j, k = j + 1 := ⟨k - 1, by omega⟩
      rw [f11_l0_eq, ltI_f (by omega), cond_false]
      unfold placesL
      rw [show l.length - (l.length - K.toNat) = i by omega]; rfl
    | succ j ih =>
      intro k i hi hk
      obtain ⟨k, rfl⟩ : ∃ j, k = j + 1 := ⟨k - 1, by omega⟩
      have ih' := ih k (i + 1) (by omega) (by omega)
      rw [List.range_succ, List.map_append, ← List.append_assoc, List.map_singleton] at ih'
      rw [f11_l0_eq, ltI_t (by omega), cond_true, ltI_t (by rw [List.length_append]; omega), cond_true, Nat.ble_eq_true_of_le (by simp; omega), cond_true, w64 (by omega) (by omega), show ((l.length - K.toNat + i : Nat) : Int) + 1 = ((l.length - K.toNat + (i + 1) : Nat) : Int) by omega]
      exact ih'
  have k := key (l.length - (l.length - K.toNat)) n 0 (by omega) (by omega)
  rw [show (List.range 0).map (fun j => AV.int ((l.length - K.toNat + j : Nat) : Int)) = [] from rfl, List.append_nil, Nat.add_zero] at k
  exact k
end
end Go.Proofs.YteiahdlklppghaaGreat.Ev

namespace Go.Proofs.YteiahdlklppghaaGreat.Ev
open Go Go.RowKit
theorem trim_runsX {L : List AV} (hL : L.length ≤ 100000) : RunsX 173 [.slice L] ⟨[.slice (trimL L)], [], f173_fresh⟩ := by
  refine Evt.succ ((Evt.ge (L.length + 2)).mono fun n hn => ?_)
  have key : ∀ (j : Nat) (k : Nat) (y : List AV), y.length = j → j ≤ 100000 → j < k → f173_l0 (runE G ext n) n k y = some ⟨[.slice (trimL y)], [], f173_fresh⟩ := by
    intro j
    induction j with
    | zero =>
      intro k y hy _ hk
      obtain ⟨k, rfl⟩ : ∃ j, k = j + 1 := ⟨k - 1, by omega⟩
      rw [f173_l0_eq, ltI_f (by omega), cond_false, List.length_eq_zero_iff.1 hy]; rfl
    | succ j ih =>
      intro k y hy hj hk
      obtain ⟨k, rfl⟩ : ∃ j, k = j + 1 := ⟨k - 1, by omega⟩
      rcases List.eq_nil_or_concat y with rfl | ⟨x, a, rfl⟩
      · simp at hy
      · rw [List.concat_eq_append] at hy ⊢
        have hx : x.length = j := by simp at hy; omega
        have e1 : nth (x ++ [a]) j = a := by
          rw [nth_lt (by rw [hy]; omega), List.getElem_append_right (by omega)]
          simp [hx]
        have e2 : (x ++ [a]).take j = x := by rw [← hx, List.take_left]
        rw [f173_l0_eq, hy, ltI_t (by omega), cond_true, w64 (by omega) (by omega), show ((j + 1 : Nat) : Int) - 1 = (j : Int) by omega, inR_nat (by omega), cond_true, Int.toNat_natCast, e1, trimL_last]
        cases eqI a.toInt 0 with
        | false => rfl
        | true =>
          rw [cond_true, show (boundsOk 0 (j : Int) ((j + 1 : Nat) : Int) ((j + 1 : Nat) : Int) && true) = true by simp [boundsOk]; omega, cond_true, e2, List.drop_zero, ih k x hx (by omega) (by omega)]
          rfl
  rw [f173_run, f173_eq]
  exact key L.length n L rfl hL (by omega)
theorem tm_nat (x : Nat) (h : x ≤ 9000000000000000000) : IntKind.wrap .i64 (Int.tmod (x : Int) 65536) = ((x % 65536 : Nat) : Int) := by
  rw [Int.tmod_eq_emod_of_nonneg (by omega), w64 (by omega) (by omega)]; omega
theorem td_nat (x : Nat) (h : x ≤ 9000000000000000000) : IntKind.wrap .u64 (Int.tdiv (x : Int) 65536) = ((x / 65536 : Nat) : Int) := by
  rw [Int.tdiv_eq_ediv_of_nonneg (by omega), wrap64]; omega
def dig4 (v : Nat) : Nat → Nat
  | 0 => v % 65536
  | 1 => v / 65536 % 65536
  | 2 => v / 65536 / 65536 % 65536
  | 3 => v / 65536 / 65536 / 65536 % 65536
  | _ => 0
theorem dig4_lt (v : Nat) : ∀ j, dig4 v j < 65536
  | 0 => by show v % 65536 < 65536; omega
  | 1 => by show v / 65536 % 65536 < 65536; omega
  | 2 => by show v / 65536 / 65536 % 65536 < 65536; omega
  | 3 => by show v / 65536 / 65536 / 65536 % 65536 < 65536; omega
  | _ + 4 => by show 0 < 65536; decide
theorem ofB_runs {v : Nat} (hv : v ≤ 9000000000000000000) : RunsX 160 [.int (v : Int)] ⟨[.slice (digs 4 v)], [], f160_fresh⟩ := by
  have ht := trim_runsX (L := (List.range 4).map fun t => AV.int (dig4 v t : Int)) (by simp)
  have e : vn (dig4 v) 4 = v := by
    simp only [vn, dig4]
    omega
  rw [(trimL_digs 4 (dig4 v) (dig4_lt v)).1, e] at ht
  have hl : RunsX 174 [.slice [.int (v : Int)]] ⟨[.slice (digs 4 v)], [], f174_fresh⟩ := by
    refine Evt.succ ((ht.and (Evt.ge 10)).mono fun n hn => ?_)
    obtain ⟨k, rfl⟩ : ∃ k, n = k + 10 := ⟨n - 10, by omega⟩
    have hl1 : (([.int (v : Int)] : List AV).length : Int) = 1 := rfl
    rw [f174_run, f174_eq, f174_l0_eq, hl1, ltI_t (by omega), cond_true, show inR 0 ([.int (v : Int)] : List AV).length = true from rfl, cond_true, show nth [AV.int (v : Int)] (Int.toNat 0) = .int (v : Int) from rfl, toInt_i]
    rw [f174_l2_eq, ltI_t (by omega), cond_true, show Nat.ble ((([] : List AV).length + 1) * 8) 140737488355328 = true from rfl, cond_true, tm_nat v hv, td_nat v hv, show IntKind.wrap .i64 (0 + 1) = 1 by decide, List.nil_append]
    rw [f174_l2_eq, ltI_t (by omega), cond_true, show Nat.ble (([AV.int ((v % 65536 : Nat) : Int)].length + 1) * 8) 140737488355328 = true from rfl, cond_true, tm_nat _ (by omega), td_nat _ (by omega), show IntKind.wrap .i64 (1 + 1) = 2 by decide]
    rw [f174_l2_eq, ltI_t (by omega), cond_true, show Nat.ble ((([AV.int ((v % 65536 : Nat) : Int)] ++ [AV.int ((v / 65536 % 65536 : Nat) : Int)]).length + 1) * 8) 140737488355328 = true from rfl, cond_true, tm_nat _ (by omega), td_nat _ (by omega), show IntKind.wrap .i64 (2 + 1) = 3 by decide]
    rw [f174_l2_eq, ltI_t (by omega), cond_true, show Nat.ble ((([AV.int ((v % 65536 : Nat) : Int)] ++ [AV.int ((v / 65536 % 65536 : Nat) : Int)] ++ [AV.int ((v / 65536 / 65536 % 65536 : Nat) : Int)]).length + 1) * 8) 140737488355328 = true from rfl, cond_true, tm_nat _ (by omega), td_nat _ (by omega), show IntKind.wrap .i64 (3 + 1) = 4 by decide]
    rw [f174_l2_eq, ltI_f (by omega), cond_false, show IntKind.wrap .i64 (0 + 1) = 1 by decide]
    rw [f174_l0_eq, hl1, ltI_f (by omega), cond_false]
    have h1 : runE G ext (k + 10) 173 [.slice ([AV.int ((v % 65536 : Nat) : Int)] ++ [AV.int ((v / 65536 % 65536 : Nat) : Int)] ++ [AV.int ((v / 65536 / 65536 % 65536 : Nat) : Int)] ++ [AV.int ((v / 65536 / 65536 / 65536 % 65536 : Nat) : Int)])] = _ := hn.1
    rw [h1]; rfl
  refine Evt.succ (hl.mono fun n hn => ?_)
  rw [f160_run, f160_eq, hn]; rfl
theorem vl_app (a : AV) : ∀ l : List AV, vl (l ++ [a]) = vl l + a.toInt.toNat * 65536 ^ l.length
  | [] => by simp [vl]
  | b :: l => by
    have ih := vl_app a l
    show b.toInt.toNat + 65536 * vl (l ++ [a]) = b.toInt.toNat + 65536 * vl l + a.toInt.toNat * 65536 ^ (l.length + 1)
    have e3 : a.toInt.toNat * 65536 ^ (l.length + 1) = 65536 * (a.toInt.toNat * 65536 ^ l.length) := by rw [Nat.pow_succ, ← Nat.mul_assoc, Nat.mul_comm]
    rw [ih, e3, Nat.mul_add]
    omega
theorem digOk_cons {a : AV} {l : List AV} : digOk (a :: l) = true ↔ (0 ≤ a.toInt ∧ a.toInt < 65536) ∧ digOk l = true := by
  unfold digOk
  rw [List.all_cons, Bool.and_eq_true, Bool.and_eq_true, leI_iff, ltI_iff]
theorem digOk_take {l : List AV} (h : digOk l = true) (j : Nat) : digOk (l.take j) = true := by
  unfold digOk at h ⊢
  rw [List.all_eq_true] at h ⊢
  intro x hx
  exact h x (List.mem_of_mem_take hx)
theorem vl_lt : ∀ {l : List AV}, digOk l = true → vl l < 65536 ^ l.length
  | [], _ => by simp [vl]
  | a :: l, h => by
    obtain ⟨h1, h2⟩ := digOk_cons.1 h
    have ih := vl_lt h2
    show a.toInt.toNat + 65536 * vl l < 65536 ^ (l.length + 1)
    rw [Nat.pow_succ]
    omega
theorem digs_ok : ∀ k v, digOk (digs k v) = true ∧ (digs k v).length ≤ k ∧ (v < 65536 ^ k → vl (digs k v) = v ∧ ((digs k v).length ≠ 0 → 65536 ^ ((digs k v).length - 1) ≤ v))
  | 0, v => ⟨rfl, Nat.le_refl 0, fun h => ⟨by simp at h; rw [h]; rfl, fun h => absurd rfl h⟩⟩
  | k + 1, v => by
    by_cases h0 : v = 0
    · subst h0
      exact ⟨rfl, Nat.zero_le _, fun _ => ⟨rfl, fun h => absurd rfl h⟩⟩
    · obtain ⟨i1, i2, i3⟩ := digs_ok k (v / 65536)
      have e : digs (k + 1) v = .int ((v % 65536 : Nat) : Int) :: digs k (v / 65536) := if_neg h0
      rw [e]
      refine ⟨digOk_cons.2 ⟨by show (0 : Int) ≤ ((v % 65536 : Nat) : Int) ∧ ((v % 65536 : Nat) : Int) < 65536; omega, i1⟩, by rw [List.length_cons]; omega, fun h => ?_⟩
      have h2 : v / 65536 < 65536 ^ k := by
        rw [Nat.pow_succ] at h
        exact Nat.div_lt_of_lt_mul (by rw [Nat.mul_comm]; exact h)
      obtain ⟨j1, j2⟩ := i3 h2
      refine ⟨?_, fun _ => ?_⟩
      · show ((v % 65536 : Nat) : Int).toNat + 65536 * vl (digs k (v / 65536)) = v
        rw [j1]; omega
      · rw [List.length_cons, Nat.add_sub_cancel]
        by_cases hl : (digs k (v / 65536)).length = 0
        · rw [hl]; simp; omega
        · have := j2 hl
          obtain ⟨L, hL⟩ : ∃ L, (digs k (v / 65536)).length = L + 1 := ⟨(digs k (v / 65536)).length - 1, by omega⟩
          rw [hL, Nat.add_sub_cancel] at this
          rw [hL, Nat.pow_succ]
          have := Nat.mul_le_of_le_div _ _ _ this
          exact this
theorem mulB_runs {X Y : List AV} (hX : digOk X = true) (hY : digOk Y = true) (h1 : X.length ≤ 1000) (h2 : Y.length ≤ 1000) : RunsX 159 [.slice X, .slice Y] ⟨[.slice (digs (X.length + Y.length + 1) (vl X * vl Y))], [], false⟩ := by
  refine RunsX.of_eval 0 ?_
  show ext 159 _ = _
  have e : ext 159 [.slice X, .slice Y] = mulX [.slice X, .slice Y] := by
    unfold ext
    rw [show assoc extL 159 = some mulX from by rfl]
    rfl
  rw [e]
  show (bif Nat.ble X.length 1000 && (Nat.ble Y.length 1000 && (digOk X && digOk Y)) then some (⟨[.slice (digs (X.length + Y.length + 1) (vl X * vl Y))], [], false⟩ : Res) else none) = _
  rw [Nat.ble_eq_true_of_le h1, Nat.ble_eq_true_of_le h2, hX, hY]; rfl
theorem mulB_fits {X Y : List AV} (hX : digOk X = true) (hY : digOk Y = true) : vl X * vl Y < 65536 ^ (X.length + Y.length + 1) := by
  have h1 := vl_lt hX
  have h2 := vl_lt hY
  have h3 : vl X * vl Y ≤ vl X * 65536 ^ Y.length := Nat.mul_le_mul_left _ (Nat.le_of_lt h2)
  have h4 : vl X * 65536 ^ Y.length < 65536 ^ X.length * 65536 ^ Y.length := Nat.mul_lt_mul_of_pos_right h1 (Nat.pow_pos (by decide))
  rw [← Nat.pow_add] at h4
  have h5 : 65536 ^ (X.length + Y.length) ≤ 65536 ^ (X.length + Y.length + 1) := Nat.pow_le_pow_right (by decide) (by omega)
  omega
def powL (u : Nat) : List AV := List.replicate (u / 16) (.int 0) ++ [.int ((2 ^ (u % 16) : Nat) : Int)]
theorem vl_zeros (x : AV) : ∀ q, vl (List.replicate q (.int 0) ++ [x]) = x.toInt.toNat * 65536 ^ q
  | 0 => by simp [vl]
  | q + 1 => by
    have ih := vl_zeros x q
    rw [List.replicate_succ, List.cons_append]
    show 0 + 65536 * vl (List.replicate q (.int 0) ++ [x]) = _
    rw [ih, Nat.zero_add, Nat.pow_succ, Nat.mul_comm 65536, Nat.mul_assoc]
theorem powL_ok (u : Nat) : digOk (powL u) = true ∧ (powL u).length = u / 16 + 1 ∧ vl (powL u) = 2 ^ u := by
  have h1 : 2 ^ (u % 16) ≤ 2 ^ 15 := Nat.pow_le_pow_right (by decide) (by omega)
  have h2 : (2 : Nat) ^ 15 = 32768 := by decide
  refine ⟨?_, by simp [powL], ?_⟩
  · unfold digOk powL
    rw [List.all_append, Bool.and_eq_true]
    refine ⟨?_, ?_⟩
    · rw [List.all_eq_true]
      intro x hx
      rw [(List.mem_replicate.1 hx).2]
      rfl
    · rw [List.all_cons, List.all_nil, Bool.and_true, Bool.and_eq_true, leI_iff, ltI_iff, toInt_i]
      generalize 2 ^ (u % 16) = z at h1 ⊢
      omega
  · unfold powL
    rw [vl_zeros, toInt_i, Int.toNat_natCast, show (65536 : Nat) = 2 ^ 16 by decide, ← Nat.pow_mul, ← Nat.pow_add]
    congr 1
    omega
theorem power_runs {u : Nat} (hu : u ≤ 255) : RunsX 161 [.int (u : Int)] ⟨[.slice (powL u)], [], f161_fresh⟩ := by
  refine Evt.succ (.of fun n => ?_)
  have e1 : IntKind.wrap .i64 (Int.tdiv (u : Int) 16) = ((u / 16 : Nat) : Int) := by
    rw [Int.tdiv_eq_ediv_of_nonneg (by omega), w64 (by omega) (by omega)]; omega
  have e2 : Int.tmod (u : Int) 16 = ((u % 16 : Nat) : Int) := by
    rw [Int.tmod_eq_emod_of_nonneg (by omega)]; omega
  have h1 : 2 ^ (u % 16) ≤ 2 ^ 15 := Nat.pow_le_pow_right (by decide) (by omega)
  have h2 : (2 : Nat) ^ 15 = 32768 := by decide
  have hb1 : (-9223372036854775808 : Int) ≤ ((2 ^ (u % 16) : Nat) : Int) := by
    generalize 2 ^ (u % 16) = z
    omega
  have hb2 : ((2 ^ (u % 16) : Nat) : Int) ≤ 9223372036854775807 := by
    generalize 2 ^ (u % 16) = z at h1 ⊢
    omega
  have e3 : IntKind.wrap .i64 (1 * 2 ^ (min (Int.toNat ((u % 16 : Nat) : Int)) 64)) = ((2 ^ (u % 16) : Nat) : Int) := by
    rw [Int.toNat_natCast, show min (u % 16) 64 = u % 16 by omega, Int.one_mul, show ((2 : Int) ^ (u % 16)) = ((2 ^ (u % 16) : Nat) : Int) by push_cast; rfl, w64 hb1 hb2]
  have e4 : IntKind.wrap .i64 (((u / 16 : Nat) : Int) + 1) = ((u / 16 + 1 : Nat) : Int) := by rw [w64 (by omega) (by omega)]; omega
  rw [f161_run, f161_eq, e1, e2, e3, e4, eqI_t rfl, leI_t (by omega), Int.toNat_natCast, Nat.ble_eq_true_of_le (by omega), Bool.true_and, Bool.true_and, cond_true, leI_t (by omega), cond_true, inR_nat (by omega), cond_true, Int.toNat_natCast, Nat.zero_add, List.drop_zero, List.take_of_length_le (by simp), List.replicate_succ', List.set_append_right _ _ (by simp)]
  simp only [List.length_replicate, Nat.sub_self, List.set_cons_zero]
  rfl
theorem lcmp_runs {X Y : List AV} (hX : digOk X = true) (hY : digOk Y = true) (hl : X.length = Y.length) (hL : X.length ≤ 100000) : Evt fun n => ∀ k, X.length < k → f162_l0 (runE G ext n) n k X Y ((X.length : Int) - 1) = some ⟨[.int (cmpN (vl X) (vl Y))], [], f162_fresh⟩ := by
  refine .of fun n => ?_
  have key : ∀ (j k : Nat), j ≤ X.length → j < k → f162_l0 (runE G ext n) n k X Y ((j : Int) - 1) = some ⟨[.int (cmpN (vl (X.take j)) (vl (Y.take j)))], [], f162_fresh⟩ := by
    intro j
    induction j with
    | zero =>
      intro k _ hk
      obtain ⟨k, rfl⟩ : ∃ j, k = j + 1 := ⟨k - 1, by omega⟩
      rw [f162_l0_eq, leI_f (by omega), cond_false]
      rfl
    | succ j ih =>
      intro k hj hk
      obtain ⟨k, rfl⟩ : ∃ j, k = j + 1 := ⟨k - 1, by omega⟩
      have ih' := ih k (by omega) (by omega)
      have x1 : X.take (j + 1) = X.take j ++ [nth X j] := by rw [List.take_succ_eq_append_getElem (by omega), nth_lt (by omega)]
      have y1 : Y.take (j + 1) = Y.take j ++ [nth Y j] := by rw [List.take_succ_eq_append_getElem (by omega), nth_lt (by omega)]
      have x2 := vl_lt (digOk_take hX j)
      have y2 := vl_lt (digOk_take hY j)
      have xl : (X.take j).length = j := by rw [List.length_take]; omega
      have yl : (Y.take j).length = j := by rw [List.length_take]; omega
      rw [xl] at x2
      rw [yl] at y2
      have x3 : 0 ≤ (nth X j).toInt := by
        have h := List.all_eq_true.1 hX (nth X j) (by rw [nth_lt (by omega)]; exact List.getElem_mem _)
        rw [Bool.and_eq_true] at h
        exact leI_iff.1 h.1
      have y3 : 0 ≤ (nth Y j).toInt := by
        have h := List.all_eq_true.1 hY (nth Y j) (by rw [nth_lt (by omega)]; exact List.getElem_mem _)
        rw [Bool.and_eq_true] at h
        exact leI_iff.1 h.1
      rw [x1, y1, vl_app, vl_app, xl, yl]
      rw [f162_l0_eq, show (((j + 1 : Nat) : Int) - 1) = (j : Int) by omega, leI_t (by omega), cond_true, inR_nat (show j < X.length by omega), cond_true, inR_nat (show j < Y.length by omega), cond_true, cond_true, cond_true, Int.toNat_natCast, w64 (x := (j : Int) - 1) (by omega) (by omega), ih']
      generalize vl (X.take j) = p at *
      generalize vl (Y.take j) = q at *
      obtain ⟨xj, hxj⟩ : ∃ m : Nat, (nth X j).toInt = (m : Int) := ⟨(nth X j).toInt.toNat, by omega⟩
      obtain ⟨yj, hyj⟩ : ∃ m : Nat, (nth Y j).toInt = (m : Int) := ⟨(nth Y j).toInt.toNat, by omega⟩
      rw [hxj, hyj, Int.toNat_natCast, Int.toNat_natCast]
      by_cases c1 : yj < xj
      · have h4 : (yj + 1) * 65536 ^ j ≤ xj * 65536 ^ j := Nat.mul_le_mul_right _ c1
        rw [Nat.add_mul, Nat.one_mul] at h4
        rw [ltI_t (by omega), cond_true]
        unfold cmpN
        rw [if_neg (by omega), if_pos (by omega)]
      · rw [ltI_f (by omega), cond_false]
        by_cases c2 : xj < yj
        · have h4 : (xj + 1) * 65536 ^ j ≤ yj * 65536 ^ j := Nat.mul_le_mul_right _ c2
          rw [Nat.add_mul, Nat.one_mul] at h4
          rw [ltI_t (by omega), cond_true]
          unfold cmpN
          rw [if_pos (by omega)]
        · obtain rfl : xj = yj := by omega
          rw [ltI_f (by omega), cond_false]
          have e : cmpN (p + xj * 65536 ^ j) (q + xj * 65536 ^ j) = cmpN p q := by
            unfold cmpN
            by_cases c3 : p < q
            · rw [if_pos c3, if_pos (by omega)]
            · rw [if_neg c3, if_neg (by omega)]
              by_cases c4 : q < p
              · rw [if_pos c4, if_pos (by omega)]
              · rw [if_neg c4, if_neg (by omega)]
          rw [e]
  intro k hk
  have := key X.length k (Nat.le_refl _) hk
  rw [List.take_length, hl, List.take_length] at this
  rw [hl]
  exact this
theorem bigCmp_runs {k1 v1 k2 v2 : Nat} (h1 : v1 < 65536 ^ k1) (h2 : v2 < 65536 ^ k2) (q1 : k1 ≤ 100000) : RunsX 162 [.slice (digs k1 v1), .slice (digs k2 v2)] ⟨[.int (cmpN v1 v2)], [], f162_fresh⟩ := by
  obtain ⟨a1, a2, a3⟩ := digs_ok k1 v1
  obtain ⟨b1, b2, b3⟩ := digs_ok k2 v2
  obtain ⟨a4, a5⟩ := a3 h1
  obtain ⟨b4, b5⟩ := b3 h2
  have a6 := vl_lt a1
  have b6 := vl_lt b1
  rw [a4] at a6
  rw [b4] at b6
  by_cases hl : (digs k1 v1).length = (digs k2 v2).length
  · refine Evt.succ (((lcmp_runs a1 b1 hl (by omega)).and (Evt.ge (k1 + 2))).mono fun n hn => ?_)
    have := hn.1 n (by omega)
    rw [a4, b4] at this
    rw [f162_run, f162_eq, eqI_t (by omega), not_t, cond_false, w64 (by omega) (by omega)]
    exact this
  · refine Evt.succ (.of fun n => ?_)
    rw [f162_run, f162_eq, eqI_f (by omega), not_f, cond_true]
    by_cases c : (digs k2 v2).length < (digs k1 v1).length
    · have h3 := a5 (by omega)
      have h4 : 65536 ^ (digs k2 v2).length ≤ 65536 ^ ((digs k1 v1).length - 1) := Nat.pow_le_pow_right (by decide) (by omega)
      rw [ltI_t (by omega), cond_true]
      unfold cmpN
      rw [if_neg (by omega), if_pos (by omega)]
    · have h3 := b5 (by omega)
      have h4 : 65536 ^ (digs k1 v1).length ≤ 65536 ^ ((digs k2 v2).length - 1) := Nat.pow_le_pow_right (by decide) (by omega)
      rw [ltI_f (by omega), cond_false]
      unfold cmpN
      rw [if_pos (by omega)]
theorem u64_nat (x : Nat) (h : x ≤ 9000000000000000000) : IntKind.wrap .u64 (x : Int) = (x : Int) := by rw [wrap64]; omega
theorem refCmp_all {n of_ : Nat} {up a b : Int} (hn : n < 65536) (ho : of_ < 65536) : RunsX 141 [.int (n : Int), .int (of_ : Int), .int up, .int a, .int b] ⟨[.int (cmpR n of_ up a b)], [], false⟩ := by
  by_cases hup : up ≤ 16 ∨ 255 < up
  · exact refCmp_small hn ho hup
  by_cases h : mayR a b = true ∧ 0 ≤ up ∧ up ≤ 255
  case neg => exact refCmp_bad h
  obtain ⟨m1, m2, m3⟩ := mayR_iff.1 h.1
  obtain ⟨bn, rfl⟩ : ∃ bn : Nat, b = (bn : Int) := ⟨b.toNat, by omega⟩
  obtain ⟨dn, hd⟩ : ∃ dn : Nat, (bn : Int) - a = (dn : Int) := ⟨((bn : Int) - a).toNat, by omega⟩
  obtain ⟨u, rfl⟩ : ∃ u : Nat, up = (u : Int) := ⟨up.toNat, by omega⟩
  have e : cmpR n of_ (u : Int) a (bn : Int) = cmpN (n * bn * 2 ^ u) (of_ * dn) := by
    unfold cmpR; rw [if_pos h, Int.toNat_natCast, hd, Int.toNat_natCast, Int.toNat_natCast]
  rw [e]
  have h4 : (65536 : Nat) ^ 4 = 18446744073709551616 := by decide
  obtain ⟨n1, n2, n3⟩ := digs_ok 4 n
  obtain ⟨b1, b2, b3⟩ := digs_ok 4 bn
  obtain ⟨o1, o2, o3⟩ := digs_ok 4 of_
  obtain ⟨d1, d2, d3⟩ := digs_ok 4 dn
  have n4 := (n3 (by omega)).1
  have b4 := (b3 (by omega)).1
  have o4 := (o3 (by omega)).1
  have d4 := (d3 (by omega)).1
  have r1 := mulB_runs n1 b1 (by omega) (by omega)
  have f1 := mulB_fits n1 b1
  rw [n4, b4] at r1 f1
  generalize hk1 : (digs 4 n).length + (digs 4 bn).length + 1 = k1 at r1 f1
  obtain ⟨x1, x2, x3⟩ := digs_ok k1 (n * bn)
  have x4 := (x3 f1).1
  obtain ⟨p1, p2, p3⟩ := powL_ok u
  have r2 := mulB_runs x1 p1 (by omega) (by omega)
  have f2 := mulB_fits x1 p1
  rw [x4, p3] at r2 f2
  generalize hk2 : (digs k1 (n * bn)).length + (powL u).length + 1 = k2 at r2 f2
  have r3 := mulB_runs o1 d1 (by omega) (by omega)
  have f3 := mulB_fits o1 d1
  rw [o4, d4] at r3 f3
  generalize hk3 : (digs 4 of_).length + (digs 4 dn).length + 1 = k3 at r3 f3
  have r4 := bigCmp_runs f2 f3 (by omega)
  refine Evt.succ (((((refMayR_runs (a := a) (b := (bn : Int))).and ((ofB_runs (v := n) (by omega)).and (ofB_runs (v := bn) (by omega)))).and ((r1.and (power_runs (u := u) (by omega))).and ((ofB_runs (v := of_) (by omega)).and (ofB_runs (v := dn) (by omega))))).and (r2.and (r3.and r4))).mono fun m hm => ?_)
  obtain ⟨⟨⟨g0, g1, g2⟩, ⟨g3, g4⟩, g5, g6⟩, g7, g8, g9⟩ := hm
  rw [f141_run, f141_eq, g0, step1, toBool_b, h.1, not_t, cond_false, ltI_f (by omega), cond_false, ltI_f (by omega), cond_false, ltI_t (by omega), cond_true, ltI_t (by omega), cond_true, leI_f (by omega), cond_false, u64_nat n (by omega), u64_nat bn (by omega), hd, w64 (x := (dn : Int)) (by omega) (by omega), u64_nat dn (by omega), u64_nat of_ (by omega)]
  rw [g1, step1, toSlice_s, g2, step1, toSlice_s, g3, step1, toSlice_s, g4, step1, toSlice_s, g7, step1, toSlice_s, g5, step1, toSlice_s, g6, step1, toSlice_s, g8, step1, toSlice_s, g9, step1]
  rfl
theorem cmpAt_all (lv a b : Int) : CmpAt lv a b := fun n of_ hn ho up _ => refCmp_all (by omega) (by omega)
end Go.Proofs.YteiahdlklppghaaGreat.Ev

namespace Go.Proofs.YteiahdlklppghaaGreat.Ev
open Go Go.RowKit
section
variable {gh : Int} {gl gt : List UInt8} {gn : Int} {t : List UInt8} {c1 c2 c3 c4 c5 c6 : Int}
theorem refChain_runs {l : List AV} (ht : t.length = 32) (hB : Blocks l) : RunsX 33 [Cfg gh gl gt gn t c1 c2 c3 c4 c5 c6, .slice l] ⟨[chainV gh gl gt gn t l], [], false⟩ := by
  unfold chainV
  by_cases h0 : l.length = 0
  · refine Evt.succ (.of fun n => ?_)
    rw [if_pos h0, f33_run, f33_eq, eqI_t (by omega)]; rfl
  by_cases h1 : 1024 < l.length
  · refine Evt.succ (.of fun n => ?_)
    rw [if_neg h0, if_pos h1, f33_run, f33_eq, eqI_f (by omega), ltI_t (by omega)]; rfl
  rw [if_neg h0, if_neg h1]
  have hall := Evt.all l.length fun i (hi : i < l.length) =>
    (rule_runs (t := t) (l := l) (i := i) (by omega) (by omega)).and
    ((refCheck_runs (h := (((nth l i).fld 0).fld 0).toInt) (n := (((nth l i).fld 0).fld 3).toInt) (h' := (i : Int)) (b := (((nth l i).fld 0).fld 1).toBlob) (c := (((nth l i).fld 0).fld 2).toBlob) (l := ((nth l i).fld 1).toSlice) (v := vecV t l i) (Nat.le_trans (vecV_len t l i) (by omega)) (vecV_blob t l i) (hB i hi).2.2 (hB i hi).2.1).and
     (refOk_runs (idA_len ((nth l i).fld 0)) ht))
  refine Evt.succ ((((refBIds_runs (l := l) (by omega) hB.heads).and (refLevels_runs (t := t) (l := l) ht (by omega))).and (hall.and (Evt.ge (l.length + 10)))).mono fun n hn => ?_)
  obtain ⟨⟨g1, g2⟩, g3, g4⟩ := hn
  have key : ∀ (j k i : Nat) (o1 o2 : Int), i + j = l.length → j < k → f33_l0 (runE G ext n) n k l (idsV l) (levsV t l) (i : Int) gh gl gt gn t c1 c2 c3 c4 c5 c6 o1 o2 = some ⟨[faultV gh gl gt gn t l j i], [], false⟩ := by
    intro j
    induction j with
    | zero =>
      intro k i o1 o2 hi hk
      obtain ⟨k, rfl⟩ : ∃ j, k = j + 1 := ⟨k - 1, by omega⟩
      rw [f33_l0_eq, ltI_f (by omega)]; rfl
    | succ j ih =>
      intro k i o1 o2 hi hk
      obtain ⟨k, rfl⟩ : ∃ j, k = j + 1 := ⟨k - 1, by omega⟩
      obtain ⟨e1, e2, e3⟩ := g3 i (by omega)
      have ih' := ih k (i + 1) o1 o2 (by omega) (by omega)
      rw [show ((i + 1 : Nat) : Int) = (i : Int) + 1 by omega] at ih'
      simp only [faultV, blkErr]
      rw [f33_l0_eq, ltI_t (by omega), cond_true, inR_nat (i := i) (n := l.length) (by omega), cond_true, Int.toNat_natCast, e1, step1f, toSlice_s, show IntKind.wrap .u32 (i : Int) = (i : Int) by rw [wrap32]; omega, e2, step1, toInt_i, inR_nat (i := i) (n := (idsV l).length) (by rw [idsV_len]; omega), cond_true, idsV_nth l (by omega), toBlob_b, e3, step1, toBool_b, w64 (x := (i : Int) + 1) (by omega) (by omega), ih']
      unfold ancV formV
      by_cases hi0 : (i : Int) = 0
      · obtain rfl : i = 0 := by omega
        rw [eqI_t (a := ((0 : Nat) : Int)) (b := 0) rfl, cond_true, cond_true, inR_int (i := 0) (n := l.length) (by omega) (by omega), cond_true]
        cases (eqI (((nth l 0).fld 0).fld 0).toInt gh && (eqS (((nth l 0).fld 0).fld 1).toBlob gl && (eqS (((nth l 0).fld 0).fld 2).toBlob gt && (eqI (((nth l 0).fld 0).fld 3).toInt gn && true))))
        · rfl
        · rw [not_t, cond_false, cond_false]
          by_cases hc : checkV (((nth l 0).fld 0).fld 0).toInt (((nth l 0).fld 0).fld 1).toBlob (((nth l 0).fld 0).fld 2).toBlob ((nth l 0).fld 1).toSlice ((0 : Nat) : Int) (vecV t l 0) = 0
          · rw [hc]
            cases okV (idA ((nth l 0).fld 0)) t <;> rfl
          · rw [eqI_f hc, not_f, cond_true, eqI_t (a := 0) (b := 0) rfl, not_t, cond_false, cond_true, eqI_f hc]; rfl
      · rw [eqI_f hi0, cond_false, cond_false, eqI_t (a := 0) (b := 0) rfl, not_t, cond_false]
        by_cases hc : checkV (((nth l i).fld 0).fld 0).toInt (((nth l i).fld 0).fld 1).toBlob (((nth l i).fld 0).fld 2).toBlob ((nth l i).fld 1).toSlice (i : Int) (vecV t l i) = 0
        · rw [hc]
          cases okV (idA ((nth l i).fld 0)) t <;> rfl
        · rw [eqI_f hc, not_f, cond_true, cond_true, eqI_f hc]; rfl
  rw [f33_run, f33_eq, eqI_f (by omega), cond_false, ltI_f (by omega), cond_false, g1, step1f, toSlice_s, g2, step1f, toSlice_s]
  exact key l.length n 0 0 0 (by omega) (by omega)
end
end Go.Proofs.YteiahdlklppghaaGreat.Ev

namespace Go.Proofs.YteiahdlklppghaaGreat.Ev
open Go Go.RowKit
theorem sameIntsM {X : List AV} (hX : X.length ≤ 1000000) : RunsX 10 [.slice X, .slice X] ⟨[.bool true], [], false⟩ := by
  refine Evt.succ ((Evt.ge (X.length + 2)).mono fun n hn => ?_)
  have key : ∀ (j k i : Nat), i + j = X.length → j < k → f10_l0 (runE G ext n) n k X X (i : Int) = some ⟨[.bool true], [], false⟩ := by
    intro j
    induction j with
    | zero =>
      intro k i hi hk
      obtain ⟨k, rfl⟩ : ∃ j, k = j + 1 := ⟨k - 1, by omega⟩
      rw [f10_l0_eq, ltI_f (by omega), cond_false]; rfl
    | succ j ih =>
      intro k i hi hk
      obtain ⟨k, rfl⟩ : ∃ j, k = j + 1 := ⟨k - 1, by omega⟩
      have ih' := ih k (i + 1) (by omega) (by omega)
      rw [f10_l0_eq, ltI_t (by omega), cond_true, inR_nat (by omega), cond_true, cond_true, eqI_t rfl, not_t, cond_false, w64 (x := (i : Int) + 1) (by omega) (by omega), show (i : Int) + 1 = ((i + 1 : Nat) : Int) by omega, ih']
  rw [f10_run, f10_eq, eqI_t rfl, not_t, cond_false]
  exact key X.length n 0 (by omega) (by omega)
section
variable {gh : Int} {gl gt : List UInt8} {gn : Int} {t : List UInt8} {m K a b c5 c6 : Int} {l : List AV}
theorem refMayProve_runs (ht : t.length = 32) (hB : Blocks l) : RunsX 15 [Cfg gh gl gt gn t m K a b c5 c6, .slice l] ⟨[.int (mayE gh gl gt gn t m K a b l)], [], false⟩ := by
  refine Evt.succ (((refChain_runs (gh := gh) (gl := gl) (gt := gt) (gn := gn) (t := t) (c1 := m) (c2 := K) (c3 := a) (c4 := b) (c5 := c5) (c6 := c6) (l := l) ht hB).and (refMayP_runs (m := m) (k := K) (a := a) (b := b))).mono fun n hn => ?_)
  unfold mayE
  rw [f15_run, f15_eq, hn.1, step1]
  cases eqI ((chainV gh gl gt gn t l).fld 0).toInt 0 with
  | false => rfl
  | true =>
    rw [not_t, cond_false, cond_false, hn.2, step1, toBool_b]
    cases mayP m K a b with
    | false => rfl
    | true =>
      rw [not_t, cond_false, cond_false]
      cases leI (l.length : Int) K <;> rfl
theorem mayE_zero (h : mayE gh gl gt gn t m K a b l = 0) : ((chainV gh gl gt gn t l).fld 0).toInt = 0 ∧ mayP m K a b = true ∧ ¬ (l.length : Int) ≤ K := by
  unfold mayE at h
  by_cases hz : ((chainV gh gl gt gn t l).fld 0).toInt = 0
  · rw [eqI_t hz, not_t, cond_false] at h
    cases hM : mayP m K a b with
    | false => rw [hM, not_f, cond_true] at h; exact absurd h (by decide)
    | true =>
      rw [hM, not_t, cond_false] at h
      by_cases hk : (l.length : Int) ≤ K
      · rw [leI_t hk, cond_true] at h; exact absurd h (by decide)
      · exact ⟨hz, rfl, hk⟩
  · rw [eqI_f hz, not_f, cond_true] at h; exact absurd h hz
theorem refPlacesP_runs (ht : t.length = 32) (hl : l.length ≤ 100000) (hh : Heads l) (hP2 : (pickV (levsV t l) m K a b).length ≤ 100000) (hK : 1 ≤ K) (hK2 : K < l.length) :
    RunsX 12 [Cfg gh gl gt gn t m K a b c5 c6, .slice l] ⟨[.slice (placesL (pickV (levsV t l) m K a b) (l.length - K.toNat) l.length)], [], true⟩ := by
  have r2 := refPick_runs (L := levsV t l) (m := m) (k := K) (a := a) (b := b) (by rw [levsV_len]; omega) (fun _ _ lv _ => cmpAt_all _ _ _)
  refine Evt.succ ((((refBIds_runs (l := l) hl hh).and (refLevels_runs (t := t) (l := l) ht hl)).and (r2.and (Evt.ge (l.length + 2)))).mono fun n hn => ?_)
  obtain ⟨⟨g0, g1⟩, g2, g3⟩ := hn
  generalize pickV (levsV t l) m K a b = P at *
  have key : ∀ (j k i : Nat), i + j = l.length → j < k → f12_l0 (runE G ext n) n k l (P ++ (List.range (i - (l.length - K.toNat))).map fun j => AV.int ((l.length - K.toNat + j : Nat) : Int)) (i : Int) gh gl gt gn t m K a b c5 c6 = some ⟨[.slice (placesL P (l.length - K.toNat) l.length)], [], true⟩ := by
    intro j
    induction j with
    | zero =>
      intro k i hi hk
      obtain ⟨k, rfl⟩ : ∃ j, k = j + 1 := ⟨k - 1, by omega⟩
      obtain rfl : i = l.length := by omega
      rw [f12_l0_eq, ltI_f (by omega), cond_false]; rfl
    | succ j ih =>
      intro k i hi hk
      obtain ⟨k, rfl⟩ : ∃ j, k = j + 1 := ⟨k - 1, by omega⟩
      have ih' := ih k (i + 1) (by omega) (by omega)
      rw [f12_l0_eq, ltI_t (by omega), cond_true, w64 (x := (l.length : Int) - K) (by omega) (by omega), w64 (x := (i : Int) + 1) (by omega) (by omega), show (i : Int) + 1 = ((i + 1 : Nat) : Int) by omega]
      by_cases hc : l.length - K.toNat ≤ i
      · rw [show i + 1 - (l.length - K.toNat) = i - (l.length - K.toNat) + 1 by omega, List.range_succ, List.map_append, ← List.append_assoc, List.map_singleton, show l.length - K.toNat + (i - (l.length - K.toNat)) = i by omega] at ih'
        rw [leI_t (by omega), cond_true, Nat.ble_eq_true_of_le (by simp; omega), cond_true]
        exact ih'
      · rw [show i + 1 - (l.length - K.toNat) = i - (l.length - K.toNat) by omega] at ih'
        rw [leI_f (by omega), cond_false]
        exact ih'
  have k := key l.length n 0 (by omega) (by omega)
  rw [show (List.range (0 - (l.length - K.toNat))).map (fun j => AV.int ((l.length - K.toNat + j : Nat) : Int)) = [] by rw [Nat.zero_sub]; rfl, List.append_nil] at k
  rw [f12_run, f12_eq, g0, step1f, toSlice_s, g1, step1f, toSlice_s, g2, step1f, toSlice_s]
  exact k
theorem proves_both (ht : t.length = 32) (hB : Blocks l) (h24 : l.length ≤ 400) (hz : mayE gh gl gt gn t m K a b l = 0) : ∃ ps M e, PathsS M ∧ M.length ≤ 1000 ∧ ps.length ≤ 1000 ∧
    (RunsX 11 [Cfg gh gl gt gn t m K a b c5 c6, .slice l] ⟨[.slice ps], [], true⟩ ∧ RunsX 12 [Cfg gh gl gt gn t m K a b c5 c6, .slice l] ⟨[.slice ps], [], true⟩) ∧
    (RunsX 8 [Cfg gh gl gt gn t m K a b c5 c6, .slice l] ⟨[.slice M, .int e], [], f8_fresh⟩ ∧ RunsX 9 [Cfg gh gl gt gn t m K a b c5 c6, .slice l] ⟨[.slice M, .int e], [], f9_fresh⟩) := by
  obtain ⟨c1, hM, hk⟩ := mayE_zero hz
  obtain ⟨z1, z2, z3⟩ := chainV_zero' c1
  have hok := chain_levels z3
  have hM' := hM
  unfold mayP at hM'
  rw [Bool.and_eq_true, decide_eq_true_iff] at hM'
  obtain ⟨⟨_, _, k1, k2⟩, _⟩ := hM'
  have hP := picked (t := t) (l := l) (m := m) (k := K) (a := a) (b := b) hok hM (by omega) (by omega)
  have h1 := hP.le
  have h2 := hP.len
  have hlen := placesL_len (pickV (levsV t l) m K a b) (N := l.length - K.toNat) (len := l.length)
  have rp := places_runsP (gh := gh) (gl := gl) (gt := gt) (gn := gn) (t := t) (m := m) (K := K) (a := a) (b := b) (c5 := c5) (c6 := c6) (l := l) (P := pickV (levsV t l) m K a b) ht (by omega) hB.heads rfl h2 (by omega) (by omega) (by omega)
  have rq := refPlacesP_runs (gh := gh) (gl := gl) (gt := gt) (gn := gn) (t := t) (m := m) (K := K) (a := a) (b := b) (c5 := c5) (c6 := c6) (l := l) ht (by omega) hB.heads (by omega) (by omega) (by omega)
  generalize placesL (pickV (levsV t l) m K a b) (l.length - K.toNat) l.length = ps at *
  obtain ⟨M, e, e1, e2, e3⟩ := proveL_form t l ps ps.length 0 [] (fun i hi => by simp at hi)
  have rs := proveSteps_runs (t := t) (l := l) (ps := ps) ht (by omega) hB.heads (by omega)
  have rt := refSteps_runs (t := t) (l := l) (ps := ps) ht (by omega) hB.heads (by omega)
  rw [e1] at rs rt
  have rm := proveMay_runs (gh := gh) (gl := gl) (gt := gt) (gn := gn) (t := t) (m := m) (K := K) (a := a) (b := b) (c5 := c5) (c6 := c6) (l := l) ht hB
  have rn := refMayProve_runs (gh := gh) (gl := gl) (gt := gt) (gn := gn) (t := t) (m := m) (K := K) (a := a) (b := b) (c5 := c5) (c6 := c6) (l := l) ht hB
  rw [hz] at rm rn
  refine ⟨ps, M, e, e2, by simp at e3; omega, by omega, ⟨rp, rq⟩, ?_, ?_⟩
  · refine Evt.succ ((rm.and (rp.and rs)).mono fun n hn => ?_)
    rw [f8_run, f8_eq, hn.1, step1, toInt_i, eqI_t rfl, not_t, cond_false, hn.2.1, step1f, toSlice_s, hn.2.2, step2]
    rfl
  · refine Evt.succ ((rn.and (rq.and rt)).mono fun n hn => ?_)
    rw [f9_run, f9_eq, hn.1, step1, toInt_i, eqI_t rfl, not_t, cond_false, hn.2.1, step1f, toSlice_s, hn.2.2, step2]
    rfl
theorem proveMakes_runs (ht : t.length = 32) (hc0 : Blocks0 l) (hc : l.length ≤ maxLen) :
    RunsX 3 [Cfg gh gl gt gn t m K a b c5 c6, .slice l] ⟨[.bool true], [], false⟩ := by
  obtain ⟨q, hb, hmu⟩ := mu24_runs hc0 hc
  cases q with
  | true =>
    refine Evt.succ ((hmu.and proveAwake).mono fun n hn => ?_)
    rw [f3_run, f3_eq, hn.1, step1, toBool_b, cond_true, hn.2]; rfl
  | false =>
  obtain ⟨h24, hB⟩ := hb rfl
  have rm := proveMay_runs (gh := gh) (gl := gl) (gt := gt) (gn := gn) (t := t) (m := m) (K := K) (a := a) (b := b) (c5 := c5) (c6 := c6) (l := l) ht hB
  have rn := refMayProve_runs (gh := gh) (gl := gl) (gt := gt) (gn := gn) (t := t) (m := m) (K := K) (a := a) (b := b) (c5 := c5) (c6 := c6) (l := l) ht hB
  by_cases hz : mayE gh gl gt gn t m K a b l = 0
  · obtain ⟨ps, M, e, e1, e2, e3, ⟨rp, rq⟩, rv, rw'⟩ := proves_both (c5 := c5) (c6 := c6) ht hB (by omega) hz
    rw [hz] at rm rn
    refine Evt.succ ((((hmu.and proveAwake).and (rm.and rn)).and (((rp.and rq).and (rv.and rw')).and ((sameIntsM (X := ps) (by omega)).and (sameStps_runs (m := M) (by omega) e1)))).mono fun n hn => ?_)
    obtain ⟨⟨⟨g1, g2⟩, g3, g4⟩, ⟨⟨g5, g6⟩, g7, g8⟩, g9, g10⟩ := hn
    rw [f3_run, f3_eq, g1, step1, toBool_b, cond_false, g7, step2, g8, step2, toInt_i, toSlice_s]
    by_cases he : e = 0
    · rw [eqI_t he, cond_true, g5, step1f, toSlice_s, g6, step1f, toSlice_s, g9, step1, toBool_b, not_t, cond_false, g10, step1, toBool_b, cond_true, eqI_t rfl, cond_true, g3, step1, toInt_i, g4, step1, toInt_i, eqI_t rfl, cond_true, g2]; rfl
    · rw [eqI_f he, cond_false, g10, step1, toBool_b, cond_true, eqI_t rfl, cond_true, g3, step1, toInt_i, g4, step1, toInt_i, eqI_t rfl, cond_true, g2]; rfl
  · have rv : RunsX 8 [Cfg gh gl gt gn t m K a b c5 c6, .slice l] ⟨[.slice [], .int (mayE gh gl gt gn t m K a b l)], [], f8_fresh⟩ := by
      refine Evt.succ (rm.mono fun n hn => ?_)
      rw [f8_run, f8_eq, hn, step1, toInt_i, eqI_f hz, not_f, cond_true]
    have rw' : RunsX 9 [Cfg gh gl gt gn t m K a b c5 c6, .slice l] ⟨[.slice [], .int (mayE gh gl gt gn t m K a b l)], [], f9_fresh⟩ := by
      refine Evt.succ (rn.mono fun n hn => ?_)
      rw [f9_run, f9_eq, hn, step1, toInt_i, eqI_f hz, not_f, cond_true]
    refine Evt.succ ((((hmu.and proveAwake).and (rm.and rn)).and ((rv.and rw').and (sameStps_runs (m := []) (by simp) (fun i hi => by simp at hi)))).mono fun n hn => ?_)
    obtain ⟨⟨⟨g1, g2⟩, g3, g4⟩, ⟨g7, g8⟩, g10⟩ := hn
    rw [f3_run, f3_eq, g1, step1, toBool_b, cond_false, g7, step2, g8, step2, toInt_i, toSlice_s, eqI_f hz, cond_false, g10, step1, toBool_b, cond_true, eqI_t rfl, cond_true, g3, step1, toInt_i, g4, step1, toInt_i, eqI_t rfl, cond_true, g2]; rfl
end
theorem proveMakes_sat (xs : List AV) (h : Ty.HasL [.struct [.struct [.int .u32, .blob 32, .blob 32, .int .u64], .blob 32, .int .i64, .int .i64, .int .i64, .int .i64, .int .i64, .int .i64], .slice (.struct [.struct [.int .u32, .blob 32, .blob 32, .int .u64], .slice .str])] xs) : ∃ r, r.vals = [.bool true] ∧ Sat Tryz.prog f3_info 3 xs r := by
  obtain ⟨x, r, rfl, hx, y, r2, rfl, ⟨l, rfl, hl, _, hy⟩, rfl⟩ := h
  obtain ⟨gh, gl, gt, gn, t, c1, c2, c3, c4, c5, c6, rfl, ht, _⟩ := cfg_of hx
  exact ⟨_, rfl, sat_of_runsX (by kernel_rfl) (proveMakes_runs ht (blocks0_of hy) hl)⟩
end Go.Proofs.YteiahdlklppghaaGreat.Ev

