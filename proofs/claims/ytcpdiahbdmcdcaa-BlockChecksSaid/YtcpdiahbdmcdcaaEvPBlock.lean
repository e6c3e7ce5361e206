/- Blocks: both programs make, check and compare them alike. -/
import Derived.Test.YtcpdiahbdmcdcaaEvPRoots
namespace Go.Proofs.Ytcpdiahbdmcdcaa.Ev
open Go Go.RowKit

def linkT (l : List AV) : List AV := l.map fun y => .str ([76] ++ y.toBlob)
def txT (l : List AV) : List AV := l.map fun y => .str ([84] ++ y.toStr)
theorem linkT_len (l : List AV) : (linkT l).length = l.length := by simp [linkT]
theorem txT_len (l : List AV) : (txT l).length = l.length := by simp [txT]
theorem linkT_take {l : List AV} {i : Nat} (h : i < l.length) : linkT (l.take i) ++ [.str ([76] ++ (nth l i).toBlob)] = linkT (l.take (i + 1)) := by
  rw [List.take_succ_eq_append_getElem h, nth_lt h]; simp only [linkT, List.map_append, List.map_cons, List.map_nil]
theorem txT_take {l : List AV} {i : Nat} (h : i < l.length) : txT (l.take i) ++ [.str ([84] ++ (nth l i).toStr)] = txT (l.take (i + 1)) := by
  rw [List.take_succ_eq_append_getElem h, nth_lt h]; simp only [txT, List.map_append, List.map_cons, List.map_nil]

/-- Texts of a typed argument. -/
def Shorter (l : List AV) : Prop := ∀ i, i < l.length → (nth l i).toStr.length ≤ 140737488351232
theorem shorter_of {l : List AV} (h : ∀ (i : Nat) y, l[i]? = some y → Ty.str.Has y) : Shorter l := by
  intro i hi
  obtain ⟨s, hs, hl⟩ := h i _ (List.getElem?_eq_getElem hi)
  rw [nth_lt hi, hs]
  unfold reachBytes at hl
  exact hl
theorem txT_short {l : List AV} (h : Shorter l) : Short (txT l) := by
  intro i hi
  rw [txT_len] at hi
  have := h i hi
  rw [nth_lt (by rw [txT_len]; exact hi)]
  rw [nth_lt hi] at this
  simp only [txT, List.getElem_map]
  show ([84] ++ l[i].toStr).length ≤ _
  simp; omega
theorem blob_at {l : List AV} (h : Blob32 l) {i : Nat} (hi : i < l.length) : (nth l i).toBlob.length = 32 := by
  obtain ⟨b, hb, hl⟩ := h l[i] (List.getElem_mem hi)
  rw [nth_lt hi, hb]; exact hl
theorem linkT_short {l : List AV} (h : Blob32 l) : Short (linkT l) := by
  intro i hi
  rw [linkT_len] at hi
  have := blob_at h hi
  rw [nth_lt (by rw [linkT_len]; exact hi)]
  rw [nth_lt hi] at this
  simp only [linkT, List.getElem_map]
  show ([76] ++ l[i].toBlob).length ≤ _
  simp; omega

theorem linkTexts_runs {l : List AV} (hl : l.length ≤ 100000) (hb : Blob32 l) : RunsX 107 [.slice l] ⟨[.slice (linkT l)], [], true⟩ := by
  refine Evt.succ ((Evt.ge (l.length + 10)).mono fun n hn => ?_)
  obtain ⟨m, rfl⟩ : ∃ m, n = m + 1 := ⟨n - 1, by omega⟩
  have key : ∀ (j k i : Nat), i + j = l.length → j < k → f107_l0 (runE G ext (m + 1)) (m + 1) k (linkT (l.take i)) l (l.length : Int) (i : Int) = some ⟨[.slice (linkT l)], [], true⟩ := by
    intro j
    induction j with
    | zero =>
      intro k i hi hk
      obtain ⟨k, rfl⟩ : ∃ j, k = j + 1 := ⟨k - 1, by omega⟩
      rw [f107_l0_eq, ltI_f (by omega), cond_false, List.take_of_length_le (by omega)]
      rfl
    | succ j ih =>
      intro k i hi hk
      obtain ⟨k, rfl⟩ : ∃ j, k = j + 1 := ⟨k - 1, by omega⟩
      have ih' := ih k (i + 1) (by omega) (by omega)
      rw [show ((i + 1 : Nat) : Int) = (i : Int) + 1 by omega, ← linkT_take (by omega)] at ih'
      have h32 := blob_at hb (i := i) (by omega)
      have ht : runE G ext (m + 1) 120 [.blob (nth l i).toBlob] = some ⟨[.str ([76] ++ (nth l i).toBlob)], [], false⟩ := by
        rw [f120_run, f120_eq, raw32 h32, show Nat.ble (1 + (nth l i).toBlob.length) maxLen = true from Nat.ble_eq_true_of_le (by rw [maxLen_eq]; omega), cond_true]; rfl
      rw [f107_l0_eq, ltI_t (by omega), cond_true, inR_nat (by omega), cond_true, Int.toNat_natCast, ht, step1, toStr_s, show Nat.ble (((linkT (l.take i)).length + 1) * 16) 140737488355328 = true from Nat.ble_eq_true_of_le (by rw [linkT_len]; simp; omega), cond_true, w64 (by omega) (by omega)]
      exact ih'
  rw [f107_run, f107_eq]
  exact key l.length (m + 1) 0 (by omega) (by omega)

theorem refLinkTexts_runs {l : List AV} (hl : l.length ≤ 100000) (hb : Blob32 l) : RunsX 109 [.slice l] ⟨[.slice (linkT l)], [], true⟩ := by
  refine Evt.succ ((Evt.ge (l.length + 200)).mono fun n hn => ?_)
  obtain ⟨m, rfl⟩ : ∃ m, n = m + 2 := ⟨n - 2, by omega⟩
  have key : ∀ (j k i : Nat), i + j = l.length → j < k → f109_l0 (runE G ext (m + 2)) (m + 2) k l (linkT (l.take i)) (i : Int) = some ⟨[.slice (linkT l)], [], true⟩ := by
    intro j
    induction j with
    | zero =>
      intro k i hi hk
      obtain ⟨k, rfl⟩ : ∃ j, k = j + 1 := ⟨k - 1, by omega⟩
      rw [f109_l0_eq, ltI_f (by omega), cond_false, List.take_of_length_le (by omega)]
      rfl
    | succ j ih =>
      intro k i hi hk
      obtain ⟨k, rfl⟩ : ∃ j, k = j + 1 := ⟨k - 1, by omega⟩
      have ih' := ih k (i + 1) (by omega) (by omega)
      rw [show ((i + 1 : Nat) : Int) = (i : Int) + 1 by omega, ← linkT_take (by omega)] at ih'
      have h32 := blob_at hb (i := i) (by omega)
      have ht : runE G ext (m + 2) 122 [.blob (nth l i).toBlob] = some ⟨[.str ([76] ++ (nth l i).toBlob)], [], false⟩ := by
        rw [f122_run, f122_eq, raw_at m (by omega) h32, step1, toStr_s, show Nat.ble (1 + (nth l i).toBlob.length) maxLen = true from Nat.ble_eq_true_of_le (by rw [maxLen_eq]; omega), cond_true]; rfl
      rw [f109_l0_eq, ltI_t (by omega), cond_true, inR_nat (by omega), cond_true, Int.toNat_natCast, ht, step1, toStr_s, show Nat.ble (((linkT (l.take i)).length + 1) * 16) 140737488355328 = true from Nat.ble_eq_true_of_le (by rw [linkT_len]; simp; omega), cond_true, w64 (by omega) (by omega)]
      exact ih'
  rw [f109_run, f109_eq]
  exact key l.length (m + 2) 0 (by omega) (by omega)

theorem txTexts_runs {l : List AV} (hl : l.length ≤ 100000) (hs : Shorter l) : RunsX 108 [.slice l] ⟨[.slice (txT l)], [], true⟩ := by
  refine Evt.succ ((Evt.ge (l.length + 10)).mono fun n hn => ?_)
  obtain ⟨m, rfl⟩ : ∃ m, n = m + 1 := ⟨n - 1, by omega⟩
  have key : ∀ (j k i : Nat), i + j = l.length → j < k → f108_l0 (runE G ext (m + 1)) (m + 1) k (txT (l.take i)) l (l.length : Int) (i : Int) = some ⟨[.slice (txT l)], [], true⟩ := by
    intro j
    induction j with
    | zero =>
      intro k i hi hk
      obtain ⟨k, rfl⟩ : ∃ j, k = j + 1 := ⟨k - 1, by omega⟩
      rw [f108_l0_eq, ltI_f (by omega), cond_false, List.take_of_length_le (by omega)]
      rfl
    | succ j ih =>
      intro k i hi hk
      obtain ⟨k, rfl⟩ : ∃ j, k = j + 1 := ⟨k - 1, by omega⟩
      have ih' := ih k (i + 1) (by omega) (by omega)
      rw [show ((i + 1 : Nat) : Int) = (i : Int) + 1 by omega, ← txT_take (by omega)] at ih'
      have h32 := hs i (by omega)
      have ht : runE G ext (m + 1) 121 [.str (nth l i).toStr] = some ⟨[.str ([84] ++ (nth l i).toStr)], [], false⟩ := by
        rw [f121_run, f121_eq, show Nat.ble (1 + (nth l i).toStr.length) maxLen = true from Nat.ble_eq_true_of_le (by rw [maxLen_eq]; omega), cond_true]; rfl
      rw [f108_l0_eq, ltI_t (by omega), cond_true, inR_nat (by omega), cond_true, Int.toNat_natCast, ht, step1, toStr_s, show Nat.ble (((txT (l.take i)).length + 1) * 16) 140737488355328 = true from Nat.ble_eq_true_of_le (by rw [txT_len]; simp; omega), cond_true, w64 (by omega) (by omega)]
      exact ih'
  rw [f108_run, f108_eq]
  exact key l.length (m + 1) 0 (by omega) (by omega)

theorem refTxTexts_runs {l : List AV} (hl : l.length ≤ 100000) (hs : Shorter l) : RunsX 110 [.slice l] ⟨[.slice (txT l)], [], true⟩ := by
  refine Evt.succ ((Evt.ge (l.length + 10)).mono fun n hn => ?_)
  have key : ∀ (j k i : Nat), i + j = l.length → j < k → f110_l0 (runE G ext n) n k l (txT (l.take i)) (i : Int) = some ⟨[.slice (txT l)], [], true⟩ := by
    intro j
    induction j with
    | zero =>
      intro k i hi hk
      obtain ⟨k, rfl⟩ : ∃ j, k = j + 1 := ⟨k - 1, by omega⟩
      rw [f110_l0_eq, ltI_f (by omega), cond_false, List.take_of_length_le (by omega)]
      rfl
    | succ j ih =>
      intro k i hi hk
      obtain ⟨k, rfl⟩ : ∃ j, k = j + 1 := ⟨k - 1, by omega⟩
      have ih' := ih k (i + 1) (by omega) (by omega)
      rw [show ((i + 1 : Nat) : Int) = (i : Int) + 1 by omega, ← txT_take (by omega)] at ih'
      have h32 := hs i (by omega)
      rw [f110_l0_eq, ltI_t (by omega), cond_true, inR_nat (by omega), cond_true, Int.toNat_natCast, show Nat.ble (1 + (nth l i).toStr.length) maxLen = true from Nat.ble_eq_true_of_le (by rw [maxLen_eq]; omega), cond_true, show Nat.ble (((txT (l.take i)).length + 1) * 16) 140737488355328 = true from Nat.ble_eq_true_of_le (by rw [txT_len]; simp; omega), cond_true, w64 (by omega) (by omega)]
      exact ih'
  rw [f110_run, f110_eq]
  exact key l.length n 0 (by omega) (by omega)

def linkR (v : List AV) : List UInt8 := rootV (linkT v)
def txR (l : List AV) : List UInt8 := rootV (txT l)

theorem linkRoot_runs {v : List AV} (hl : v.length ≤ 100000) (hb : Blob32 v) : RunsX 83 [.slice v] ⟨[.blob (linkR v)], [], false⟩ := by
  refine Evt.succ (((linkTexts_runs hl hb).and (root_runs (l := linkT v) (by rw [linkT_len]; omega) (linkT_short hb))).mono fun n hn => ?_)
  rw [f83_run, f83_eq, hn.1, step1f, toSlice_s, hn.2, step1]; rfl
theorem refLinkRoot_runs {v : List AV} (hl : v.length ≤ 100000) (hb : Blob32 v) : RunsX 85 [.slice v] ⟨[.blob (linkR v)], [], false⟩ := by
  refine Evt.succ (((refLinkTexts_runs hl hb).and (refTreeRoot_runs (l := linkT v) (by rw [linkT_len]; omega) (linkT_short hb))).mono fun n hn => ?_)
  rw [f85_run, f85_eq, hn.1, step1f, toSlice_s, hn.2, step1]; rfl
theorem txRoot_runs {l : List AV} (hl : l.length ≤ 100000) (hs : Shorter l) : RunsX 84 [.slice l] ⟨[.blob (txR l)], [], false⟩ := by
  refine Evt.succ (((txTexts_runs hl hs).and (root_runs (l := txT l) (by rw [txT_len]; omega) (txT_short hs))).mono fun n hn => ?_)
  rw [f84_run, f84_eq, hn.1, step1f, toSlice_s, hn.2, step1]; rfl
theorem refTxRoot_runs {l : List AV} (hl : l.length ≤ 100000) (hs : Shorter l) : RunsX 86 [.slice l] ⟨[.blob (txR l)], [], false⟩ := by
  refine Evt.succ (((refTxTexts_runs hl hs).and (refTreeRoot_runs (l := txT l) (by rw [txT_len]; omega) (txT_short hs))).mono fun n hn => ?_)
  rw [f86_run, f86_eq, hn.1, step1f, toSlice_s, hn.2, step1]; rfl

abbrev Hd (h : Int) (b c : List UInt8) (n : Int) : AV := .agg [.int h, .blob b, .blob c, .int n]
abbrev Blk (h : Int) (b c : List UInt8) (n : Int) (l : List AV) : AV := .agg [Hd h b c n, .slice l]

theorem make_runs {h n : Int} {v l : List AV} (hv : v.length ≤ 100000) (hb : Blob32 v) (hl : l.length ≤ 100000) (hs : Shorter l) : RunsX 52 [.int h, .slice v, .slice l, .int n] ⟨[Blk h (linkR v) (txR l) n l], [], false⟩ := by
  refine Evt.succ (((linkRoot_runs hv hb).and (txRoot_runs hl hs)).mono fun m hm => ?_)
  rw [f52_run, f52_eq, hm.1, step1, hm.2, step1, show Nat.ble (l.length * 16) 140737488355328 = true from Nat.ble_eq_true_of_le (by omega), cond_true]; rfl
theorem refMake_runs {h n : Int} {v l : List AV} (hv : v.length ≤ 100000) (hb : Blob32 v) (hl : l.length ≤ 100000) (hs : Shorter l) : RunsX 54 [.int h, .slice v, .slice l, .int n] ⟨[Hd h (linkR v) (txR l) n], [], false⟩ := by
  refine Evt.succ (((refLinkRoot_runs hv hb).and (refTxRoot_runs hl hs)).mono fun m hm => ?_)
  rw [f54_run, f54_eq, hm.1, step1, hm.2, step1]; rfl

/- whether transactions may be -/
def bigB (l : List AV) : Nat → Nat → Bool
  | 0, _ => false
  | j + 1, i => ltI 4096 ((nth l i).toStr.length : Int) || bigB l j (i + 1)
def mayV (l : List AV) : Int := bif ltI 1024 (l.length : Int) then 4 else bif bigB l l.length 0 then 4 else 0

theorem txMay_l0 (run : Run) (n : Nat) (l : List AV) (hl : l.length ≤ 100000) : ∀ (j k i : Nat), i + j = l.length → j < k → f87_l0 run n k l (l.length : Int) (i : Int) = some ⟨[.int (bif bigB l j i then 4 else 0)], [], false⟩ := by
  intro j
  induction j with
  | zero =>
    intro k i hi hk
    obtain ⟨k, rfl⟩ : ∃ j, k = j + 1 := ⟨k - 1, by omega⟩
    rw [f87_l0_eq, ltI_f (by omega)]; rfl
  | succ j ih =>
    intro k i hi hk
    obtain ⟨k, rfl⟩ : ∃ j, k = j + 1 := ⟨k - 1, by omega⟩
    have ih' := ih k (i + 1) (by omega) (by omega)
    rw [show ((i + 1 : Nat) : Int) = (i : Int) + 1 by omega] at ih'
    rw [f87_l0_eq, ltI_t (a := (i : Int)) (by omega), cond_true, inR_nat (by omega), cond_true, Int.toNat_natCast, w64 (by omega) (by omega), ih']
    simp only [bigB]
    cases ltI 4096 ((nth l i).toStr.length : Int) <;> rfl
theorem refTxMay_l0 (run : Run) (n : Nat) (l : List AV) (hl : l.length ≤ 100000) : ∀ (j k i : Nat), i + j = l.length → j < k → f88_l0 run n k l (i : Int) = some ⟨[.int (bif bigB l j i then 4 else 0)], [], false⟩ := by
  intro j
  induction j with
  | zero =>
    intro k i hi hk
    obtain ⟨k, rfl⟩ : ∃ j, k = j + 1 := ⟨k - 1, by omega⟩
    rw [f88_l0_eq, ltI_f (by omega)]; rfl
  | succ j ih =>
    intro k i hi hk
    obtain ⟨k, rfl⟩ : ∃ j, k = j + 1 := ⟨k - 1, by omega⟩
    have ih' := ih k (i + 1) (by omega) (by omega)
    rw [show ((i + 1 : Nat) : Int) = (i : Int) + 1 by omega] at ih'
    rw [f88_l0_eq, ltI_t (a := (i : Int)) (by omega), cond_true, inR_nat (by omega), cond_true, Int.toNat_natCast, w64 (by omega) (by omega), ih']
    simp only [bigB]
    cases ltI 4096 ((nth l i).toStr.length : Int) <;> rfl
theorem txMay_runs {l : List AV} (hl : l.length ≤ 100000) : RunsX 87 [.slice l] ⟨[.int (mayV l)], [], false⟩ := by
  refine Evt.succ ((Evt.ge (l.length + 1)).mono fun n hn => ?_)
  unfold mayV
  have := txMay_l0 (runE G ext n) n l hl l.length n 0 (by omega) (by omega)
  rw [f87_run, f87_eq]
  cases ltI 1024 (l.length : Int)
  · exact this
  · rfl
theorem refTxMay_runs {l : List AV} (hl : l.length ≤ 100000) : RunsX 88 [.slice l] ⟨[.int (mayV l)], [], false⟩ := by
  refine Evt.succ ((Evt.ge (l.length + 1)).mono fun n hn => ?_)
  unfold mayV
  have := refTxMay_l0 (runE G ext n) n l hl l.length n 0 (by omega) (by omega)
  rw [f88_run, f88_eq]
  cases ltI 1024 (l.length : Int)
  · exact this
  · rfl

/- checking -/
def checkV (h : Int) (b c : List UInt8) (l : List AV) (h' : Int) (v : List AV) : Int :=
  bif eqI h h' then bif eqI (mayV l) 0 then bif eqS (linkR v) b && eqS (txR l) c then 0 else 12 else mayV l else 8

theorem check_runs {h n h' : Int} {b c : List UInt8} {v l : List AV} (hv : v.length ≤ 100000) (hb : Blob32 v) (hl : l.length ≤ 100000) (hs : Shorter l) : RunsX 55 [Blk h b c n l, .int h', .slice v] ⟨[.int (checkV h b c l h' v)], [], false⟩ := by
  refine Evt.succ (((txMay_runs hl).and (make_runs (h := h') (n := n) hv hb hl hs)).mono fun m hm => ?_)
  unfold checkV
  rw [f55_run, f55_eq, hm.1, step1, toInt_i, hm.2, step1]
  have e0 : (((AV.fld (Blk h' (linkR v) (txR l) n l) 0).fld 0).toInt) = h' := rfl
  have e1 : (((AV.fld (Blk h' (linkR v) (txR l) n l) 0).fld 1).toBlob) = linkR v := rfl
  have e2 : (((AV.fld (Blk h' (linkR v) (txR l) n l) 0).fld 2).toBlob) = txR l := rfl
  have e3 : (((AV.fld (Blk h' (linkR v) (txR l) n l) 0).fld 3).toInt) = n := rfl
  rw [e0, e1, e2, e3, eqI_t (a := n) rfl]
  by_cases hh : h = h'
  · rw [eqI_t hh, eqI_t hh.symm]
    cases eqI (mayV l) 0 <;> cases eqS (linkR v) b <;> cases eqS (txR l) c <;> rfl
  · rw [eqI_f hh]; rfl

theorem eqS_comm' (a b : List UInt8) : eqS a b = eqS b a := by
  by_cases h : a = b
  · rw [eqS_t h, eqS_t h.symm]
  · rw [eqS_f h, eqS_f (fun e => h e.symm)]

theorem refCheck_runs {h n h' : Int} {b c : List UInt8} {v l : List AV} (hv : v.length ≤ 100000) (hb : Blob32 v) (hl : l.length ≤ 100000) (hs : Shorter l) : RunsX 56 [Blk h b c n l, .int h', .slice v] ⟨[.int (checkV h b c l h' v)], [], false⟩ := by
  refine Evt.succ ((((refTxMay_runs hl).and (refLinkRoot_runs hv hb)).and (refTxRoot_runs hl hs)).mono fun m hm => ?_)
  unfold checkV
  rw [f56_run, f56_eq, hm.1.1, step1, toInt_i, hm.1.2, step1, toBlob_b, hm.2, step1, toBlob_b, eqS_comm' b, eqS_comm' c]
  cases eqI h h' <;> cases eqI (mayV l) 0 <;> cases eqS (linkR v) b <;> cases eqS (txR l) c <;> rfl

/- comparing -/
def eqTx (l m : List AV) : Nat → Nat → Bool
  | 0, _ => true
  | j + 1, i => eqS (nth l i).toStr (nth m i).toStr && eqTx l m j (i + 1)
theorem eqTx_refl (l : List AV) : ∀ j i, eqTx l l j i = true
  | 0, _ => rfl
  | j + 1, i => by simp only [eqTx]; rw [eqS_t rfl, eqTx_refl l j]; rfl

def sameV (h : Int) (b c : List UInt8) (n : Int) (l : List AV) (h' : Int) (b' c' : List UInt8) (n' : Int) (m : List AV) : Bool :=
  (eqI h h' && (eqS b b' && (eqS c c' && (eqI n n' && true)))) && (eqI (l.length : Int) (m.length : Int) && eqTx l m l.length 0)
theorem sameV_refl (h : Int) (b c : List UInt8) (n : Int) (l : List AV) : sameV h b c n l h b c n l = true := by
  unfold sameV
  rw [eqI_t rfl, eqS_t rfl, eqS_t rfl, eqI_t rfl, eqI_t rfl, eqTx_refl]; rfl

theorem sameBlk_l0 (run : Run) (n : Nat) (l m : List AV) (h' : Int) (b' c' : List UInt8) (n' : Int) (hl : l.length ≤ 100000) (hm : l.length = m.length) : ∀ (j k i : Nat), i + j = l.length → j < k →
    f57_l0 run n k l (l.length : Int) (i : Int) h' b' c' n' m = some ⟨[.bool (eqTx l m j i)], [], false⟩ := by
  intro j
  induction j with
  | zero =>
    intro k i hi hk
    obtain ⟨k, rfl⟩ : ∃ j, k = j + 1 := ⟨k - 1, by omega⟩
    rw [f57_l0_eq, ltI_f (by omega)]; rfl
  | succ j ih =>
    intro k i hi hk
    obtain ⟨k, rfl⟩ : ∃ j, k = j + 1 := ⟨k - 1, by omega⟩
    have ih' := ih k (i + 1) (by omega) (by omega)
    rw [show ((i + 1 : Nat) : Int) = (i : Int) + 1 by omega] at ih'
    rw [f57_l0_eq, ltI_t (by omega), cond_true, inR_nat (by omega), inR_nat (by omega), cond_true, cond_true, Int.toNat_natCast, w64 (by omega) (by omega), ih']
    simp only [eqTx]
    cases eqS (nth l i).toStr (nth m i).toStr <;> rfl
theorem refSameBlk_l0 (run : Run) (n : Nat) (h : Int) (b c : List UInt8) (nn : Int) (l m : List AV) (h' : Int) (b' c' : List UInt8) (n' : Int) (hl : l.length ≤ 100000) (hm : l.length = m.length) : ∀ (j k i : Nat), i + j = l.length → j < k →
    f53_l0 run n k (i : Int) h b c nn l h' b' c' n' m = some ⟨[.bool (eqTx l m j i)], [], false⟩ := by
  intro j
  induction j with
  | zero =>
    intro k i hi hk
    obtain ⟨k, rfl⟩ : ∃ j, k = j + 1 := ⟨k - 1, by omega⟩
    rw [f53_l0_eq, ltI_f (by omega)]; rfl
  | succ j ih =>
    intro k i hi hk
    obtain ⟨k, rfl⟩ : ∃ j, k = j + 1 := ⟨k - 1, by omega⟩
    have ih' := ih k (i + 1) (by omega) (by omega)
    rw [show ((i + 1 : Nat) : Int) = (i : Int) + 1 by omega] at ih'
    rw [f53_l0_eq, ltI_t (by omega), cond_true, inR_nat (by omega), inR_nat (by omega), cond_true, cond_true, Int.toNat_natCast, w64 (by omega) (by omega), ih']
    simp only [eqTx]
    cases eqS (nth l i).toStr (nth m i).toStr <;> rfl

theorem sameBlk_runs {h n h' n' : Int} {b c b' c' : List UInt8} {l m : List AV} (hl : l.length ≤ 100000) : RunsX 57 [Blk h b c n l, Blk h' b' c' n' m] ⟨[.bool (sameV h b c n l h' b' c' n' m)], [], false⟩ := by
  refine Evt.succ ((Evt.ge (l.length + 1)).mono fun k hk => ?_)
  unfold sameV
  rw [f57_run, f57_eq]
  cases eqI h h' && (eqS b b' && (eqS c c' && (eqI n n' && true))) with
  | false => rfl
  | true =>
    rw [not_t, cond_false, Bool.true_and]
    by_cases h3 : (l.length : Int) = (m.length : Int)
    · rw [eqI_t h3, not_t, cond_false, Bool.true_and]
      exact sameBlk_l0 _ k l m h' b' c' n' hl (by omega) l.length k 0 (by omega) (by omega)
    · rw [eqI_f h3, not_f, cond_true]; rfl
theorem refSameBlk_runs {h n h' n' : Int} {b c b' c' : List UInt8} {l m : List AV} (hl : l.length ≤ 100000) : RunsX 53 [Blk h b c n l, Blk h' b' c' n' m] ⟨[.bool (sameV h b c n l h' b' c' n' m)], [], false⟩ := by
  refine Evt.succ ((Evt.ge (l.length + 1)).mono fun k hk => ?_)
  unfold sameV
  rw [f53_run, f53_eq]
  cases eqI h h' && (eqS b b' && (eqS c c' && (eqI n n' && true))) with
  | false => rfl
  | true =>
    rw [not_t, cond_false, Bool.true_and]
    by_cases h3 : (l.length : Int) = (m.length : Int)
    · rw [eqI_t h3, not_t, cond_false, Bool.true_and]
      exact refSameBlk_l0 _ k h b c n l m h' b' c' n' hl (by omega) l.length k 0 (by omega) (by omega)
    · rw [eqI_f h3, not_f, cond_true]; rfl

theorem much22_l0 (run : Run) (n : Nat) (l : List AV) (hl : l.length ≤ maxLen) : ∀ (j k i : Nat) (x : Int), 1100 - i = j → i ≤ l.length → j < k → ∃ b, (b = false → l.length ≤ 1050) ∧ f50_l0 run n k l x (i : Int) = some ⟨[.bool b], [], false⟩ := by
  rw [maxLen_eq] at hl
  have fin2 : ∀ x : Int, ∃ b, (b = false → l.length ≤ 1050) ∧ (bif ltI 1050 (l.length : Int) then some ⟨[.bool true], [], false⟩ else some ⟨[.bool (ltI 6000 x)], [], false⟩) = some (⟨[.bool b], [], false⟩ : Res) := by
    intro x
    by_cases h : 1050 < (l.length : Int)
    · exact ⟨true, (fun h => by cases h), by rw [ltI_t h]; rfl⟩
    · exact ⟨ltI 6000 x, (fun _ => by omega), by rw [ltI_f h]; rfl⟩
  have fin : ∀ x : Int, ∃ b, (b = false → l.length ≤ 1050) ∧ (bif ltI 60 (l.length : Int) then bif leI (l.length : Int) 1024 then some ⟨[.bool true], [], false⟩ else (bif ltI 1050 (l.length : Int) then some ⟨[.bool true], [], false⟩ else some ⟨[.bool (ltI 6000 x)], [], false⟩) else (bif ltI 1050 (l.length : Int) then some ⟨[.bool true], [], false⟩ else some ⟨[.bool (ltI 6000 x)], [], false⟩)) = some (⟨[.bool b], [], false⟩ : Res) := by
    intro x
    cases ltI 60 (l.length : Int)
    · exact fin2 x
    · cases leI (l.length : Int) 1024
      · exact fin2 x
      · exact ⟨true, (fun h => by cases h), rfl⟩
  intro j
  induction j with
  | zero =>
    intro k i x hi _ hk
    obtain ⟨k, rfl⟩ : ∃ j, k = j + 1 := ⟨k - 1, by omega⟩
    rw [f50_l0_eq, ltI_f (a := (i : Int)) (b := 1100) (by omega)]
    cases ltI (i : Int) l.length
    · exact fin x
    · exact fin x
  | succ j ih =>
    intro k i x hi hil hk
    obtain ⟨k, rfl⟩ : ∃ j, k = j + 1 := ⟨k - 1, by omega⟩
    rw [f50_l0_eq]
    by_cases h : i < l.length
    · rw [ltI_t (a := (i : Int)) (b := (l.length : Int)) (by omega), ltI_t (a := (i : Int)) (b := 1100) (by omega), cond_true, cond_true, inR_nat h, cond_true, w64 (x := (i : Int) + 1) (by omega) (by omega)]
      have := ih k (i + 1) (mn2 (IntKind.wrap .i64 (IntKind.wrap .i64 (x + 1) + (((nth l (Int.toNat i)).toStr).length : Int))) 1048576) (by omega) (by omega) (by omega)
      rw [show ((i + 1 : Nat) : Int) = (i : Int) + 1 by omega] at this
      exact this
    · rw [ltI_f (a := (i : Int)) (b := (l.length : Int)) (by omega), cond_false]
      exact fin x

theorem much22_runs {l : List AV} (hl : l.length ≤ maxLen) : ∃ b, (b = false → l.length ≤ 1050) ∧ RunsX 50 [.slice l] ⟨[.bool b], [], false⟩ := by
  obtain ⟨b, h0, h⟩ := much22_l0 (runE G ext 1200) 1200 l hl 1100 1200 0 0 rfl (by omega) (by omega)
  exact ⟨b, h0, RunsX.of_eval 1201 (by rw [f50_run, f50_eq]; exact h)⟩

theorem blkE (h : Int) (b c : List UInt8) (n : Int) (l : List AV) : (AV.agg [.agg [.int (((AV.fld (Blk h b c n l) 0).fld 0).toInt), .blob (((AV.fld (Blk h b c n l) 0).fld 1).toBlob), .blob (((AV.fld (Blk h b c n l) 0).fld 2).toBlob), .int (((AV.fld (Blk h b c n l) 0).fld 3).toInt)], .slice ((AV.fld (Blk h b c n l) 1).toSlice)]) = Blk h b c n l := rfl

theorem nil_blob : Blob32 [] := fun y hy => by cases hy
theorem nil_short : Shorter [] := fun i hi => by simp at hi

theorem blockAwake : RunsX 51 [] ⟨[.bool true], [], false⟩ := by
  have r1 := make_runs (h := 0) (n := 5) (v := []) (l := []) (by simp) nil_blob (by simp) nil_short
  have r2 := check_runs (h := 0) (n := 5) (h' := 0) (b := linkR []) (c := txR []) (v := []) (l := []) (by simp) nil_blob (by simp) nil_short
  have r3 := check_runs (h := 0) (n := 5) (h' := 1) (b := linkR []) (c := txR []) (v := []) (l := []) (by simp) nil_blob (by simp) nil_short
  have r4 := sameBlk_runs (h := 0) (n := 5) (h' := 0) (n' := 5) (b := linkR []) (c := txR []) (b' := linkR []) (c' := txR []) (l := []) (m := []) (by simp)
  rw [sameV_refl] at r4
  have e2 : checkV 0 (linkR []) (txR []) [] 0 [] = 0 := by
    unfold checkV
    rw [eqS_t rfl, eqS_t rfl]; rfl
  have e3 : checkV 0 (linkR []) (txR []) [] 1 [] = 8 := by
    unfold checkV
    rw [eqI_f (by decide)]; rfl
  rw [e2] at r2
  rw [e3] at r3
  refine Evt.succ (((r1.and r2).and (r3.and r4)).mono fun n hn => ?_)
  obtain ⟨⟨g1, g2⟩, g3, g4⟩ := hn
  have e : linkR [] = txR [] := rfl
  have f1 : (((AV.fld (Blk 0 (linkR []) (txR []) 5 []) 0).fld 1).toBlob) = linkR [] := rfl
  have f2 : (((AV.fld (Blk 0 (linkR []) (txR []) 5 []) 0).fld 2).toBlob) = txR [] := rfl
  have f3 : (((AV.fld (Blk 0 (linkR []) (txR []) 5 []) 0).fld 3).toInt) = 5 := rfl
  rw [f51_run, f51_eq, g1, step1, blkE, g2, step1, g3, step1, g4, step1, f1, f2, f3, eqS_t e, cond_true, eqI_t rfl, cond_true, toInt_i, eqI_t rfl, cond_true, toInt_i, eqI_t rfl, cond_true]
  rfl

theorem blockMakes_runs {h n : Int} {v l : List AV} (hl : l.length ≤ maxLen) (hb : Blob32 v) (hs : Shorter l) : RunsX 11 [.agg [.int h, .slice v, .slice l, .int n]] ⟨[.bool true], [], false⟩ := by
  by_cases h1 : 60 < v.length
  · refine Evt.succ (blockAwake.mono fun m hm => ?_)
    rw [f11_run, f11_eq, ltI_t (by omega), cond_true, hm, step1]; rfl
  · by_cases h2 : 60 < l.length
    · refine Evt.succ (blockAwake.mono fun m hm => ?_)
      rw [f11_run, f11_eq, ltI_f (by omega), cond_false, ltI_t (by omega), cond_true, hm, step1]; rfl
    · obtain ⟨b, _, hm⟩ := much22_runs hl
      cases b with
      | true =>
        refine Evt.succ ((hm.and blockAwake).mono fun m hm => ?_)
        rw [f11_run, f11_eq, ltI_f (by omega), cond_false, ltI_f (by omega), cond_false, hm.1, step1, toBool_b, cond_true, hm.2, step1]; rfl
      | false =>
        have r1 := make_runs (h := h) (n := n) (v := v) (l := l) (by omega) hb (by omega) hs
        have r2 := refMake_runs (h := h) (n := n) (v := v) (l := l) (by omega) hb (by omega) hs
        have r3 := refSameBlk_runs (h := h) (n := n) (h' := h) (n' := n) (b := linkR v) (c := txR l) (b' := linkR v) (c' := txR l) (l := l) (m := l) (by omega)
        rw [sameV_refl] at r3
        refine Evt.succ ((((hm.and blockAwake).and (r1.and r2)).and r3).mono fun m hm => ?_)
        obtain ⟨⟨⟨g1, g2⟩, g3, g4⟩, g5⟩ := hm
        have e : AV.agg [.agg [.int ((AV.fld (Hd h (linkR v) (txR l) n) 0).toInt), .blob ((AV.fld (Hd h (linkR v) (txR l) n) 1).toBlob), .blob ((AV.fld (Hd h (linkR v) (txR l) n) 2).toBlob), .int ((AV.fld (Hd h (linkR v) (txR l) n) 3).toInt)], .slice l] = Blk h (linkR v) (txR l) n l := rfl
        rw [f11_run, f11_eq, ltI_f (by omega), cond_false, ltI_f (by omega), cond_false, g1, step1, toBool_b, cond_false, g3, step1, g4, step1, blkE, e, g5, step1, toBool_b, cond_true, g2, step1]
        rfl

theorem blockBack_l0 (m n : Nat) {v l : List AV} {h n' : Int} {h2 : AV} (hl : l.length ≤ 60)
    (h55 : runE G ext m 55 [Blk h (linkR v) (txR l) n' l, .int h, .slice v] = some ⟨[.int (mayV l)], [], false⟩) (ha : runE G ext m 51 [] = some ⟨[.bool true], [], false⟩) : ∀ (j k i : Nat) (w : Int), i + j = l.length → j < k → (bif bigB l j i then 4 else w) = mayV l →
    f13_l0 (runE G ext m) n k v l w (i : Int) [.int h, h2] h (linkR v) (txR l) n' l = some ⟨[.bool true], [], false⟩ := by
  intro j
  induction j with
  | zero =>
    intro k i w hi hk hw
    obtain ⟨k, rfl⟩ : ∃ j, k = j + 1 := ⟨k - 1, by omega⟩
    have e : (AV.fld (.agg [.int h, h2]) 0).toInt = h := rfl
    simp only [bigB, cond_false] at hw
    rw [f13_l0_eq, ltI_f (by omega), cond_false, e, h55, step1, toInt_i, hw, eqI_t rfl, cond_true, ha, step1]; rfl
  | succ j ih =>
    intro k i w hi hk hw
    obtain ⟨k, rfl⟩ : ∃ j, k = j + 1 := ⟨k - 1, by omega⟩
    simp only [bigB] at hw
    rw [f13_l0_eq, ltI_t (a := (i : Int)) (by omega), cond_true, inR_nat (by omega), cond_true, Int.toNat_natCast, w64 (by omega) (by omega)]
    cases hb : ltI 4096 ((nth l i).toStr.length : Int) with
    | true =>
      rw [hb, Bool.true_or, cond_true] at hw
      have := ih k (i + 1) 4 (by omega) (by omega) (by rw [← hw]; cases bigB l j (i + 1) <;> rfl)
      rw [show ((i + 1 : Nat) : Int) = (i : Int) + 1 by omega] at this
      exact this
    | false =>
      rw [hb, Bool.false_or] at hw
      have := ih k (i + 1) w (by omega) (by omega) hw
      rw [show ((i + 1 : Nat) : Int) = (i : Int) + 1 by omega] at this
      exact this

theorem blockBack_runs {h n h' : Int} {v l : List AV} (hl : l.length ≤ maxLen) (hb : Blob32 v) (hs : Shorter l) : RunsX 13 [.agg [.int h, .slice v, .slice l, .int n], .int h'] ⟨[.bool true], [], false⟩ := by
  by_cases h1 : 60 < v.length
  · refine Evt.succ (blockAwake.mono fun m hm => ?_)
    rw [f13_run, f13_eq, ltI_t (by omega), cond_true, hm, step1]; rfl
  · by_cases h2 : 60 < l.length
    · refine Evt.succ (blockAwake.mono fun m hm => ?_)
      rw [f13_run, f13_eq, ltI_f (by omega), cond_false, ltI_t (by omega), cond_true, hm, step1]; rfl
    · obtain ⟨b, _, hm⟩ := much22_runs hl
      cases b with
      | true =>
        refine Evt.succ ((hm.and blockAwake).mono fun m hm => ?_)
        rw [f13_run, f13_eq, ltI_f (by omega), cond_false, ltI_f (by omega), cond_false, hm.1, step1, toBool_b, cond_true, hm.2, step1]; rfl
      | false =>
        have r1 := make_runs (h := h) (n := n) (v := v) (l := l) (by omega) hb (by omega) hs
        have r2 := check_runs (h := h) (n := n) (h' := h) (b := linkR v) (c := txR l) (v := v) (l := l) (by omega) hb (by omega) hs
        have r3 := check_runs (h := h) (n := n) (h' := h') (b := linkR v) (c := txR l) (v := v) (l := l) (by omega) hb (by omega) hs
        have e2 : checkV h (linkR v) (txR l) l h v = mayV l := by
          unfold checkV
          rw [eqI_t rfl, eqS_t rfl, eqS_t rfl]
          cases hc : eqI (mayV l) 0 with
          | true => rw [eqI_iff] at hc; rw [hc]; rfl
          | false => rfl
        rw [e2] at r2
        refine Evt.succ ((((hm.and blockAwake).and (r1.and (r2.and r3))).and (Evt.ge 1000)).mono fun m hm => ?_)
        obtain ⟨⟨⟨g1, g2⟩, g3, g4, g5⟩, g6⟩ := hm
        have tail := blockBack_l0 m m (v := v) (l := l) (h := h) (n' := n) (h2 := .int h') (by omega) g4 g2 l.length m 0 0 (by omega) (by omega) (by
          unfold mayV
          rw [ltI_f (by omega)]; rfl)
        have e0 : (AV.fld (.agg [.int h, .int h']) 0).toInt = h := rfl
        have e1 : (AV.fld (.agg [.int h, .int h']) 1).toInt = h' := rfl
        have e3 : (((AV.fld (Blk h (linkR v) (txR l) n l) 0).fld 0).toInt) = h := rfl
        have e4 : (((AV.fld (Blk h (linkR v) (txR l) n l) 0).fld 1).toBlob) = linkR v := rfl
        have e5 : (((AV.fld (Blk h (linkR v) (txR l) n l) 0).fld 2).toBlob) = txR l := rfl
        have e6 : (((AV.fld (Blk h (linkR v) (txR l) n l) 0).fld 3).toInt) = n := rfl
        have e7 : ((AV.fld (Blk h (linkR v) (txR l) n l) 1).toSlice) = l := rfl
        rw [f13_run, f13_eq, ltI_f (by omega), cond_false, ltI_f (by omega), cond_false, g1, step1, toBool_b, cond_false, e0, e1, g3, step1, e3, e4, e5, e6, e7]
        by_cases hh : h = h'
        · rw [eqI_t hh, not_t, cond_false]
          exact tail
        · have e8 : checkV h (linkR v) (txR l) l h' v = 8 := by
            unfold checkV
            rw [eqI_f hh]; rfl
          rw [e8] at g5
          rw [eqI_f hh, not_f, cond_true, g5, step1, toInt_i, eqI_t rfl, not_t, cond_false]
          exact tail

theorem blockChecks_runs {a0 a1 : AV} {h' : Int} {v : List AV} (l0 : ((a0.fld 1).toSlice).length ≤ maxLen) (l1 : ((a1.fld 1).toSlice).length ≤ maxLen) (s0 : Shorter ((a0.fld 1).toSlice)) (hb : Blob32 v) : RunsX 12 [.agg [a0, a1], .int h', .slice v] ⟨[.bool true], [], false⟩ := by
  have e0 : AV.fld (.agg [a0, a1]) 0 = a0 := rfl
  have e1 : AV.fld (.agg [a0, a1]) 1 = a1 := rfl
  by_cases h1 : 60 < v.length
  · refine Evt.succ (blockAwake.mono fun m hm => ?_)
    rw [f12_run, f12_eq, ltI_t (by omega), cond_true, hm, step1]; rfl
  · obtain ⟨b, hb0, hm⟩ := much22_runs l0
    obtain ⟨c, _, hm1⟩ := much22_runs l1
    cases b with
    | true =>
      refine Evt.succ ((hm.and blockAwake).mono fun m hm => ?_)
      rw [f12_run, f12_eq, ltI_f (by omega), cond_false, e0, hm.1, step1, toBool_b, cond_true, hm.2, step1]; rfl
    | false =>
      cases c with
      | true =>
        refine Evt.succ (((hm.and hm1).and blockAwake).mono fun m hm => ?_)
        rw [f12_run, f12_eq, ltI_f (by omega), cond_false, e0, e1, hm.1.1, step1, toBool_b, cond_false, hm.1.2, step1, toBool_b, cond_true, hm.2, step1]; rfl
      | false =>
        have hle := hb0 rfl
        have r1 := check_runs (h := ((a0.fld 0).fld 0).toInt) (n := ((a0.fld 0).fld 3).toInt) (h' := h') (b := ((a0.fld 0).fld 1).toBlob) (c := ((a0.fld 0).fld 2).toBlob) (v := v) (l := (a0.fld 1).toSlice) (by omega) hb (by omega) s0
        have r2 := refCheck_runs (h := ((a0.fld 0).fld 0).toInt) (n := ((a0.fld 0).fld 3).toInt) (h' := h') (b := ((a0.fld 0).fld 1).toBlob) (c := ((a0.fld 0).fld 2).toBlob) (v := v) (l := (a0.fld 1).toSlice) (by omega) hb (by omega) s0
        have r3 := sameBlk_runs (h := ((a0.fld 0).fld 0).toInt) (n := ((a0.fld 0).fld 3).toInt) (b := ((a0.fld 0).fld 1).toBlob) (c := ((a0.fld 0).fld 2).toBlob) (l := (a0.fld 1).toSlice) (h' := ((a1.fld 0).fld 0).toInt) (n' := ((a1.fld 0).fld 3).toInt) (b' := ((a1.fld 0).fld 1).toBlob) (c' := ((a1.fld 0).fld 2).toBlob) (m := (a1.fld 1).toSlice) (by omega)
        have r4 := refSameBlk_runs (h := ((a0.fld 0).fld 0).toInt) (n := ((a0.fld 0).fld 3).toInt) (b := ((a0.fld 0).fld 1).toBlob) (c := ((a0.fld 0).fld 2).toBlob) (l := (a0.fld 1).toSlice) (h' := ((a1.fld 0).fld 0).toInt) (n' := ((a1.fld 0).fld 3).toInt) (b' := ((a1.fld 0).fld 1).toBlob) (c' := ((a1.fld 0).fld 2).toBlob) (m := (a1.fld 1).toSlice) (by omega)
        have r5 := sameBlk_runs (h := ((a0.fld 0).fld 0).toInt) (n := ((a0.fld 0).fld 3).toInt) (b := ((a0.fld 0).fld 1).toBlob) (c := ((a0.fld 0).fld 2).toBlob) (l := (a0.fld 1).toSlice) (h' := ((a0.fld 0).fld 0).toInt) (n' := ((a0.fld 0).fld 3).toInt) (b' := ((a0.fld 0).fld 1).toBlob) (c' := ((a0.fld 0).fld 2).toBlob) (m := (a0.fld 1).toSlice) (by omega)
        rw [sameV_refl] at r5
        refine Evt.succ (((((hm.and hm1).and blockAwake).and (r1.and r2)).and ((r3.and r4).and r5)).mono fun m hm => ?_)
        obtain ⟨⟨⟨⟨g1, g2⟩, g3⟩, g4, g5⟩, ⟨g6, g7⟩, g8⟩ := hm
        rw [f12_run, f12_eq, ltI_f (by omega), cond_false, e0, e1, g1, step1, toBool_b, cond_false, g2, step1, toBool_b, cond_false, g4, step1, g5, step1, toInt_i, eqI_t rfl, cond_true, g6, step1, g7, step1, toBool_b, eqO_t rfl, cond_true, g8, step1, toBool_b, cond_true, g3, step1]
        rfl

theorem blockMakes_sat (xs : List AV) (h : Ty.HasL [.struct [.int .u32, .slice (.blob 32), .slice .str, .int .u64]] xs) : ∃ r, r.vals = [.bool true] ∧ Sat Try.prog f11_info 11 xs r := by
  obtain ⟨x, r, rfl, ⟨m0, rfl, y0, s0, rfl, ⟨hh, rfl, _⟩, y1, s1, rfl, ⟨v, rfl, _, _, hv⟩, y2, s2, rfl, ⟨l, rfl, hl, _, hx⟩, y3, s3, rfl, ⟨n, rfl, _⟩, rfl⟩, rfl⟩ := h
  exact ⟨_, rfl, sat_of_runsX (by kernel_rfl) (blockMakes_runs hl (blob32_of hv) (shorter_of hx))⟩
theorem blockBack_sat (xs : List AV) (h : Ty.HasL [.struct [.int .u32, .slice (.blob 32), .slice .str, .int .u64], .int .u32] xs) : ∃ r, r.vals = [.bool true] ∧ Sat Try.prog f13_info 13 xs r := by
  obtain ⟨x, r, rfl, ⟨m0, rfl, y0, s0, rfl, ⟨hh, rfl, _⟩, y1, s1, rfl, ⟨v, rfl, _, _, hv⟩, y2, s2, rfl, ⟨l, rfl, hl, _, hx⟩, y3, s3, rfl, ⟨n, rfl, _⟩, rfl⟩, z, r2, rfl, ⟨k, rfl, _⟩, rfl⟩ := h
  exact ⟨_, rfl, sat_of_runsX (by kernel_rfl) (blockBack_runs hl (blob32_of hv) (shorter_of hx))⟩

theorem txs_of {y : AV} {t : Ty} (h : (Ty.struct [t, .slice .str]).Has y) : ((y.fld 1).toSlice).length ≤ maxLen ∧ Shorter ((y.fld 1).toSlice) := by
  obtain ⟨l0, rfl, y0, s0, rfl, _, y1, s1, rfl, ⟨l, rfl, hl, _, hx⟩, rfl⟩ := h
  exact ⟨hl, shorter_of hx⟩
theorem blockChecks_sat (xs : List AV) (h : Ty.HasL [.arr 2 (.struct [.struct [.int .u32, .blob 32, .blob 32, .int .u64], .slice .str]), .int .u32, .slice (.blob 32)] xs) : ∃ r, r.vals = [.bool true] ∧ Sat Try.prog f12_info 12 xs r := by
  obtain ⟨x, r, rfl, ⟨a, rfl, ha, hf⟩, y, r', rfl, ⟨n, rfl, _⟩, z, r2, rfl, ⟨v, rfl, _, _, hv⟩, rfl⟩ := h
  match a, ha, hf with
  | [a0, a1], _, hf =>
    have h0 := txs_of (hf 0 _ rfl)
    have h1 := txs_of (hf 1 _ rfl)
    exact ⟨_, rfl, sat_of_runsX (by kernel_rfl) (blockChecks_runs h0.1 h1.1 h0.2 (blob32_of hv))⟩

end Go.Proofs.Ytcpdiahbdmcdcaa.Ev
