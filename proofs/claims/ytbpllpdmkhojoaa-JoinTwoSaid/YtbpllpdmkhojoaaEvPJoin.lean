/- Steps that lead to one another. -/
import Derived.Test.YtbpllpdmkhojoaaEvPIdent
import Derived.Test.YtbpllpdmkhojoaaEvPLinkC
namespace Go.Proofs.Ytbpllpdmkhojoaa.Ev
open Go Go.RowKit

def StepA (y : AV) : Prop := HeadA (y.fld 0) ∧ Blob32 ((y.fld 1).fld 2).toSlice
def Steps (l : List AV) : Prop := ∀ i, i < l.length → StepA (nth l i)
abbrev openTy : Ty := .struct [.int .i64, .int .i64, .slice (.blob 32)]
abbrev stepTy : Ty := .struct [headTy, openTy]
theorem openA_of {y : AV} (h : openTy.Has y) : Blob32 (y.fld 2).toSlice := by
  obtain ⟨l0, rfl, y0, s0, rfl, ⟨i, rfl, _⟩, y1, s1, rfl, ⟨n, rfl, _⟩, y2, s2, rfl, ⟨P, rfl, _, _, hx⟩, rfl⟩ := h
  exact blob32_of hx
theorem stepA_of {y : AV} (h : stepTy.Has y) : StepA y := by
  obtain ⟨l0, rfl, y0, s0, rfl, hh, y1, s1, rfl, ho, rfl⟩ := h
  exact ⟨headA_of hh, openA_of ho⟩
theorem steps_of {l : List AV} (h : ∀ (i : Nat) y, l[i]? = some y → stepTy.Has y) : Steps l := by
  intro i hi
  rw [nth_lt hi]
  exact stepA_of (h i _ (List.getElem?_eq_getElem hi))

/-- Whether a step's opening leads to a header. -/
def holdsA (s h : AV) : Bool := leadsV ((s.fld 0).fld 1).toBlob (idA h) ((s.fld 1).fld 0).toInt ((s.fld 1).fld 1).toInt ((s.fld 1).fld 2).toSlice

theorem holds_runs' {h : Int} {ls ts : List UInt8} {nc i n : Int} {P : List AV} {h' : Int} {ls' ts' : List UInt8} {nc' : Int} (hb : Blob32 P) (H : HeadOk h' ls' ts' nc') :
    RunsX 22 [.agg [.agg [.int h, .blob ls, .blob ts, .int nc], .agg [.int i, .int n, .slice P]], .agg [.int h', .blob ls', .blob ts', .int nc']] ⟨[.bool (leadsV ls (idV h' ls' ts' nc') i n P)], [], false⟩ := by
  refine Evt.succ (((id_runs H).and (linkCheck_runs (root := ls) (i := i) (n := n) (idV_len h' ls' ts' nc') hb)).mono fun m hn => ?_)
  rw [f22_run, f22_eq]
  repeat (first | rw [step1] | rw [step1f] | rw [step2] | rw [step3] | rw [toBool_b] | rw [toInt_i] | rw [toStr_s] | rw [toBlob_b] | rw [toSlice_s] | rw [fld0] | rw [fld1] | rw [fld2] | rw [fld3] | rw [cond_true] | rw [cond_false] | rw [not_t] | rw [not_f] | rw [hn.1] | rw [hn.2])
  rfl
theorem refHolds_runs' {h : Int} {ls ts : List UInt8} {nc i n : Int} {P : List AV} {h' : Int} {ls' ts' : List UInt8} {nc' : Int} (hb : Blob32 P) (H : HeadOk h' ls' ts' nc') :
    RunsX 23 [.agg [.agg [.int h, .blob ls, .blob ts, .int nc], .agg [.int i, .int n, .slice P]], .agg [.int h', .blob ls', .blob ts', .int nc']] ⟨[.bool (leadsV ls (idV h' ls' ts' nc') i n P)], [], false⟩ := by
  refine Evt.succ (((refId_runs H).and (refLeads_runs (root := ls) (i := i) (n := n) (idV_len h' ls' ts' nc') hb)).mono fun m hn => ?_)
  rw [f23_run, f23_eq]
  repeat (first | rw [step1] | rw [step1f] | rw [step2] | rw [step3] | rw [toBool_b] | rw [toInt_i] | rw [toStr_s] | rw [toBlob_b] | rw [toSlice_s] | rw [fld0] | rw [fld1] | rw [fld2] | rw [fld3] | rw [cond_true] | rw [cond_false] | rw [not_t] | rw [not_f] | rw [hn.1] | rw [hn.2])
  rfl

/-- The step at a place leads to the header ahead. -/
def hj (l : List AV) (i : Nat) : Bool := holdsA (nth l i) ((nth l (i - 1)).fld 0)
def firstJ (l : List AV) : Nat → Nat → Int
  | 0, _ => -1
  | j + 1, i => bif hj l i then firstJ l j (i + 1) else (i : Int)

theorem joinFirst_runs {l : List AV} (hl : l.length ≤ 100000) (hs : Steps l) : RunsX 26 [.slice l] ⟨[.int (firstJ l (l.length - 1) 1)], [], false⟩ := by
  have hall := Evt.all l.length fun i (hi : i < l.length) => holds_runs' (h := (((nth l i).fld 0).fld 0).toInt) (ls := (((nth l i).fld 0).fld 1).toBlob) (ts := (((nth l i).fld 0).fld 2).toBlob) (nc := (((nth l i).fld 0).fld 3).toInt) (i := (((nth l i).fld 1).fld 0).toInt) (n := (((nth l i).fld 1).fld 1).toInt) (hs i hi).2 (hs (i - 1) (by omega)).1
  refine Evt.succ ((hall.and (Evt.ge (l.length + 2))).mono fun n hn => ?_)
  have key : ∀ (j k i : Nat), 1 ≤ i → i + j = max 1 l.length → j < k → f26_l0 (runE G ext n) n k l (i : Int) = some ⟨[.int (firstJ l j i)], [], false⟩ := by
    intro j
    induction j with
    | zero =>
      intro k i h1 hi hk
      obtain ⟨k, rfl⟩ : ∃ j, k = j + 1 := ⟨k - 1, by omega⟩
      rw [f26_l0_eq, ltI_f (by omega)]; rfl
    | succ j ih =>
      intro k i h1 hi hk
      obtain ⟨k, rfl⟩ : ∃ j, k = j + 1 := ⟨k - 1, by omega⟩
      have ih' := ih k (i + 1) (by omega) (by omega) (by omega)
      rw [show ((i + 1 : Nat) : Int) = (i : Int) + 1 by omega] at ih'
      have e := hn.1 i (by omega)
      rw [f26_l0_eq, ltI_t (a := (i : Int)) (by omega), cond_true, inR_nat (by omega), cond_true, w64 (x := (i : Int) - 1) (by omega) (by omega), show (i : Int) - 1 = ((i - 1 : Nat) : Int) by omega, inR_nat (by omega), cond_true, Int.toNat_natCast, Int.toNat_natCast, e, step1, toBool_b, w64 (x := (i : Int) + 1) (by omega) (by omega), ih']
      simp only [firstJ]
      change (bif !(hj l i) then _ else _) = _
      cases hj l i <;> rfl
  rw [f26_run, f26_eq]
  exact key (l.length - 1) n 1 (by omega) (by omega) (by omega)

def idsV (l : List AV) : List AV := l.map fun y => .blob (idA (y.fld 0))
theorem idsV_len (l : List AV) : (idsV l).length = l.length := by simp [idsV]
theorem idsV_take {l : List AV} {i : Nat} (h : i < l.length) : idsV (l.take i) ++ [.blob (idA ((nth l i).fld 0))] = idsV (l.take (i + 1)) := by
  rw [List.take_succ_eq_append_getElem h, nth_lt h]; simp only [idsV, List.map_append, List.map_cons, List.map_nil]
/-- A header, written out. -/
def headN (y : AV) : AV := .agg [.int (y.fld 0).toInt, .blob (y.fld 1).toBlob, .blob (y.fld 2).toBlob, .int (y.fld 3).toInt]
theorem headN_id (y : AV) : idA (headN y) = idA y := rfl
def headsV (l : List AV) : List AV := l.map fun y => headN (y.fld 0)
theorem headsV_len (l : List AV) : (headsV l).length = l.length := by simp [headsV]
theorem headsV_take {l : List AV} {i : Nat} (h : i < l.length) : headsV (l.take i) ++ [headN ((nth l i).fld 0)] = headsV (l.take (i + 1)) := by
  rw [List.take_succ_eq_append_getElem h, nth_lt h]; simp only [headsV, List.map_append, List.map_cons, List.map_nil]
/-- The ids of headers. -/
def hidsV (l : List AV) : List AV := l.map fun y => .blob (idA y)
theorem hidsV_len (l : List AV) : (hidsV l).length = l.length := by simp [hidsV]
theorem hidsV_take {l : List AV} {i : Nat} (h : i < l.length) : hidsV (l.take i) ++ [.blob (idA (nth l i))] = hidsV (l.take (i + 1)) := by
  rw [List.take_succ_eq_append_getElem h, nth_lt h]; simp only [hidsV, List.map_append, List.map_cons, List.map_nil]
theorem hidsV_heads (l : List AV) : hidsV (headsV l) = idsV l := by simp [hidsV, headsV, idsV, headN_id]

theorem identIds_runs {l : List AV} (hl : l.length ≤ 100000) (hs : ∀ i, i < l.length → HeadA (nth l i)) : RunsX 68 [.slice l] ⟨[.slice (hidsV l)], [], true⟩ := by
  have hall := Evt.all l.length fun i hi => id_runs (hs i hi)
  refine Evt.succ ((hall.and (Evt.ge (l.length + 1))).mono fun n hn => ?_)
  have key : ∀ (j k i : Nat), i + j = l.length → j < k → f68_l0 (runE G ext n) n k (hidsV (l.take i)) l (l.length : Int) (i : Int) = some ⟨[.slice (hidsV l)], [], true⟩ := by
    intro j
    induction j with
    | zero =>
      intro k i hi hk
      obtain ⟨k, rfl⟩ : ∃ j, k = j + 1 := ⟨k - 1, by omega⟩
      rw [f68_l0_eq, ltI_f (by omega), cond_false, List.take_of_length_le (by omega)]; rfl
    | succ j ih =>
      intro k i hi hk
      obtain ⟨k, rfl⟩ : ∃ j, k = j + 1 := ⟨k - 1, by omega⟩
      have ih' := ih k (i + 1) (by omega) (by omega)
      rw [show ((i + 1 : Nat) : Int) = (i : Int) + 1 by omega, ← hidsV_take (by omega)] at ih'
      rw [f68_l0_eq, ltI_t (by omega), cond_true, inR_nat (by omega), cond_true, Int.toNat_natCast, hn.1 i (by omega), step1, toBlob_b, show Nat.ble (((hidsV (l.take i)).length + 1) * 32) 140737488355328 = true from Nat.ble_eq_true_of_le (by rw [hidsV_len]; simp; omega), cond_true, w64 (by omega) (by omega)]
      exact ih'
  rw [f68_run, f68_eq]
  exact key l.length n 0 (by omega) (by omega)

theorem joinIds_runs {l : List AV} (hl : l.length ≤ 100000) (hs : Steps l) : RunsX 28 [.slice l] ⟨[.slice (idsV l)], [], true⟩ := by
  have r := identIds_runs (l := headsV l) (by rw [headsV_len]; exact hl) (fun i hi => by
    rw [headsV_len] at hi
    rw [nth_lt (by rw [headsV_len]; exact hi)]
    have := (hs i hi).1
    rw [nth_lt hi] at this
    simp only [headsV, List.getElem_map]
    exact this)
  rw [hidsV_heads] at r
  refine Evt.succ ((r.and (Evt.ge (l.length + 1))).mono fun n hn => ?_)
  have key : ∀ (j k i : Nat), i + j = l.length → j < k → f28_l0 (runE G ext n) n k (headsV (l.take i)) l (l.length : Int) (i : Int) = some ⟨[.slice (idsV l)], [], true⟩ := by
    intro j
    induction j with
    | zero =>
      intro k i hi hk
      obtain ⟨k, rfl⟩ : ∃ j, k = j + 1 := ⟨k - 1, by omega⟩
      rw [f28_l0_eq, ltI_f (by omega), cond_false, List.take_of_length_le (by omega), hn.1, step1f]; rfl
    | succ j ih =>
      intro k i hi hk
      obtain ⟨k, rfl⟩ : ∃ j, k = j + 1 := ⟨k - 1, by omega⟩
      have ih' := ih k (i + 1) (by omega) (by omega)
      rw [show ((i + 1 : Nat) : Int) = (i : Int) + 1 by omega, ← headsV_take (by omega)] at ih'
      rw [f28_l0_eq, ltI_t (by omega), cond_true, inR_nat (by omega), cond_true, Int.toNat_natCast, show Nat.ble (((headsV (l.take i)).length + 1) * 80) 140737488355328 = true from Nat.ble_eq_true_of_le (by rw [headsV_len]; simp; omega), cond_true, w64 (by omega) (by omega)]
      exact ih'
  rw [f28_run, f28_eq]
  exact key l.length n 0 (by omega) (by omega)

theorem refJoinIds_runs {l : List AV} (hl : l.length ≤ 100000) (hs : Steps l) : RunsX 29 [.slice l] ⟨[.slice (idsV l)], [], true⟩ := by
  have hall := Evt.all l.length fun i hi => refId_runs (hs i hi).1
  refine Evt.succ ((hall.and (Evt.ge (l.length + 1))).mono fun n hn => ?_)
  have key : ∀ (j k i : Nat), i + j = l.length → j < k → f29_l0 (runE G ext n) n k l (idsV (l.take i)) (i : Int) = some ⟨[.slice (idsV l)], [], true⟩ := by
    intro j
    induction j with
    | zero =>
      intro k i hi hk
      obtain ⟨k, rfl⟩ : ∃ j, k = j + 1 := ⟨k - 1, by omega⟩
      rw [f29_l0_eq, ltI_f (by omega), cond_false, List.take_of_length_le (by omega)]; rfl
    | succ j ih =>
      intro k i hi hk
      obtain ⟨k, rfl⟩ : ∃ j, k = j + 1 := ⟨k - 1, by omega⟩
      have ih' := ih k (i + 1) (by omega) (by omega)
      rw [show ((i + 1 : Nat) : Int) = (i : Int) + 1 by omega, ← idsV_take (by omega)] at ih'
      rw [f29_l0_eq, ltI_t (by omega), cond_true, inR_nat (by omega), cond_true, Int.toNat_natCast, hn.1 i (by omega), step1, toBlob_b, show Nat.ble (((idsV (l.take i)).length + 1) * 32) 140737488355328 = true from Nat.ble_eq_true_of_le (by rw [idsV_len]; simp; omega), cond_true, w64 (by omega) (by omega)]
      exact ih'
  rw [f29_run, f29_eq]
  exact key l.length n 0 (by omega) (by omega)

end Go.Proofs.Ytbpllpdmkhojoaa.Ev
