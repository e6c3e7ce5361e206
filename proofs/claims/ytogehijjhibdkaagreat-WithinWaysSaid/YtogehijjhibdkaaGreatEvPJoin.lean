/- Steps that lead to one another. -/
import Derived.Test.YtogehijjhibdkaaGreatEvPIdent
import Derived.Test.YtogehijjhibdkaaGreatEvPLinkC
namespace Go.Proofs.YtogehijjhibdkaaGreat.Ev
open Go Go.RowKit

def StepA (y : AV) : Prop := HeadA (y.fld 0) ∧ Blob32 ((y.fld 1).fld 2).toSlice
def Steps (l : List AV) : Prop := ∀ i, i < l.length → StepA (nth l i)
abbrev openTy : Ty := .struct [.int .i64, .int .i64, .slice (.blob 32)]
abbrev stepTy : Ty := .struct [headTy, openTy]
theorem openA_of {y : AV} (h : openTy.Has y) : Blob32 (y.fld 2).toSlice := by
  obtain ⟨l0, rfl, y0, s0, rfl, ⟨i, rfl, _⟩, y1, s1, rfl, ⟨n, rfl, _⟩, y2, s2, rfl, ⟨P, rfl, _, _, hx⟩, rfl⟩ := h
  exact blob32_of hx
theorem stepA_of {y : AV} (h : stepTy.Has y) : StepA y := by
  obtain ⟨l0, rfl, y0, s0, rfl, hh, y1, s1, rfl, ho, rfl⟩ := h
  exact ⟨headA_of hh, openA_of ho⟩
theorem steps_of {l : List AV} (h : ∀ (i : Nat) y, l[i]? = some y → stepTy.Has y) : Steps l := by
  intro i hi
  rw [nth_lt hi]
  exact stepA_of (h i _ (List.getElem?_eq_getElem hi))

/-- Whether a step's opening leads to a header. -/
def holdsA (s h : AV) : Bool := leadsV ((s.fld 0).fld 1).toBlob (idA h) ((s.fld 1).fld 0).toInt ((s.fld 1).fld 1).toInt ((s.fld 1).fld 2).toSlice

theorem holds_runs' {h : Int} {ls ts : List UInt8} {nc i n : Int} {P : List AV} {h' : Int} {ls' ts' : List UInt8} {nc' : Int} (hb : Blob32 P) (H : HeadOk h' ls' ts' nc') :
    RunsX 107 [.agg [.agg [.int h, .blob ls, .blob ts, .int nc], .agg [.int i, .int n, .slice P]], .agg [.int h', .blob ls', .blob ts', .int nc']] ⟨[.bool (leadsV ls (idV h' ls' ts' nc') i n P)], [], false⟩ := by
  refine Evt.succ (((id_runs H).and (linkCheck_runs (root := ls) (i := i) (n := n) (idV_len h' ls' ts' nc') hb)).mono fun m hn => ?_)
  rw [f107_run, f107_eq]
  repeat (first | rw [step1] | rw [step1f] | rw [step2] | rw [step3] | rw [toBool_b] | rw [toInt_i] | rw [toStr_s] | rw [toBlob_b] | rw [toSlice_s] | rw [fld0] | rw [fld1] | rw [fld2] | rw [fld3] | rw [cond_true] | rw [cond_false] | rw [not_t] | rw [not_f] | rw [hn.1] | rw [hn.2])
  rfl
/-- The step at a place leads to the header ahead. -/
def hj (l : List AV) (i : Nat) : Bool := holdsA (nth l i) ((nth l (i - 1)).fld 0)
def firstJ (l : List AV) : Nat → Nat → Int
  | 0, _ => -1
  | j + 1, i => bif hj l i then firstJ l j (i + 1) else (i : Int)

def idsV (l : List AV) : List AV := l.map fun y => .blob (idA (y.fld 0))
theorem idsV_len (l : List AV) : (idsV l).length = l.length := by simp [idsV]
theorem idsV_take {l : List AV} {i : Nat} (h : i < l.length) : idsV (l.take i) ++ [.blob (idA ((nth l i).fld 0))] = idsV (l.take (i + 1)) := by
  rw [List.take_succ_eq_append_getElem h, nth_lt h]; simp only [idsV, List.map_append, List.map_cons, List.map_nil]
/-- A header, written out. -/
def headN (y : AV) : AV := .agg [.int (y.fld 0).toInt, .blob (y.fld 1).toBlob, .blob (y.fld 2).toBlob, .int (y.fld 3).toInt]
theorem headN_id (y : AV) : idA (headN y) = idA y := rfl
def headsV (l : List AV) : List AV := l.map fun y => headN (y.fld 0)
theorem headsV_len (l : List AV) : (headsV l).length = l.length := by simp [headsV]
theorem headsV_take {l : List AV} {i : Nat} (h : i < l.length) : headsV (l.take i) ++ [headN ((nth l i).fld 0)] = headsV (l.take (i + 1)) := by
  rw [List.take_succ_eq_append_getElem h, nth_lt h]; simp only [headsV, List.map_append, List.map_cons, List.map_nil]
/-- The ids of headers. -/
def hidsV (l : List AV) : List AV := l.map fun y => .blob (idA y)
theorem hidsV_len (l : List AV) : (hidsV l).length = l.length := by simp [hidsV]
theorem hidsV_take {l : List AV} {i : Nat} (h : i < l.length) : hidsV (l.take i) ++ [.blob (idA (nth l i))] = hidsV (l.take (i + 1)) := by
  rw [List.take_succ_eq_append_getElem h, nth_lt h]; simp only [hidsV, List.map_append, List.map_cons, List.map_nil]
theorem hidsV_heads (l : List AV) : hidsV (headsV l) = idsV l := by simp [hidsV, headsV, idsV, headN_id]

end Go.Proofs.YtogehijjhibdkaaGreat.Ev
