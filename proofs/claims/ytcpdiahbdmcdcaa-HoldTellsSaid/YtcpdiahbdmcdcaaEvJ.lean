/- What a slice holds, cell by cell. -/
import Derived.Test.YtcpdiahbdmcdcaaEvI
import Derived.Laws.BytesString
import Derived.Laws.BytesArg
namespace Go.Proofs.Ytcpdiahbdmcdcaa.Ev
open Go Go.RowKit

variable {c : Ctx} {gh : Ghost} {s : St} {a : Act} {w : World} {P : Program} {G : Env} {S : Snap}

theorem Addr.add_add (p : Addr) (m n : Nat) : (p.add m).add n = p.add (m + n) := by
  unfold Addr.add
  by_cases hm : m = 0 <;> by_cases hn : n = 0 <;> simp [hm, hn, Nat.add_assoc]

theorem Snap.has_append {p : Addr} {m : Nat} {cs ds : List Value} (h : S.has (p.add m) cs) (k : S.has (p.add (m + cs.length)) ds) : S.has (p.add m) (cs ++ ds) := by
  intro j v hj
  by_cases hlt : j < cs.length
  · rw [List.getElem?_append_left hlt] at hj
    exact h j v hj
  · rw [List.getElem?_append_right (by omega)] at hj
    have := k _ v hj
    rw [Addr.add_add] at this ⊢
    rw [show m + cs.length + (j - cs.length) = m + j by omega] at this
    exact this

theorem arr_nil {e : Ty} : Rep S (.arr 0 e) [] (.agg []) := by
  simp only [Rep]
  exact ⟨[], rfl, rfl, by simp, by simp⟩

theorem arr_cons {e : Ty} {n : Nat} {ds cs : List Value} {y : AV} {ys : List AV} (h : Rep S e ds y) (k : Rep S (.arr n e) cs (.agg ys)) : Rep S (.arr (n + 1) e) (ds ++ cs) (.agg (y :: ys)) := by
  have hl := Rep.len _ _ _ h
  simp only [Rep] at k ⊢
  obtain ⟨xs, hx, h1, h2, h3⟩ := k
  simp only [AV.agg.injEq] at hx
  subst hx
  refine ⟨_, rfl, by simp [h1], by simp [hl, h2, Nat.succ_mul]; omega, fun i z hz => ?_⟩
  cases i with
  | zero =>
    simp at hz
    subst hz
    simp only [Nat.zero_mul, List.drop_zero, ← hl, List.take_left]
    exact h
  | succ i =>
    simp at hz
    have := h3 i z hz
    rw [Nat.succ_mul, Nat.add_comm, ← List.drop_drop, ← hl, List.drop_left, hl]
    exact this

theorem arr_uncons {e : Ty} {n : Nat} {cs : List Value} {xs : List AV} (h : Rep S (.arr (n + 1) e) cs (.agg xs)) :
    ∃ ds cs' y ys, cs = ds ++ cs' ∧ xs = y :: ys ∧ Rep S e ds y ∧ Rep S (.arr n e) cs' (.agg ys) := by
  simp only [Rep] at h
  obtain ⟨xs', hx, h1, h2, h3⟩ := h
  simp only [AV.agg.injEq] at hx
  subst hx
  match xs, h1 with
  | y :: ys, h1 =>
    have h4 := h3 0 y rfl
    simp only [Nat.zero_mul, List.drop_zero] at h4
    refine ⟨_, _, y, ys, (List.take_append_drop e.size cs).symm, rfl, h4, ?_⟩
    simp only [Rep]
    refine ⟨ys, rfl, by simpa using h1, by rw [List.length_drop, h2, Nat.succ_mul]; omega, fun i z hz => ?_⟩
    have := h3 (i + 1) z (by simpa using hz)
    rw [Nat.succ_mul, Nat.add_comm, ← List.drop_drop] at this
    exact this

/-- An own array, and a part of it. -/
theorem arr_sub {e : Ty} {n lo hi : Nat} {cs : List Value} {xs : List AV} (h : Rep S (.arr n e) cs (.agg xs)) (h1 : lo ≤ hi) (h2 : hi ≤ n) :
    Rep S (.arr (hi - lo) e) ((cs.drop (lo * e.size)).take ((hi - lo) * e.size)) (.agg ((xs.take hi).drop lo)) := by
  simp only [Rep] at h ⊢
  obtain ⟨xs', hx, hn, hc, h3⟩ := h
  simp only [AV.agg.injEq] at hx
  subst hx
  have b1 : hi * e.size ≤ n * e.size := Nat.mul_le_mul_right _ h2
  have b2 : lo * e.size ≤ hi * e.size := Nat.mul_le_mul_right _ h1
  have b3 : (hi - lo) * e.size = hi * e.size - lo * e.size := Nat.sub_mul _ _ _
  refine ⟨_, rfl, by simp [hn]; omega, by simp only [List.length_take, List.length_drop]; omega, fun i y hy => ?_⟩
  rw [List.getElem?_drop, List.getElem?_take] at hy
  split at hy
  · rename_i hlt
    have h4 := h3 _ y hy
    have b4 : (i + 1) * e.size ≤ (hi - lo) * e.size := Nat.mul_le_mul_right _ (by omega)
    rw [Nat.succ_mul] at b4
    rw [slot_take _ _ _ _ b4, List.drop_drop, ← Nat.add_mul]
    exact h4
  · cases hy

theorem elems_rep {t e : Ty} {cs : List Value} {x : AV} (he : t.elem = some e) (h : Rep S t cs x) : Rep S (.arr t.count e) cs (.agg (elemsOf t x)) := by
  cases t <;> simp [Ty.elem] at he
  case blob n =>
    subst he
    obtain ⟨b, hb, rfl, rfl⟩ := h
    simp only [elemsOf, AV.toBlob, Ty.count]
    simp only [Rep]
    refine ⟨_, rfl, by simp [ofBytes, hb], by simp [Ty.size, hb], fun i y hy => ?_⟩
    simp only [ofBytes, List.getElem?_map] at hy
    obtain ⟨u, hu, rfl⟩ := Option.map_eq_some_iff.1 hy
    have hlt := (List.getElem?_eq_some_iff.1 hu).1
    simp only [Ty.size, Nat.mul_one]
    rw [byte_at hlt]
    refine ⟨(u.toNat : Int), ?_, rfl, u8_wf u⟩
    simp [byteV, List.getD, hu]
  case arr n f =>
    subst he
    have h' := h
    simp only [Rep] at h'
    obtain ⟨xs, rfl, _⟩ := h'
    exact h

theorem elems_back {t e : Ty} {cs : List Value} {xs : List AV} (he : t.elem = some e) (h : Rep S (.arr t.count e) cs (.agg xs)) : Rep S t cs (ofElems t xs) := by
  cases t <;> simp [Ty.elem] at he
  case blob n =>
    subst he
    simp only [ofElems, Ty.count] at h ⊢
    induction n generalizing cs xs with
    | zero =>
      simp only [Rep] at h
      obtain ⟨xs', hx, h1, h2, _⟩ := h
      simp only [AV.agg.injEq] at hx
      subst hx
      have : xs = [] := List.eq_nil_of_length_eq_zero h1
      subst this
      have : cs = [] := List.eq_nil_of_length_eq_zero (by simpa using h2)
      subst this
      exact ⟨[], rfl, rfl, rfl⟩
    | succ n ih =>
      obtain ⟨ds, cs', y, ys, rfl, rfl, ⟨v, rfl, rfl, wf⟩, k⟩ := arr_uncons h
      obtain ⟨b, hb, rfl, hbb⟩ := ih k
      simp only [AV.blob.injEq] at hbb
      refine ⟨UInt8.ofNat v.toNat :: b, by simp [hb], ?_, by simp [bytesOf, AV.toInt] at hbb ⊢; exact hbb⟩
      simp [u8_of_wf wf]
  case arr n f =>
    subst he
    exact h

theorem arr_bytes {n : Nat} {cs : List Value} {xs : List AV} (h : Rep S (.arr n (.int .u8)) cs (.agg xs)) : ∃ ns : List Int, cs = ns.map (Value.int .u8) ∧ xs = ns.map AV.int ∧ ns.length = n := by
  induction n generalizing cs xs with
  | zero =>
    simp only [Rep] at h
    obtain ⟨xs', hx, h1, h2, _⟩ := h
    simp only [AV.agg.injEq] at hx
    subst hx
    have : xs = [] := List.eq_nil_of_length_eq_zero h1
    subst this
    have : cs = [] := List.eq_nil_of_length_eq_zero (by simpa using h2)
    subst this
    exact ⟨[], rfl, rfl, rfl⟩
  | succ n ih =>
    obtain ⟨ds, cs', y, ys, rfl, rfl, ⟨v, rfl, rfl, wf⟩, k⟩ := arr_uncons h
    obtain ⟨ns, rfl, rfl, hn⟩ := ih k
    exact ⟨v :: ns, rfl, rfl, by simp [hn]⟩

/-- The cells of a slice. -/
theorem slice_arr {e : Ty} {p : Addr} : ∀ (es : List AV) (k : Nat), (∀ i y, es[i]? = some y → ∃ ds, S.has (p.add ((k + i) * e.size)) ds ∧ ds.length = e.size ∧ Rep S e ds y) →
    ∃ cs, S.has (p.add (k * e.size)) cs ∧ Rep S (.arr es.length e) cs (.agg es)
  | [], k, _ => ⟨[], by intro j v h; simp at h, arr_nil⟩
  | y :: es, k, h => by
    obtain ⟨ds, h1, h2, h3⟩ := h 0 y rfl
    obtain ⟨cs, h4, h5⟩ := slice_arr es (k + 1) (fun i z hz => by
      obtain ⟨d, q1, q2, q3⟩ := h (i + 1) z (by simpa using hz)
      exact ⟨d, by rw [show k + 1 + i = k + (i + 1) by omega]; exact q1, q2, q3⟩)
    refine ⟨ds ++ cs, Snap.has_append (by simpa using h1) ?_, arr_cons h3 h5⟩
    rw [h2, ← Nat.succ_mul]
    exact h4

theorem arr_slice {e : Ty} {p : Addr} {n : Nat} {cs : List Value} {es : List AV} (h : Rep S (.arr n e) cs (.agg es)) (hc : S.has p cs) :
    ∀ i y, es[i]? = some y → ∃ ds, S.has (p.add (i * e.size)) ds ∧ ds.length = e.size ∧ Rep S e ds y := by
  simp only [Rep] at h
  obtain ⟨xs', hx, h1, h2, h3⟩ := h
  simp only [AV.agg.injEq] at hx
  subst hx
  intro i y hy
  have h4 := h3 i y hy
  refine ⟨_, fun j v hj => ?_, Rep.len _ _ _ h4, h4⟩
  rw [List.getElem?_take] at hj
  split at hj
  · rw [List.getElem?_drop] at hj
    rw [Addr.add_add]
    exact hc _ v hj
  · cases hj

theorem VRep.cells {e : Ty} {v : Value} {y : AV} (h : VRep S (.slice e) v y) : ∃ ao cap es cs, v = .slice ao es.length cap ∧ y = .slice es ∧ es.length ≤ cap ∧ cap ≤ maxLen ∧ Rep S (.arr es.length e) cs (.agg es) ∧
    (∀ p, ao = some p → S.has p cs) ∧ (ao = none → es = [] ∧ cs = [] ∧ cap = 0) := by
  obtain ⟨ao, len, cap, es, rfl, rfl, rfl, h1, h2, h3, h4⟩ := h.slice
  cases ao with
  | none =>
    have h0 := h3 rfl
    have : es = [] := List.eq_nil_of_length_eq_zero (by omega)
    subst this
    exact ⟨none, cap, [], [], rfl, rfl, h1, h2, arr_nil, (fun p e => by cases e), fun _ => ⟨rfl, rfl, h0⟩⟩
  | some p =>
    obtain ⟨cs, h5, h6⟩ := slice_arr (p := p) es 0 (fun i y hy => by simpa using h4 p rfl i y hy)
    refine ⟨some p, cap, es, cs, rfl, rfl, h1, h2, h6, fun q e => ?_, fun e => by cases e⟩
    cases e
    simp [Addr.add] at h5
    exact h5

/-- A slice of an own array. -/
theorem Rel.refCells (h : Rel c gh s a w) {p : Pt} {lo hi : Nat} {l : List AV} {v : Value} (hv : RefRel gh s p lo hi v) (hl : s.refList p lo hi = some l) : ∃ ad cap e cs, v = .slice (some ad) l.length cap ∧ p.t.elem = some e ∧ l.length ≤ cap ∧ cap ≤ maxLen ∧ l.length = hi - lo ∧
    Rep gh.S (.arr l.length e) cs (.agg l) ∧ (∀ j u, cs[j]? = some u → w.cell? (ad.add j) = some u) ∧ ∃ ob, (s.slot p.id).ob = some ob ∧ p.gen = (s.slot p.id).gen := by
  unfold St.refList St.getPt St.obAt at hl
  cases hg : Nat.beq (s.slot p.id).gen p.gen with
  | false => simp [hg] at hl
  | true =>
    simp only [hg, cond_true] at hl
    obtain ⟨x, hx, rfl⟩ := Option.map_eq_some_iff.1 hl
    obtain ⟨ob, hob, rfl⟩ := Option.map_eq_some_iff.1 hx
    have hgen : p.gen = (s.slot p.id).gen := (Nat.eq_of_beq_eq_true hg).symm
    obtain ⟨off, e, ad, cap, hpath, hel, h1, h2, rfl, h3, h4, h5⟩ := hv.2 hgen ob hob
    obtain ⟨cs0, k1, k2, k3, k4⟩ := h.objs p.id ob hob
    have g1 := getP_rep p.path ob.t p.t off cs0 ob.x hpath k3
    have g2 := elems_rep hel g1.1
    have g3 := arr_sub g2 h1 h2
    have hlen : (((elemsOf p.t (getP ob.t ob.x p.path)).take hi).drop lo).length = hi - lo := by
      simp only [Rep] at g3
      obtain ⟨xs, hx, q, _⟩ := g3
      simp only [AV.agg.injEq] at hx
      rw [hx]; exact q
    refine ⟨ad, cap, e, _, by rw [hlen], hel, by omega, h4, hlen, by rw [hlen]; exact g3, fun j u hj => ?_, ob, hob, hgen⟩
    rw [List.getElem?_take] at hj
    split at hj
    · rename_i hjl
      rw [List.getElem?_drop, List.getElem?_take] at hj
      split at hj
      · rw [List.getElem?_drop] at hj
        have hlt : lo < hi := by
          rcases Nat.lt_or_ge lo hi with hh | hh
          · exact hh
          · rw [Nat.sub_eq_zero_of_le hh] at hjl; omega
        rw [h5 hlt]
        have : (⟨gh.m p.id, off + lo * e.size, none⟩ : Addr).add j = ⟨gh.m p.id, off + (lo * e.size + j), none⟩ := by
          unfold Addr.add
          by_cases hj0 : j = 0 <;> simp [hj0, Nat.add_assoc]
        rw [this, k1.cell]
        exact hj
      · cases hj
    · cases hj

theorem refOf_some {e : Ent} {p : Pt} {lo hi : Nat} (h : e.refOf = some (p, (lo, hi))) : e = .ref p lo hi := by
  cases e <;> simp [Ent.refOf] at h
  obtain ⟨rfl, rfl, rfl⟩ := h
  rfl

/-- What is appended, or copied. -/
theorem Rel.src (h : Rel c gh s a w) {e : Ty} {y : Operand} {b : List AV} {ro : List Nat} (hk : srcE s (.slice e) y = some (b, ro)) :
    ∃ ao cap cs, a.eval y = .slice ao b.length cap ∧ b.length ≤ maxLen ∧ Rep gh.S (.arr b.length e) cs (.agg b) ∧ (∀ p, ao = some p → ∀ j u, cs[j]? = some u → w.cell? (p.add j) = some u) ∧ (ao = none → b = [] ∧ cs = []) := by
  unfold srcE at hk
  split at hk
  · rename_i p lo hi hr
    have hr := refOf_some hr
    have hv := h.ope y
    rw [hr] at hv
    split at hk
    · rename_i e0 e' heq hel
      simp only [Ty.slice.injEq] at heq
      subst heq
      obtain ⟨hb, hk⟩ := cond_some hk
      obtain ⟨l, hl, hk⟩ := Option.map_eq_some_iff.1 hk
      simp only [Prod.mk.injEq] at hk
      obtain ⟨rfl, rfl⟩ := hk
      obtain ⟨ad, cap, e1, cs, h1, h2, h3, h4, h5, h6, h7, _⟩ := h.refCells hv hl
      rw [h2] at hel
      simp only [Option.some.injEq] at hel
      subst hel
      rw [Ty.beq_eq _ _ hb] at h6
      exact ⟨some ad, cap, cs, h1, by omega, h6, fun p e => by cases e; exact h7, fun e => by cases e⟩
    · cases hk
  · obtain ⟨x, hx, hk⟩ := Option.map_eq_some_iff.1 hk
    simp only [Prod.mk.injEq] at hk
    obtain ⟨rfl, rfl⟩ := hk
    obtain ⟨ao, cap, es, cs, h1, rfl, h3, h4, h5, h6, h7⟩ := (h.opv hx).cells
    exact ⟨ao, cap, cs, h1, by simp only [AV.toSlice]; omega, h5, fun p e j u hj => h.agree _ _ (h6 p e j u hj), fun e => ⟨(h7 e).1, (h7 e).2.1⟩⟩

end Go.Proofs.Ytcpdiahbdmcdcaa.Ev
