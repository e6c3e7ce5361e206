/- What is known of memory grows: new blocks, slices that grow. -/
import Derived.Test.YtcpdiahbdmcdcaaEvL
namespace Go.Proofs.Ytcpdiahbdmcdcaa.Ev
open Go Go.RowKit

variable {c : Ctx} {gh : Ghost} {s : St} {a : Act} {w : World} {P : Program} {G : Env}

theorem alloc_old (w : World) (o : Obj) {k : Nat} (h : k < w.heap.size) : (w.alloc o).heap[k]? = w.heap[k]? := by
  show (w.heap.push o)[k]? = _
  rw [Array.getElem?_push, if_neg (by omega)]
theorem alloc_new (w : World) (o : Obj) : (w.alloc o).heap[w.heap.size]? = some o := by
  show (w.heap.push o)[w.heap.size]? = _
  rw [Array.getElem?_push, if_pos rfl]

/-- More is known of a block, from a cell on. -/
def Snap.plus (S : Snap) (b k : Nat) (cs : List Value) : Snap := fun p =>
  match S p with
  | some v => some v
  | none => if p.block = b ∧ p.spot = none ∧ k ≤ p.off then cs[p.off - k]? else none

theorem Snap.le_plus (S : Snap) (b k : Nat) (cs : List Value) : S.le (S.plus b k cs) := fun p v h => by simp [Snap.plus, h]

theorem Snap.plus_new {S : Snap} {b k : Nat} {cs : List Value} {p : Addr} {v : Value} (h : S.plus b k cs p = some v) : S p = some v ∨ (p.block = b ∧ p.spot = none ∧ k ≤ p.off ∧ cs[p.off - k]? = some v) := by
  unfold Snap.plus at h
  split at h
  · rename_i u hu
    cases h
    exact .inl hu
  · split at h
    · rename_i hc
      exact .inr ⟨hc.1, hc.2.1, hc.2.2, h⟩
    · cases h

theorem add_plain (b k j : Nat) : (⟨b, k, none⟩ : Addr).add j = ⟨b, k + j, none⟩ := by
  unfold Addr.add
  by_cases h : j = 0 <;> simp [h]

theorem Snap.plus_has {S : Snap} {b k : Nat} (cs : List Value) (h : S.off b k) : (S.plus b k cs).has ⟨b, k, none⟩ cs := fun j v hj => by
  rw [add_plain]
  unfold Snap.plus
  rw [h ⟨b, k + j, none⟩ rfl (by simp)]
  simp [hj]

theorem Snap.plus_off {S : Snap} {b k : Nat} (cs : List Value) (h : S.off b k) : (S.plus b k cs).off b (k + cs.length) := fun p hp hk => by
  cases hs : S.plus b k cs p with
  | none => rfl
  | some v =>
    rcases Snap.plus_new hs with h1 | ⟨_, _, h2, h3⟩
    · rw [h p hp (by omega)] at h1; cases h1
    · have := (List.getElem?_eq_some_iff.1 h3).1
      omega

theorem Snap.plus_off' {S : Snap} {b k : Nat} {cs : List Value} {b' k' : Nat} (h : S.off b' k') (hb : b' ≠ b) : (S.plus b k cs).off b' k' := fun p hp hk => by
  cases hs : S.plus b k cs p with
  | none => rfl
  | some v =>
    rcases Snap.plus_new hs with h1 | ⟨h1, _⟩
    · rw [h p hp hk] at h1; cases h1
    · exact absurd (hp.symm.trans h1) hb

theorem Rel.off_new (h : Rel c gh s a w) {b : Nat} (hb : w.heap.size ≤ b) : gh.S.off b 0 := fun p hp _ => by
  cases hs : gh.S p with
  | none => rfl
  | some v =>
    have := World.block_lt_of_cell? w p (h.agree p v hs)
    omega

/-- A new block, after any number of draws: all of it may be known. -/
theorem Rel.alloc (h : Rel c gh s a w) (w1 : World) (h1 : w1.os = w.os ∧ w1.tape = w.tape ∧ w1.output = w.output ∧ w1.heap = w.heap) (cs more : List Value) (tid : TypeId) :
    Rel c { gh with S := gh.S.plus w.heap.size 0 cs } s a (w1.alloc (.cells (cs ++ more).toArray tid)) ∧ Row (w1.alloc (.cells (cs ++ more).toArray tid)) w.heap.size (cs ++ more) := by
  have hrow : Row (w1.alloc (.cells (cs ++ more).toArray tid)) w.heap.size (cs ++ more) := by
    refine ⟨tid, ?_⟩
    rw [← h1.2.2.2]
    exact alloc_new w1 _
  refine ⟨h.grow ⟨⟨h1.1, h1.2.1, h1.2.2.1, by simp [h1.2.2.2], fun k hk _ => ?_⟩, Snap.le_plus _ _ _ _, fun p v hp => ?_, fun p v hp => ?_⟩, hrow⟩
  · rw [alloc_old w1 _ (by rw [h1.2.2.2]; exact hk), h1.2.2.2]
  · rcases Snap.plus_new hp with h2 | ⟨h2, _⟩
    · exact .inl h2
    · exact .inr (by omega)
  · rcases Snap.plus_new hp with h2 | ⟨h2, h3, _, h4⟩
    · have hlt := World.block_lt_of_cell? w p (h.agree p v h2)
      rw [World.cell?_of_block (w := w) (by rw [alloc_old w1 _ (by rw [h1.2.2.2]; exact hlt), h1.2.2.2])]
      exact h.agree p v h2
    · have : p = ⟨w.heap.size, p.off, none⟩ := by cases p; simp at h2 h3 ⊢; exact ⟨h2, h3⟩
      rw [this, hrow.cell]
      have hlt := (List.getElem?_eq_some_iff.1 h4).1
      simp only [Nat.sub_zero] at h4 hlt
      rw [List.getElem?_append_left hlt]
      exact h4

theorem arr_append {S : Snap} {e : Ty} {n m : Nat} {cs ds : List Value} {xs ys : List AV} (h : Rep S (.arr n e) cs (.agg xs)) (k : Rep S (.arr m e) ds (.agg ys)) : Rep S (.arr (n + m) e) (cs ++ ds) (.agg (xs ++ ys)) := by
  induction n generalizing cs xs with
  | zero =>
    have hl := Rep.len _ _ _ h
    simp [Ty.size] at hl
    simp only [Rep] at h
    obtain ⟨xs', hx, h1, _⟩ := h
    simp only [AV.agg.injEq] at hx
    subst hx
    have : xs = [] := List.eq_nil_of_length_eq_zero h1
    subst this; subst hl
    simpa using k
  | succ n ih =>
    obtain ⟨d, cs', y, ys', rfl, rfl, h1, h2⟩ := arr_uncons h
    have := arr_cons h1 (ih h2)
    rw [show n + 1 + m = n + m + 1 by omega]
    simpa using this

theorem VRep.slice_mk {S : Snap} {e : Ty} {p : Addr} {n cap : Nat} {cs : List Value} {es : List AV} (h : Rep S (.arr n e) cs (.agg es)) (hc : S.has p cs) (h1 : n ≤ cap) (h2 : cap ≤ maxLen) : VRep S (.slice e) (.slice (some p) n cap) (.slice es) := by
  refine ⟨[_], (val_one rfl _).symm, ?_⟩
  have hn : es.length = n := by
    simp only [Rep] at h
    obtain ⟨xs', hx, h1, _⟩ := h
    simp only [AV.agg.injEq] at hx
    rw [hx]; exact h1
  simp only [Rep]
  exact ⟨_, _, _, _, rfl, rfl, hn, h1, h2, (fun e => by cases e), fun q hq => by cases hq; exact arr_slice h hc⟩

theorem arr_len {S : Snap} {e : Ty} {n : Nat} {cs : List Value} {es : List AV} (h : Rep S (.arr n e) cs (.agg es)) : es.length = n ∧ cs.length = n * e.size := by
  have h2 := Rep.len _ _ _ h
  simp only [Rep] at h
  obtain ⟨xs', hx, h1, _⟩ := h
  simp only [AV.agg.injEq] at hx
  subst hx
  exact ⟨h1, by simpa [Ty.size] using h2⟩

/-- A new slice of the call's own gets its name. -/
theorem Rel.named (h : Rel c gh s a w) (d : Nat) (hd : d < s.owns.length) (n' : Nat) (hn : s.own d < n') {e : Ty} {v : Value} {x : AV} (ho : OwnRow c.B gh.S w v e.size) (hv : VRep gh.S (.slice e) v x)
    (hdist : ∀ g b, g ≠ d → (gh.τ g).ownBlock = some b → v.ownBlock ≠ some b) (hm : ∀ id ob b, (s.slot id).ob = some ob → v.ownBlock = some b → gh.m id ≠ b) :
    ∃ gh', Rel c gh' ⟨s.tmps, s.objs, s.owns.set d n'⟩ a w ∧ EntRel gh' ⟨s.tmps, s.objs, s.owns.set d n'⟩ (.val (.slice e) (some (d, n')) x) v := by
  refine ⟨_, h.bump d n' hd hn v e.size ho hdist hm, hv, fun g' n hg => ?_⟩
  simp only [Option.some.injEq, Prod.mk.injEq] at hg
  obtain ⟨rfl, rfl⟩ := hg
  rw [own_set hd, if_pos rfl]
  exact ⟨Nat.le_refl _, fun _ => ⟨(upd_same _ _ _).symm, e, rfl, upd_same _ _ _⟩⟩

theorem dst_lt {d : Nat} (h : dstOk s (some d) = true) : d < s.tmps.length := Nat.le_of_ble_eq_true h

theorem Rel.dst_own (h : Rel c gh s a w) {d : Nat} (hd : dstOk s (some d) = true) : d < s.owns.length := by rw [h.now]; exact dst_lt hd
theorem Rel.dst_obj (h : Rel c gh s a w) {d : Nat} (hd : dstOk s (some d) = true) : d < s.objs.length := by rw [h.nob]; exact dst_lt hd

/-- The computation tells a value, and memory may turn. -/
def Does (P : Program) (c : Ctx) (s : St) (a : Act) (w : World) (m : Sem Value) (f : Eff) : Prop :=
  ∃ gh' v w', m.run P w = .ok v w' ∧ Rel c gh' (s.mid f) a w' ∧ EntRel gh' (s.mid f) f.e v

theorem Tells.does {m : Sem Value} {f : Eff} (h : Rel c gh s a w) (t : Tells P gh s w m f) : Does P c s a w m f := by
  obtain ⟨e, ro, rw', v, rfl, hr, he⟩ := t
  exact ⟨gh, v, w, hr, h, he⟩

theorem Does.wp {o : Oper} {m : Sem Value} {f : Eff} {next : Act → World → Prop} {Q : Exit → Act → World → Prop} (t : Does P c s a w m f) (ho : (execOp a.eval o).run P w = (m.run P w).andThen fun v w' => .ok (.value v) w')
    (hd : dstOk s o.dst = true) (hn : ∀ gh' a' w', Rel c gh' (f.apply o.dst s) a' w' → next a' w') : o.wp P a w next Q := by
  obtain ⟨gh', v, w', hr, h, he⟩ := t
  exact wp_value (by rw [ho, hr]; rfl) h he hd hn

/- a slice that is nil, as the call's own -/
theorem own_nil (B : Nat) (S : Snap) (w : World) (k : Nat) : OwnRow B S w (.slice none 0 0) k := .inl rfl

theorem nil_rep (S : Snap) (e : Ty) : VRep S (.slice e) (.slice none 0 0) (.slice []) := by
  refine ⟨[_], (val_one rfl _).symm, ?_⟩
  simp only [Rep]
  exact ⟨none, 0, 0, [], rfl, rfl, rfl, Nat.le_refl _, by simp [maxLen], fun _ => rfl, by simp⟩

/-- A slice on a new block, all its cells known. -/
theorem Rel.newSlice (h : Rel c gh s a w) (w1 : World) (h1 : w1.os = w.os ∧ w1.tape = w.tape ∧ w1.output = w.output ∧ w1.heap = w.heap) {e : Ty} {n cap : Nat} (cs more : List Value) (tid : TypeId) {es : List AV}
    (hr : Rep gh.S (.arr n e) cs (.agg es)) (hl : (cs ++ more).length = cap * e.size) (hn : n ≤ cap) (hc : cap ≤ maxLen) (d : Nat) (hd : d < s.owns.length) (n' : Nat) (hn' : s.own d < n') :
    ∃ gh', Rel c gh' ⟨s.tmps, s.objs, s.owns.set d n'⟩ a (w1.alloc (.cells (cs ++ more).toArray tid)) ∧
      EntRel gh' ⟨s.tmps, s.objs, s.owns.set d n'⟩ (.val (.slice e) (some (d, n')) (.slice es)) (.slice (some ⟨w.heap.size, 0, none⟩) n cap) := by
  obtain ⟨h2, hrow⟩ := h.alloc w1 h1 cs more tid
  have hoff := h.off_new (Nat.le_refl w.heap.size)
  refine h2.named d hd n' hn' ?_ (VRep.slice_mk (Rep.mono (Snap.le_plus _ _ _ _) _ _ _ hr) (Snap.plus_has cs hoff) hn hc) ?_ ?_
  · refine .inr ⟨w.heap.size, n, cap, cs ++ more, rfl, h.size, hrow, hl, hn, hc, ?_⟩
    have := Snap.plus_off cs hoff
    rw [(arr_len hr).2, Nat.zero_add] at this
    exact this
  · intro g b _ hg hv
    simp [Value.ownBlock] at hv
    exact h.fresh_τ (Nat.le_refl w.heap.size) g (by rw [hv]; exact hg)
  · intro id ob b ho hv
    simp [Value.ownBlock] at hv
    rw [← hv]
    exact h.fresh_m (Nat.le_refl w.heap.size) id ob ho

end Go.Proofs.Ytcpdiahbdmcdcaa.Ev
