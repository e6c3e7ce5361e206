/- How a state of the evaluator stands to the slots of a call and to memory. -/
import Derived.Test.YtcpdiahbdmcdcaaEvD
import Derived.Laws.AppendOwn
namespace Go.Proofs.Ytcpdiahbdmcdcaa.Ev
open Go Go.RowKit

mutual
theorem Rep.one {S : Snap} : ∀ (t : Ty) (cs : List Value) (x : AV), Rep S t cs x → ∀ (j : Nat) (v : Value), cs[j]? = some v → v.oneCell' = true
  | .bool, _, _, r, j, v, h => by
    obtain ⟨b, rfl, _⟩ := r
    cases j <;> simp at h
    subst h; rfl
  | .int _, _, _, r, j, v, h => by
    obtain ⟨b, rfl, _⟩ := r
    cases j <;> simp at h
    subst h; rfl
  | .str, _, _, r, j, v, h => by
    obtain ⟨b, rfl, _⟩ := r
    cases j <;> simp at h
    subst h; rfl
  | .blob n, _, _, r, j, v, h => by
    obtain ⟨b, _, rfl, _⟩ := r
    rw [List.getElem?_map] at h
    obtain ⟨u, _, rfl⟩ := Option.map_eq_some_iff.1 h
    rfl
  | .arr n e, cs, x, r, j, v, h => by
    simp only [Rep] at r
    obtain ⟨xs, rfl, hn, hc, r⟩ := r
    have hj : j < n * e.size := by rw [← hc]; exact (List.getElem?_eq_some_iff.1 h).1
    have hs : 0 < e.size := by
      rcases Nat.eq_zero_or_pos e.size with h0 | h0
      · rw [h0] at hj; omega
      · exact h0
    have hi : j / e.size < n := (Nat.div_lt_iff_lt_mul hs).2 hj
    have hx : xs[j / e.size]? = some xs[j / e.size] := by simp [hn, hi]
    refine Rep.one e _ _ (r _ _ hx) (j % e.size) v ?_
    rw [List.getElem?_take, if_pos (Nat.mod_lt _ hs), List.getElem?_drop]
    rw [Nat.mul_comm, Nat.div_add_mod]
    exact h
  | .struct fs, cs, x, r, j, v, h => by
    simp only [Rep] at r
    obtain ⟨xs, rfl, r⟩ := r
    exact RepL.one fs cs xs r j v h
  | .slice e, cs, x, r, j, v, h => by
    simp only [Rep] at r
    obtain ⟨a, len, cap, es, rfl, _⟩ := r
    cases j <;> simp at h
    subst h; rfl
  | .fn, cs, x, r, j, v, h => by
    obtain ⟨b, rfl, _⟩ := r
    cases j <;> simp at h
    subst h; rfl
theorem RepL.one {S : Snap} : ∀ (ts : List Ty) (cs : List Value) (xs : List AV), RepL S ts cs xs → ∀ (j : Nat) (v : Value), cs[j]? = some v → v.oneCell' = true
  | [], cs, xs, r, j, v, h => by
    obtain ⟨rfl, _⟩ := r
    simp at h
  | t :: ts, cs, xs, r, j, v, h => by
    simp only [RepL] at r
    obtain ⟨y, ys, rfl, h2, h3, h4⟩ := r
    by_cases hj : j < t.size
    · exact Rep.one t _ _ h3 j v (by rw [List.getElem?_take, if_pos hj]; exact h)
    · exact RepL.one ts _ _ h4 (j - t.size) v (by rw [List.getElem?_drop]; rw [show t.size + (j - t.size) = j by omega]; exact h)
end

/-- Blocks below B are as they were, but for some. -/
structure Keep (B : Nat) (ex : List Nat) (w w' : World) : Prop where
  os : w'.os = w.os
  tape : w'.tape = w.tape
  output : w'.output = w.output
  size : w.heap.size ≤ w'.heap.size
  block : ∀ k, k < B → k ∉ ex → w'.heap[k]? = w.heap[k]?

theorem Keep.refl (B : Nat) (ex : List Nat) (w : World) : Keep B ex w w := ⟨rfl, rfl, rfl, Nat.le_refl _, fun _ _ _ => rfl⟩
theorem Keep.trans {B : Nat} {ex : List Nat} {a b c : World} (h : Keep B ex a b) (k : Keep B ex b c) : Keep B ex a c :=
  ⟨k.os.trans h.os, k.tape.trans h.tape, k.output.trans h.output, Nat.le_trans h.size k.size, fun i hi he => (k.block i hi he).trans (h.block i hi he)⟩
theorem Keep.mono {B B' : Nat} {ex ex' : List Nat} {w w' : World} (h : Keep B ex w w') (hB : B' ≤ B) (he : ∀ k, k ∈ ex → k < B' → k ∈ ex') : Keep B' ex' w w' :=
  ⟨h.os, h.tape, h.output, h.size, fun k hk hx => h.block k (by omega) (fun h' => hx (he k h' hk))⟩
theorem Keep.below {B : Nat} {w w' : World} (h : Keep B [] w w') : Below B w w' := ⟨h.os, h.tape, h.output, h.size, fun k hk => h.block k hk (by simp)⟩

/-- A block of cells, none of them frozen. -/
def Row (w : World) (b : Nat) (cs : List Value) : Prop := ∃ tid, w.heap[b]? = some (.cells cs.toArray tid (0, 0))

theorem Row.lt {w : World} {b : Nat} {cs : List Value} (h : Row w b cs) : b < w.heap.size := by
  obtain ⟨t, h⟩ := h
  exact (Array.getElem?_eq_some_iff.1 h).1
theorem Row.cell {w : World} {b : Nat} {cs : List Value} (h : Row w b cs) (j : Nat) : w.cell? ⟨b, j, none⟩ = cs[j]? := by
  obtain ⟨t, h⟩ := h
  rw [cell_of_row w b j _ t (0, 0) h]
  simp
theorem Row.of_block {w w' : World} {b : Nat} {cs : List Value} (h : Row w b cs) (hb : w'.heap[b]? = w.heap[b]?) : Row w' b cs := by
  obtain ⟨t, h⟩ := h
  exact ⟨t, hb.trans h⟩
theorem Row.inj {w : World} {b : Nat} {cs ds : List Value} (h : Row w b cs) (k : Row w b ds) : cs = ds := by
  obtain ⟨t, h⟩ := h
  obtain ⟨u, k⟩ := k
  rw [h] at k
  simp at k
  exact k.1

/-- Nothing that never turns stands in a block from a cell on. -/
def Snap.off (S : Snap) (b k : Nat) : Prop := ∀ p : Addr, p.block = b → k ≤ p.off → S p = none

/-- A slice that the call owns: it may grow in place. -/
def OwnRow (B : Nat) (S : Snap) (w : World) (v : Value) (size : Nat) : Prop :=
  v = .slice none 0 0 ∨ ∃ g n cap cs, v = .slice (some ⟨g, 0, none⟩) n cap ∧ B ≤ g ∧ Row w g cs ∧ cs.length = cap * size ∧ n ≤ cap ∧ cap ≤ maxLen ∧ S.off g (n * size)

structure Ghost where
  S : Snap
  m : Nat → Nat
  τ : Nat → Value
  z : Nat → Nat

def ObRel (B : Nat) (ex : List Nat) (S : Snap) (w : World) (b : Nat) (ob : Ob) : Prop :=
  ∃ cs, Row w b cs ∧ (B ≤ b ∨ b ∈ ex) ∧ Rep S ob.t cs ob.x ∧ S.off b 0

def PtRel (gh : Ghost) (s : St) (p : Pt) (v : Value) : Prop :=
  p.gen ≤ (s.slot p.id).gen ∧ (p.gen = (s.slot p.id).gen → ∀ ob, (s.slot p.id).ob = some ob → ∃ off, PathOk p.path ob.t p.t off ∧ v = .pointer (some ⟨gh.m p.id, off, none⟩))

def Ty.count : Ty → Nat
  | .blob n => n
  | .arr n _ => n
  | _ => 0

def RefRel (gh : Ghost) (s : St) (p : Pt) (lo hi : Nat) (v : Value) : Prop :=
  p.gen ≤ (s.slot p.id).gen ∧ (p.gen = (s.slot p.id).gen → ∀ ob, (s.slot p.id).ob = some ob → ∃ off e a cap, PathOk p.path ob.t p.t off ∧ p.t.elem = some e ∧ lo ≤ hi ∧ hi ≤ p.t.count ∧
    v = .slice (some a) (hi - lo) cap ∧ hi - lo ≤ cap ∧ cap ≤ maxLen ∧ (lo < hi → a = ⟨gh.m p.id, off + lo * e.size, none⟩))

def EntRel (gh : Ghost) (s : St) (e : Ent) (v : Value) : Prop := match e with
  | .any => True
  | .undef => v = undef
  | .val t g x => VRep gh.S t v x ∧ ∀ g' n, g = some (g', n) → n ≤ s.own g' ∧ (n = s.own g' → v = gh.τ g' ∧ ∃ e, t = .slice e ∧ gh.z g' = e.size)
  | .at t x => ∃ p cs, v = .pointer (some p) ∧ gh.S.has p cs ∧ Rep gh.S t cs x
  | .ptr p => PtRel gh s p v
  | .ref p lo hi => RefRel gh s p lo hi v
  | .clo f caps => ∃ vs : List Value, v = .func (.func f) #[] vs.toArray ∧ vs.length = caps.length ∧ ∀ (i : Nat) p u, caps[i]? = some p → vs[i]? = some u → PtRel gh s p u
  | .tup l => ∃ vs : List Value, v = .tuple vs.toArray ∧ vs.length = l.length ∧ ∀ (i : Nat) T x u, l[i]? = some (T, x) → vs[i]? = some u → VRep gh.S T u x

/-- What stays the same throughout a call. -/
structure Ctx where
  B : Nat
  ex : List Nat
  w0 : World
  S0 : Snap
  fx : Nat → Option Nat

structure Rel (c : Ctx) (gh : Ghost) (s : St) (a : Act) (w : World) : Prop where
  keep : Keep c.B c.ex c.w0 w
  size : c.B ≤ w.heap.size
  le : c.S0.le gh.S
  new : ∀ p v, gh.S p = some v → c.S0 p = some v ∨ c.B ≤ p.block
  agree : ∀ p v, gh.S p = some v → w.cell? p = some v
  ntm : a.tmps.size = s.tmps.length
  nob : s.objs.length = s.tmps.length
  now : s.owns.length = s.tmps.length
  defers : a.defers = []
  tmps : ∀ t, EntRel gh s (s.look t) (a.tmps.getD t undef)
  objs : ∀ id ob, (s.slot id).ob = some ob → ObRel c.B c.ex gh.S w (gh.m id) ob
  minj : ∀ i j oi oj, (s.slot i).ob = some oi → (s.slot j).ob = some oj → gh.m i = gh.m j → i = j
  owns : ∀ g, OwnRow c.B gh.S w (gh.τ g) (gh.z g)
  odist : ∀ g g' b, (gh.τ g).ownBlock = some b → (gh.τ g').ownBlock = some b → g = g'
  mo : ∀ id ob g b, (s.slot id).ob = some ob → (gh.τ g).ownBlock = some b → gh.m id ≠ b
  fix : ∀ k b, c.fx k = some b → (s.slot k).gen = 0 → ∀ ob, (s.slot k).ob = some ob → gh.m k = b

/- memory that grows -/
structure Grow (S S' : Snap) (w w' : World) : Prop where
  keep : Keep w.heap.size [] w w'
  le : S.le S'
  new : ∀ p v, S' p = some v → S p = some v ∨ w.heap.size ≤ p.block
  agree : ∀ p v, S' p = some v → w'.cell? p = some v

theorem Snap.off_grow {S S' : Snap} {w w' : World} (h : Grow S S' w w') {b k : Nat} (hb : b < w.heap.size) (ho : S.off b k) : S'.off b k := by
  intro p hp hk
  cases hs : S' p with
  | none => rfl
  | some v =>
    rcases h.new p v hs with h1 | h1
    · rw [ho p hp hk] at h1; cases h1
    · omega

theorem OwnRow.grow {B : Nat} {S S' : Snap} {w w' : World} (h : Grow S S' w w') {v : Value} {size : Nat} (ho : OwnRow B S w v size) : OwnRow B S' w' v size := by
  rcases ho with h0 | ⟨g, n, cap, cs, rfl, h1, h2, h3, h4, h5, h6⟩
  · exact .inl h0
  · exact .inr ⟨g, n, cap, cs, rfl, h1, h2.of_block (h.keep.block g h2.lt (by simp)), h3, h4, h5, Snap.off_grow h h2.lt h6⟩

theorem ObRel.grow {B : Nat} {ex : List Nat} {S S' : Snap} {w w' : World} (h : Grow S S' w w') {b : Nat} {ob : Ob} (ho : ObRel B ex S w b ob) : ObRel B ex S' w' b ob := by
  obtain ⟨cs, h1, h2, h3, h4⟩ := ho
  exact ⟨cs, h1.of_block (h.keep.block b h1.lt (by simp)), h2, Rep.mono h.le _ _ _ h3, Snap.off_grow h h1.lt h4⟩

theorem EntRel.mono {gh : Ghost} {S' : Snap} (h : gh.S.le S') {s : St} {e : Ent} {v : Value} (r : EntRel gh s e v) : EntRel { gh with S := S' } s e v := by
  cases e with
  | val t g x => exact ⟨VRep.mono h r.1, r.2⟩
  | «at» t x =>
    obtain ⟨p, cs, h1, h2, h3⟩ := r
    exact ⟨p, cs, h1, Snap.has_mono h h2, Rep.mono h _ _ _ h3⟩
  | tup l =>
    obtain ⟨vs, h1, h2, h3⟩ := r
    exact ⟨vs, h1, h2, fun i T x u a b => VRep.mono h (h3 i T x u a b)⟩
  | any => trivial
  | undef => exact r
  | ptr p => exact r
  | ref p lo hi => exact r
  | clo f caps => exact r

theorem EntRel.st {gh : Ghost} {s s' : St} {e : Ent} {v : Value} (r : EntRel gh s e v) (ho : s'.objs = s.objs) (hw : s'.owns = s.owns) : EntRel gh s' e v := by
  have h1 : ∀ i, s'.slot i = s.slot i := fun i => by simp [St.slot, ho]
  have h2 : ∀ i, s'.own i = s.own i := fun i => by simp [St.own, hw]
  cases e <;> simp only [EntRel, PtRel, RefRel, h1, h2] at r ⊢ <;> exact r

theorem Rel.grow {c : Ctx} {gh : Ghost} {s : St} {a : Act} {w w' : World} {S' : Snap} (h : Rel c gh s a w) (g : Grow gh.S S' w w') : Rel c { gh with S := S' } s a w' := by
  have hs := h.size
  exact {
    keep := h.keep.trans (g.keep.mono (by omega) (by simp))
    size := Nat.le_trans hs g.keep.size
    le := Snap.le_trans h.le g.le
    new := fun p v hp => (g.new p v hp).elim (h.new p v) (fun h' => .inr (by omega))
    agree := g.agree
    ntm := h.ntm
    nob := h.nob
    now := h.now
    defers := h.defers
    tmps := fun t => (h.tmps t).mono g.le
    objs := fun id ob ho => (h.objs id ob ho).grow g
    minj := h.minj
    owns := fun i => (h.owns i).grow g
    odist := h.odist
    mo := h.mo
    fix := h.fix }

/- a slot is written -/
def St.putE (s : St) (d : Option Nat) (e : Ent) : St := ⟨match d with | some d => s.tmps.set d e | none => s.tmps, s.objs, s.owns⟩
def St.mid (s : St) (f : Eff) : St := ⟨s.tmps, setAll f.ob s.objs, setAll f.ow s.owns⟩

theorem Eff.apply_eq (f : Eff) (d : Option Nat) (s : St) : f.apply d s = (s.mid f).putE d f.e := rfl

theorem Rel.put {c : Ctx} {gh : Ghost} {s : St} {a : Act} {w : World} (h : Rel c gh s a w) (d : Option Nat) {e : Ent} {v : Value} (he : EntRel gh s e v) (hd : dstOk s d = true) :
    Rel c gh (s.putE d e) (a.put d v) w := by
  cases d with
  | none => exact h
  | some d =>
    have hlt : d < s.tmps.length := Nat.le_of_ble_eq_true hd
    have hlt' : d < a.tmps.size := by rw [h.ntm]; exact hlt
    exact {
      keep := h.keep
      size := h.size
      le := h.le
      new := h.new
      agree := h.agree
      ntm := by simp [Act.put, St.putE, h.ntm]
      nob := by simp [St.putE, h.nob]
      now := by simp [St.putE, h.now]
      defers := h.defers
      tmps := fun t => by
        by_cases ht : d = t
        · subst ht
          have h1 : (St.look (s.putE (some d) e) d) = e := by simp [St.look, St.putE, List.getD, hlt]
          have h2 : (a.put (some d) v).tmps.getD d undef = v := by simp [Act.put, Array.getD, hlt']
          rw [h1, h2]
          exact he.st rfl rfl
        · have h1 : (St.look (s.putE (some d) e) t) = s.look t := by simp [St.look, St.putE, List.getD, ht]
          have h2 : (a.put (some d) v).tmps.getD t undef = a.tmps.getD t undef := by
            simp only [Act.put, Array.getD_eq_getD_getElem?, Array.getElem?_setIfInBounds, if_neg ht]
          rw [h1, h2]
          exact (h.tmps t).st rfl rfl
      objs := h.objs
      minj := h.minj
      owns := h.owns
      odist := h.odist
      mo := h.mo
      fix := h.fix }

end Go.Proofs.Ytcpdiahbdmcdcaa.Ev
