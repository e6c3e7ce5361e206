/- Steps of the relation: a new variable, a store, a slice that grows. -/
import Derived.Test.YtcpdiahbdmcdcaaEvE
namespace Go.Proofs.Ytcpdiahbdmcdcaa.Ev
open Go Go.RowKit

def upd {α : Type} (f : Nat → α) (d : Nat) (x : α) : Nat → α := fun i => if i = d then x else f i
theorem upd_same {α : Type} (f : Nat → α) (d : Nat) (x : α) : upd f d x d = x := by simp [upd]
theorem upd_ne {α : Type} (f : Nat → α) {d i : Nat} (x : α) (h : i ≠ d) : upd f d x i = f i := by simp [upd, h]

theorem own_set {s : St} {d n i : Nat} (hd : d < s.owns.length) : St.own ⟨s.tmps, s.objs, s.owns.set d n⟩ i = if i = d then n else s.own i := by
  by_cases h : i = d
  · subst h; simp [St.own, hd]
  · rw [if_neg h]; simp [St.own, List.getD, Ne.symm h]
theorem slot_set {s : St} {d i : Nat} {o : OSlot} (hd : d < s.objs.length) : St.slot ⟨s.tmps, s.objs.set d o, s.owns⟩ i = if i = d then o else s.slot i := by
  by_cases h : i = d
  · subst h; simp [St.slot, hd]
  · rw [if_neg h]; simp [St.slot, List.getD, Ne.symm h]

/-- A slice of the call's own gets a name anew. -/
theorem Rel.bump {c : Ctx} {gh : Ghost} {s : St} {a : Act} {w : World} (h : Rel c gh s a w) (d n' : Nat) (hd : d < s.owns.length) (hn : s.own d < n') (v : Value) (size : Nat)
    (ho : OwnRow c.B gh.S w v size) (hdist : ∀ g b, g ≠ d → (gh.τ g).ownBlock = some b → v.ownBlock ≠ some b) (hm : ∀ id ob b, (s.slot id).ob = some ob → v.ownBlock = some b → gh.m id ≠ b) :
    Rel c { gh with τ := upd gh.τ d v, z := upd gh.z d size } ⟨s.tmps, s.objs, s.owns.set d n'⟩ a w where
  keep := h.keep
  size := h.size
  le := h.le
  new := h.new
  agree := h.agree
  ntm := h.ntm
  nob := h.nob
  now := by simp [h.now]
  defers := h.defers
  tmps := fun t => by
    have r := h.tmps t
    show EntRel _ _ (s.look t) _
    cases he : s.look t <;> rw [he] at r <;> simp only [EntRel] at r ⊢
    case val T g x =>
      refine ⟨r.1, fun g' n hg => ?_⟩
      obtain ⟨h1, h2⟩ := r.2 g' n hg
      rw [own_set hd]
      by_cases hgd : g' = d
      · subst hgd
        rw [if_pos rfl]
        exact ⟨by omega, fun e => by omega⟩
      · rw [if_neg hgd]
        simp only [upd_ne _ _ hgd]
        exact ⟨h1, h2⟩
    all_goals exact r
  objs := h.objs
  minj := h.minj
  owns := fun g => by
    by_cases hg : g = d
    · subst hg; simp only [upd_same]; exact ho
    · simp only [upd_ne _ _ hg]; exact h.owns g
  odist := fun g g' b h1 h2 => by
    by_cases hg : g = d <;> by_cases hg' : g' = d
    · rw [hg, hg']
    · subst hg
      simp only [upd_same, upd_ne _ _ hg'] at h1 h2
      exact absurd h1 (hdist g' b hg' h2)
    · subst hg'
      simp only [upd_same, upd_ne _ _ hg] at h1 h2
      exact absurd h2 (hdist g b hg h1)
    · simp only [upd_ne _ _ hg, upd_ne _ _ hg'] at h1 h2
      exact h.odist g g' b h1 h2
  mo := fun id ob g b h1 h2 => by
    by_cases hg : g = d
    · subst hg
      simp only [upd_same] at h2
      exact hm id ob b h1 h2
    · simp only [upd_ne _ _ hg] at h2
      exact h.mo id ob g b h1 h2
  fix := h.fix

/-- A new variable. -/
theorem Rel.newOb {c : Ctx} {gh : Ghost} {s : St} {a : Act} {w : World} (h : Rel c gh s a w) (d n' : Nat) (hd : d < s.objs.length) (hn : (s.slot d).gen < n') (b : Nat) (ob : Ob)
    (ho : ObRel c.B c.ex gh.S w b ob) (hm : ∀ id ob', (s.slot id).ob = some ob' → gh.m id ≠ b) (hτ : ∀ g, (gh.τ g).ownBlock ≠ some b) :
    Rel c { gh with m := upd gh.m d b } ⟨s.tmps, s.objs.set d ⟨n', some ob⟩, s.owns⟩ a w where
  keep := h.keep
  size := h.size
  le := h.le
  new := h.new
  agree := h.agree
  ntm := h.ntm
  nob := by simp [h.nob]
  now := h.now
  defers := h.defers
  tmps := fun t => by
    have r := h.tmps t
    show EntRel _ _ (s.look t) _
    have key : ∀ (p : Pt) (v : Value), PtRel gh s p v → PtRel { gh with m := upd gh.m d b } ⟨s.tmps, s.objs.set d ⟨n', some ob⟩, s.owns⟩ p v := by
      intro p v r
      obtain ⟨h1, h2⟩ := r
      simp only [PtRel, slot_set hd]
      by_cases hp : p.id = d
      · rw [if_pos hp]
        rw [hp] at h1
        exact ⟨by simp only; omega, fun e => by simp only at e; omega⟩
      · rw [if_neg hp]
        simp only [upd_ne _ _ hp]
        exact ⟨h1, h2⟩
    cases he : s.look t <;> rw [he] at r <;> simp only [EntRel] at r ⊢
    case ptr p => exact key p _ r
    case ref p lo hi =>
      obtain ⟨h1, h2⟩ := r
      simp only [RefRel, slot_set hd]
      by_cases hp : p.id = d
      · rw [if_pos hp]
        rw [hp] at h1
        exact ⟨by simp only; omega, fun e => by simp only at e; omega⟩
      · rw [if_neg hp]
        simp only [upd_ne _ _ hp]
        exact ⟨h1, h2⟩
    case clo f caps =>
      obtain ⟨vs, h1, h2, h3⟩ := r
      exact ⟨vs, h1, h2, fun i p u a b => key p u (h3 i p u a b)⟩
    all_goals exact r
  objs := fun id ob' ho' => by
    rw [slot_set hd] at ho'
    by_cases hp : id = d
    · rw [if_pos hp] at ho'
      simp only [Option.some.injEq] at ho'
      subst ho'; subst hp
      simp only [upd_same]
      exact ho
    · rw [if_neg hp] at ho'
      simp only [upd_ne _ _ hp]
      exact h.objs id ob' ho'
  minj := fun i j oi oj h1 h2 e => by
    rw [slot_set hd] at h1 h2
    by_cases hi : i = d <;> by_cases hj : j = d
    · rw [hi, hj]
    · subst hi
      rw [if_neg hj] at h2
      simp only [upd_same, upd_ne _ _ hj] at e
      exact absurd e.symm (hm j oj h2)
    · subst hj
      rw [if_neg hi] at h1
      simp only [upd_same, upd_ne _ _ hi] at e
      exact absurd e (hm i oi h1)
    · rw [if_neg hi] at h1
      rw [if_neg hj] at h2
      simp only [upd_ne _ _ hi, upd_ne _ _ hj] at e
      exact h.minj i j oi oj h1 h2 e
  owns := h.owns
  odist := h.odist
  mo := fun id ob' g b' h1 h2 => by
    rw [slot_set hd] at h1
    by_cases hp : id = d
    · subst hp
      simp only [upd_same]
      exact fun e => hτ g (by rw [h2, e])
    · rw [if_neg hp] at h1
      simp only [upd_ne _ _ hp]
      exact h.mo id ob' g b' h1 h2
  fix := fun k b' h1 h2 ob' h3 => by
    rw [slot_set hd] at h2 h3
    by_cases hp : k = d
    · rw [if_pos hp] at h2
      simp only at h2
      omega
    · rw [if_neg hp] at h2 h3
      simp only [upd_ne _ _ hp]
      exact h.fix k b' h1 h2 ob' h3

/-- Only one block has turned. -/
structure Turned (b : Nat) (w w' : World) : Prop where
  os : w'.os = w.os
  tape : w'.tape = w.tape
  output : w'.output = w.output
  size : w'.heap.size = w.heap.size
  block : ∀ k, k ≠ b → w'.heap[k]? = w.heap[k]?

theorem OwnRow.of_block {B : Nat} {S : Snap} {w w' : World} {v : Value} {size : Nat} (ho : OwnRow B S w v size) (hb : ∀ b, v.ownBlock = some b → w'.heap[b]? = w.heap[b]?) : OwnRow B S w' v size := by
  rcases ho with h0 | ⟨g, n, cap, cs, rfl, h1, h2, h3⟩
  · exact .inl h0
  · exact .inr ⟨g, n, cap, cs, rfl, h1, h2.of_block (hb g rfl), h3⟩

/-- A store into a variable of the call's own. -/
theorem Rel.turn {c : Ctx} {gh : Ghost} {s : St} {a : Act} {w w' : World} (h : Rel c gh s a w) (id : Nat) (hid : id < s.objs.length) (ob : Ob) (ho : (s.slot id).ob = some ob) (hw : Turned (gh.m id) w w')
    (cs : List Value) (hr : Row w' (gh.m id) cs) (x : AV) (hx : Rep gh.S ob.t cs x) :
    Rel c gh ⟨s.tmps, s.objs.set id ⟨(s.slot id).gen, some ⟨ob.t, x⟩⟩, s.owns⟩ a w' where
  keep := by
    obtain ⟨cs0, h1, h2, h3, h4⟩ := h.objs id ob ho
    refine h.keep.trans ⟨hw.os, hw.tape, hw.output, Nat.le_of_eq hw.size.symm, fun k hk he => hw.block k (fun e => ?_)⟩
    subst e
    rcases h2 with h2 | h2
    · omega
    · exact he h2
  size := by rw [hw.size]; exact h.size
  le := h.le
  new := h.new
  agree := fun p v hp => by
    obtain ⟨cs0, h1, h2, h3, h4⟩ := h.objs id ob ho
    have hne : p.block ≠ gh.m id := fun e => by rw [h4 p e (Nat.zero_le _)] at hp; cases hp
    rw [World.cell?_of_block (hw.block p.block hne)]
    exact h.agree p v hp
  ntm := h.ntm
  nob := by simp [h.nob]
  now := h.now
  defers := h.defers
  tmps := fun t => by
    have r := h.tmps t
    show EntRel _ _ (s.look t) _
    have gen : ∀ i, (St.slot ⟨s.tmps, s.objs.set id ⟨(s.slot id).gen, some ⟨ob.t, x⟩⟩, s.owns⟩ i).gen = (s.slot i).gen := fun i => by
      rw [slot_set hid]; split
      · subst_vars; rfl
      · rfl
    have obs : ∀ i o', (St.slot ⟨s.tmps, s.objs.set id ⟨(s.slot id).gen, some ⟨ob.t, x⟩⟩, s.owns⟩ i).ob = some o' → ∃ o0, (s.slot i).ob = some o0 ∧ o0.t = o'.t := fun i o' e => by
      rw [slot_set hid] at e
      split at e
      · subst_vars
        simp only [Option.some.injEq] at e
        subst e
        exact ⟨ob, ho, rfl⟩
      · exact ⟨o', e, rfl⟩
    have key : ∀ (p : Pt) (v : Value), PtRel gh s p v → PtRel gh ⟨s.tmps, s.objs.set id ⟨(s.slot id).gen, some ⟨ob.t, x⟩⟩, s.owns⟩ p v := by
      intro p v r
      obtain ⟨h1, h2⟩ := r
      simp only [PtRel, gen]
      refine ⟨h1, fun e o' e' => ?_⟩
      obtain ⟨o0, h3, h4⟩ := obs _ _ e'
      rw [← h4]
      exact h2 e o0 h3
    cases he : s.look t <;> rw [he] at r <;> simp only [EntRel] at r ⊢
    case ptr p => exact key p _ r
    case ref p lo hi =>
      obtain ⟨h1, h2⟩ := r
      simp only [RefRel, gen]
      refine ⟨h1, fun e o' e' => ?_⟩
      obtain ⟨o0, h3, h4⟩ := obs _ _ e'
      rw [← h4]
      exact h2 e o0 h3
    case clo f caps =>
      obtain ⟨vs, h1, h2, h3⟩ := r
      exact ⟨vs, h1, h2, fun i p u a b => key p u (h3 i p u a b)⟩
    all_goals exact r
  objs := fun i o' e => by
    rw [slot_set hid] at e
    obtain ⟨cs0, h1, h2, h3, h4⟩ := h.objs id ob ho
    split at e
    · subst_vars
      simp only [Option.some.injEq] at e
      subst e
      exact ⟨cs, hr, h2, hx, h4⟩
    · rename_i hne
      obtain ⟨cs1, k1, k2, k3, k4⟩ := h.objs i o' e
      exact ⟨cs1, k1.of_block (hw.block _ (fun e' => hne (h.minj i id o' ob e ho e'))), k2, k3, k4⟩
  minj := fun i j oi oj h1 h2 e => by
    rw [slot_set hid] at h1 h2
    have f : ∀ k o', (if k = id then (⟨(s.slot id).gen, some ⟨ob.t, x⟩⟩ : OSlot) else s.slot k).ob = some o' → ∃ o0, (s.slot k).ob = some o0 := fun k o' e => by
      split at e
      · subst_vars; exact ⟨ob, ho⟩
      · exact ⟨o', e⟩
    obtain ⟨oi', hi'⟩ := f i oi h1
    obtain ⟨oj', hj'⟩ := f j oj h2
    exact h.minj i j oi' oj' hi' hj' e
  owns := fun g => (h.owns g).of_block fun b hb => hw.block b fun e => h.mo id ob g b ho hb e.symm
  odist := h.odist
  mo := fun i o' g b h1 h2 => by
    rw [slot_set hid] at h1
    split at h1
    · subst_vars; exact h.mo _ ob g b ho h2
    · exact h.mo i o' g b h1 h2
  fix := fun k b h1 h2 ob' h3 => by
    rw [slot_set hid] at h2 h3
    by_cases hk : k = id
    · subst hk
      rw [if_pos rfl] at h2
      exact h.fix _ b h1 h2 ob ho
    · rw [if_neg hk] at h2 h3
      exact h.fix k b h1 h2 ob' h3

/-- Cells of a block that nobody names turn, and are known from now on. -/
theorem Rel.fill {c : Ctx} {gh : Ghost} {s : St} {a : Act} {w w' : World} {S' : Snap} (h : Rel c gh s a w) (b : Nat) (hB : c.B ≤ b) (hτ : ∀ g, (gh.τ g).ownBlock ≠ some b) (hm : ∀ id ob, (s.slot id).ob = some ob → gh.m id ≠ b)
    (hw : Turned b w w') (le : gh.S.le S') (new : ∀ p v, S' p = some v → gh.S p = some v ∨ p.block = b) (agree : ∀ p v, S' p = some v → w'.cell? p = some v) : Rel c { gh with S := S' } s a w' where
  keep := h.keep.trans ⟨hw.os, hw.tape, hw.output, Nat.le_of_eq hw.size.symm, fun k hk _ => hw.block k (by omega)⟩
  size := by rw [hw.size]; exact h.size
  le := Snap.le_trans h.le le
  new := fun p v hp => (new p v hp).elim (h.new p v) (fun e => .inr (by omega))
  agree := agree
  ntm := h.ntm
  nob := h.nob
  now := h.now
  defers := h.defers
  tmps := fun t => (h.tmps t).mono le
  objs := fun id ob ho => by
    obtain ⟨cs0, h1, h2, h3, h4⟩ := h.objs id ob ho
    refine ⟨cs0, h1.of_block (hw.block _ (hm id ob ho)), h2, Rep.mono le _ _ _ h3, fun p hp hk => ?_⟩
    cases hs : S' p with
    | none => exact hs
    | some v =>
      rcases new p v hs with h5 | h5
      · rw [h4 p hp hk] at h5; cases h5
      · exact absurd (h5 ▸ hp).symm (hm id ob ho)
  minj := h.minj
  owns := fun g => by
    rcases h.owns g with h0 | ⟨g', n, cap, cs, e, h1, h2, h3, h4, h5, h6⟩
    · exact .inl h0
    · have hne : g' ≠ b := fun e' => hτ g (by rw [e, e']; rfl)
      refine .inr ⟨g', n, cap, cs, e, h1, h2.of_block (hw.block _ hne), h3, h4, h5, fun p hp hk => ?_⟩
      cases hs : S' p with
      | none => exact hs
      | some v =>
        rcases new p v hs with h7 | h7
        · rw [h6 p hp hk] at h7; cases h7
        · exact absurd (hp.symm.trans h7) hne
  odist := h.odist
  mo := h.mo
  fix := h.fix

/-- New blocks that nobody names. -/
theorem Rel.fresh_m {c : Ctx} {gh : Ghost} {s : St} {a : Act} {w : World} (h : Rel c gh s a w) {b : Nat} (hb : w.heap.size ≤ b) : ∀ id ob, (s.slot id).ob = some ob → gh.m id ≠ b := fun id ob ho e => by
  obtain ⟨cs, h1, _⟩ := h.objs id ob ho
  have := h1.lt
  omega
theorem Rel.fresh_τ {c : Ctx} {gh : Ghost} {s : St} {a : Act} {w : World} (h : Rel c gh s a w) {b : Nat} (hb : w.heap.size ≤ b) : ∀ g, (gh.τ g).ownBlock ≠ some b := fun g e => by
  rcases h.owns g with h0 | ⟨g', n, cap, cs, e', h1, h2, _⟩
  · rw [h0] at e; cases e
  · rw [e'] at e
    have := h2.lt
    simp [Value.ownBlock] at e
    omega

end Go.Proofs.Ytcpdiahbdmcdcaa.Ev
