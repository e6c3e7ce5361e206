/- Calls: what a function's answer says, and a call by it. -/
import Derived.Test.YtcpdiahbdmcdcaaEvO
namespace Go.Proofs.Ytcpdiahbdmcdcaa.Ev
open Go Go.RowKit

variable {c : Ctx} {gh : Ghost} {s : St} {a : Act} {w : World} {P : Program} {G : Env}

/-- A variable on a block of its own. -/
def Var (S : Snap) (w : World) (t : Ty) (b : Nat) (x : AV) : Prop := ∃ cs, Row w b cs ∧ Rep S t cs x ∧ S.off b 0

def ArgsRel (S : Snap) (w : World) : List PTy → List Value → List AV → List Nat → Prop
  | [], vs, xs, bs => vs = [] ∧ xs = [] ∧ bs = []
  | .val t :: ts, vs, xs, bs => ∃ v vs' x xs', vs = v :: vs' ∧ xs = x :: xs' ∧ VRep S t v x ∧ ArgsRel S w ts vs' xs' bs
  | .ptr t :: ts, vs, xs, bs => ∃ v vs' x xs' b bs', vs = v :: vs' ∧ xs = x :: xs' ∧ bs = b :: bs' ∧ v = .pointer (some ⟨b, 0, none⟩) ∧ Var S w t b x ∧ ArgsRel S w ts vs' xs' bs'

def ptrTys : List PTy → List Ty
  | [] => []
  | .val _ :: ts => ptrTys ts
  | .ptr t :: ts => t :: ptrTys ts

def OutsRel (S : Snap) (w : World) : List Ty → List AV → List Nat → Prop
  | [], ys, bs => ys = [] ∧ bs = []
  | t :: ts, ys, bs => ∃ y ys' b bs', ys = y :: ys' ∧ bs = b :: bs' ∧ Var S w t b y ∧ OutsRel S w ts ys' bs'

def TupRel (S : Snap) : List PTy → List Value → List AV → Prop
  | [], vs, xs => vs = [] ∧ xs = []
  | .val t :: ts, vs, xs => ∃ v vs' x xs', vs = v :: vs' ∧ xs = x :: xs' ∧ VRep S t v x ∧ TupRel S ts vs' xs'
  | .ptr _ :: _, _, _ => False

/-- What a call hands back. -/
def ResRel (S : Snap) (w : World) (B : Nat) (ts : List PTy) (r : Res) (v : Value) : Prop :=
  match ts with
  | [.val t] => ∃ x, r.vals = [x] ∧ VRep S t v x ∧ (r.fresh = true → ∃ e, t = .slice e ∧ OwnRow B S w v e.size)
  | [.ptr t] => ∃ x b, r.vals = [x] ∧ v = .pointer (some ⟨b, 0, none⟩) ∧ B ≤ b ∧ Var S w t b x
  | ts => ∃ vs, v = .tuple vs.toArray ∧ TupRel S ts vs r.vals

/-- A call with these plain arguments answers so: in whatever memory, nothing that was there turns but the variables that were handed over by pointer. -/
def Sat (P : Program) (i : FnInfo) (f : FuncId) (xs : List AV) (r : Res) : Prop :=
  ∀ (S0 : Snap) (w0 : World) (vs : List Value) (bs : List Nat), (∀ p v, S0 p = some v → w0.cell? p = some v) → ArgsRel S0 w0 i.params vs xs bs → bs.Nodup →
    Calls P f vs.toArray w0 fun e w => ∃ S v, e = .returned v ∧ S0.le S ∧ (∀ p u, S p = some u → S0 p = some u ∨ w0.heap.size ≤ p.block) ∧ (∀ p u, S p = some u → w.cell? p = some u) ∧
      Keep w0.heap.size bs w0 w ∧ ResRel S w w0.heap.size i.results r v ∧ OutsRel S w (ptrTys i.params) r.outs bs

/-- Memory behind a call: some variables of the call's own have turned. -/
theorem Rel.outs (h : Rel c gh s a w) {S' : Snap} {w' : World} {bs : List Nat} (hk : Keep w.heap.size bs w w') (hbs : ∀ b, b ∈ bs → c.B ≤ b ∨ b ∈ c.ex) (hown : ∀ g b, (gh.τ g).ownBlock = some b → b ∉ bs)
    (le : gh.S.le S') (new : ∀ p v, S' p = some v → gh.S p = some v ∨ w.heap.size ≤ p.block) (agree : ∀ p v, S' p = some v → w'.cell? p = some v)
    (objs : List OSlot) (hl : objs.length = s.objs.length)
    (hs : ∀ id, (St.slot ⟨s.tmps, objs, s.owns⟩ id).gen = (s.slot id).gen ∧ ∀ o', (St.slot ⟨s.tmps, objs, s.owns⟩ id).ob = some o' → ∃ o, (s.slot id).ob = some o ∧ o.t = o'.t ∧
      ((o' = o ∧ gh.m id ∉ bs) ∨ Var S' w' o'.t (gh.m id) o'.x)) :
    Rel c { gh with S := S' } ⟨s.tmps, objs, s.owns⟩ a w' where
  keep := h.keep.trans (hk.mono h.size (fun k hk' hlt => (hbs k hk').resolve_left (by omega)))
  size := Nat.le_trans h.size hk.size
  le := Snap.le_trans h.le le
  new := fun p v hp => (new p v hp).elim (h.new p v) (fun e => .inr (Nat.le_trans h.size e))
  agree := agree
  ntm := h.ntm
  nob := by rw [← h.nob]; exact hl
  now := h.now
  defers := h.defers
  tmps := fun t => by
    have r := (h.tmps t).mono le
    show EntRel _ _ (s.look t) _
    have key : ∀ (p : Pt) (v : Value), PtRel { gh with S := S' } s p v → PtRel { gh with S := S' } ⟨s.tmps, objs, s.owns⟩ p v := by
      intro p v r
      obtain ⟨h1, h2⟩ := r
      refine ⟨by rw [(hs p.id).1]; exact h1, fun e o' e' => ?_⟩
      obtain ⟨o, ho, ht, _⟩ := (hs p.id).2 o' e'
      rw [← ht]
      exact h2 (by rw [(hs p.id).1] at e; exact e) o ho
    cases he : s.look t <;> rw [he] at r <;> simp only [EntRel] at r ⊢
    case ptr p => exact key p _ r
    case ref p lo hi =>
      obtain ⟨h1, h2⟩ := r
      refine ⟨by rw [(hs p.id).1]; exact h1, fun e o' e' => ?_⟩
      obtain ⟨o, ho, ht, _⟩ := (hs p.id).2 o' e'
      rw [← ht]
      exact h2 (by rw [(hs p.id).1] at e; exact e) o ho
    case clo f caps =>
      obtain ⟨vs, h1, h2, h3⟩ := r
      exact ⟨vs, h1, h2, fun i p u a b => key p u (h3 i p u a b)⟩
    all_goals exact r
  objs := fun id o' ho' => by
    obtain ⟨o, ho, ht, h1 | h1⟩ := (hs id).2 o' ho'
    · obtain ⟨rfl, hn⟩ := h1
      obtain ⟨cs, k1, k2, k3, k4⟩ := h.objs id o' ho
      refine ⟨cs, k1.of_block (hk.block _ k1.lt hn), k2, Rep.mono le _ _ _ k3, fun p hp hk' => ?_⟩
      cases hsp : S' p with
      | none => exact hsp
      | some v =>
        rcases new p v hsp with h5 | h5
        · rw [k4 p hp hk'] at h5; cases h5
        · have := k1.lt; simp only at hp; omega
    · obtain ⟨cs, k1, k2, k3⟩ := h1
      obtain ⟨_, _, k5, _⟩ := h.objs id o ho
      exact ⟨cs, k1, k5, k2, k3⟩
  minj := fun i j oi oj h1 h2 e => by
    obtain ⟨o1, ho1, _⟩ := (hs i).2 oi h1
    obtain ⟨o2, ho2, _⟩ := (hs j).2 oj h2
    exact h.minj i j o1 o2 ho1 ho2 e
  owns := fun g => by
    rcases h.owns g with h0 | ⟨g', n, cap, cs, e, h1, h2, h3, h4, h5, h6⟩
    · exact .inl h0
    · have hn : g' ∉ bs := hown g g' (by rw [e]; rfl)
      refine .inr ⟨g', n, cap, cs, e, h1, h2.of_block (hk.block _ h2.lt hn), h3, h4, h5, fun p hp hk' => ?_⟩
      cases hsp : S' p with
      | none => exact hsp
      | some v =>
        rcases new p v hsp with h7 | h7
        · rw [h6 p hp hk'] at h7; cases h7
        · have := h2.lt; omega
  odist := h.odist
  mo := fun id o' g b h1 h2 => by
    obtain ⟨o, ho, _⟩ := (hs id).2 o' h1
    exact h.mo id o g b ho h2
  fix := fun k b h1 h2 o' h3 => by
    obtain ⟨o, ho, _⟩ := (hs k).2 o' h3
    rw [(hs k).1] at h2
    exact h.fix k b h1 h2 o ho

theorem isEmpty_nil {l : List Nat} (h : l.isEmpty = true) : l = [] := by cases l <;> simp_all

/-- A pointer that is handed over. -/
theorem Rel.handed (h : Rel c gh s a w) {p : Pt} {t : Ty} {x : AV} {v : Value} (hv : PtRel gh s p v) (hb : (p.t.beq t && p.path.isEmpty) = true) (hx : s.getPt p = some x) :
    v = .pointer (some ⟨gh.m p.id, 0, none⟩) ∧ Var gh.S w t (gh.m p.id) (t.co x) ∧ p.t = t ∧ p.path = [] ∧ ∃ ob, (s.slot p.id).ob = some ob ∧ p.gen = (s.slot p.id).gen ∧ ob.t = t := by
  simp only [Bool.and_eq_true] at hb
  have ht := Ty.beq_eq _ _ hb.1
  have hp := isEmpty_nil hb.2
  obtain ⟨ob, off, cs, k1, k2, k3, k4, k5, k6, k7⟩ := h.getPt hv hx
  rw [hp] at k3 k7
  obtain ⟨k3, rfl⟩ := k3
  simp only [getP] at k7
  subst k7
  obtain ⟨cs0, g1, g2, g3, g4⟩ := h.objs p.id ob k1
  have ht' : ob.t = t := by rw [k3, ht]
  refine ⟨k4, ⟨cs0, g1, ?_, g4⟩, ht, hp, ob, k1, k2, ht'⟩
  rw [ht'] at g3
  rw [Rep.co_eq _ _ _ g3]
  exact g3

theorem Rel.args (h : Rel c gh s a w) : ∀ (ts : List PTy) (os : List Operand) (caps : List Pt) (cvs : List Value) (l : List AV) (ps : List Pt),
    cvs.length = caps.length → (∀ (i : Nat) p u, caps[i]? = some p → cvs[i]? = some u → PtRel gh s p u) → argsE s ts os caps = some (l, ps) →
    ArgsRel gh.S w ts (os.map a.eval ++ cvs) l (ps.map fun p => gh.m p.id) ∧ ps.map (·.t) = ptrTys ts ∧ ∀ p ∈ ps, p.path = [] ∧ ∃ ob, (s.slot p.id).ob = some ob ∧ p.gen = (s.slot p.id).gen ∧ ob.t = p.t
  | [], os, caps, cvs, l, ps, hc, hcap, e => by
    unfold argsE at e
    split at e
    · cases e
      have : cvs = [] := List.eq_nil_of_length_eq_zero hc
      subst this
      exact ⟨⟨rfl, rfl, rfl⟩, rfl, by simp⟩
    · cases e
  | .val t :: ts, os, caps, cvs, l, ps, hc, hcap, e => by
    unfold argsE at e
    split at e
    · rename_i o os
      obtain ⟨x, hx, e⟩ := bind_some e
      obtain ⟨⟨l', ps'⟩, hr, e⟩ := Option.map_eq_some_iff.1 e
      cases e
      obtain ⟨k1, k2, k3⟩ := h.args ts os caps cvs l' ps' hc hcap hr
      exact ⟨⟨_, _, _, _, rfl, rfl, h.opv hx, k1⟩, k2, k3⟩
    · cases e
  | .ptr t :: ts, os, caps, cvs, l, ps, hc, hcap, e => by
    unfold argsE at e
    split at e
    · rename_i o os
      split at e
      · rename_i p hp
        have hv := h.ope o
        rw [hp] at hv
        obtain ⟨hb, e⟩ := cond_some e
        obtain ⟨x, hx, e⟩ := bind_some e
        obtain ⟨⟨l', ps'⟩, hr, e⟩ := Option.map_eq_some_iff.1 e
        cases e
        obtain ⟨k1, k2, k3⟩ := h.args ts os caps cvs l' ps' hc hcap hr
        obtain ⟨q1, q2, q3, q4, ob, q5, q6, q7⟩ := h.handed hv hb hx
        refine ⟨⟨_, _, _, _, _, _, rfl, rfl, rfl, q1, q2, k1⟩, by simp [k2, q3, ptrTys], fun p' hp' => ?_⟩
        rcases List.mem_cons.1 hp' with rfl | hp'
        · exact ⟨q4, ob, q5, q6, by rw [q7, q3]⟩
        · exact k3 p' hp'
      · cases e
    · split at e
      · rename_i p caps
        obtain ⟨hb, e⟩ := cond_some e
        obtain ⟨x, hx, e⟩ := bind_some e
        obtain ⟨⟨l', ps'⟩, hr, e⟩ := Option.map_eq_some_iff.1 e
        cases e
        match cvs, hc with
        | v :: cvs, hc =>
          have hv := hcap 0 p v rfl rfl
          obtain ⟨k1, k2, k3⟩ := h.args ts [] caps cvs l' ps' (by simpa using hc) (fun i p u a b => hcap (i + 1) p u (by simpa using a) (by simpa using b)) hr
          obtain ⟨q1, q2, q3, q4, ob, q5, q6, q7⟩ := h.handed hv hb hx
          refine ⟨⟨_, _, _, _, _, _, rfl, rfl, rfl, q1, q2, by simpa using k1⟩, by simp [k2, q3, ptrTys], fun p' hp' => ?_⟩
          rcases List.mem_cons.1 hp' with rfl | hp'
          · exact ⟨q4, ob, q5, q6, by rw [q7, q3]⟩
          · exact k3 p' hp'
      · cases e

theorem memN_iff {n : Nat} : ∀ {l : List Nat}, memN n l = true ↔ n ∈ l
  | [] => by simp [memN]
  | k :: r => by
    simp only [memN, List.mem_cons]
    cases hb : Nat.beq k n with
    | true => have := Nat.eq_of_beq_eq_true hb; simp [this]
    | false =>
      have : n ≠ k := fun e => by subst e; simp at hb
      simp only [cond_false, this, false_or]
      exact memN_iff

theorem apartN_nodup : ∀ {l : List Nat}, apartN l = true → l.Nodup
  | [], _ => List.nodup_nil
  | a :: r, h => by
    simp only [apartN, Bool.and_eq_true, Bool.not_eq_true'] at h
    refine List.nodup_cons.2 ⟨fun hm => ?_, apartN_nodup h.2⟩
    rw [memN_iff.2 hm] at h
    simp at h

/- the same without continuations -/
def outsE (s : St) : List Pt → List AV → Option (List (Nat × OSlot))
  | [], [] => some []
  | p :: ps, y :: ys => (s.setPt p (p.t.co y)).bind fun w => (outsE s ps ys).map (w :: ·)
  | _, _ => none
def tupE : List PTy → List AV → Option (List (Ty × AV))
  | [], vs => match vs with
    | [] => some []
    | _ :: _ => none
  | .val T :: Ts, vs => match vs with
    | v :: vs => (tupE Ts vs).map ((T, T.co v) :: ·)
    | [] => none
  | .ptr _ :: _, _ => none

theorem outsK_eq {α : Type} : ∀ (ps : List Pt) (ys : List AV) (k : List (Nat × OSlot) → Option α), outsK s ps ys k = (outsE s ps ys).bind k
  | [], [], k => rfl
  | [], _ :: _, k => rfl
  | _ :: _, [], k => rfl
  | p :: ps, y :: ys, k => by
    simp only [outsK, consV, outsE]
    cases s.setPt p (p.t.co y) with
    | none => rfl
    | some w =>
      simp only [Option.bind_some]
      rw [outsK_eq ps ys]
      cases outsE s ps ys <;> rfl
theorem tupK_eq {α : Type} : ∀ (ts : List PTy) (vs : List AV) (k : List (Ty × AV) → Option α), tupK ts vs k = (tupE ts vs).bind k
  | [], [], k => rfl
  | [], _ :: _, k => rfl
  | .val T :: ts, [], k => rfl
  | .val T :: ts, v :: vs, k => by
    simp only [tupK, consV, tupE]
    rw [tupK_eq ts vs]
    cases tupE ts vs <;> rfl
  | .ptr _ :: _, _, k => rfl
theorem consV_some {α β : Type} {l : List β} {k : β → List β → Option α} {r : α} (h : consV l k = some r) : ∃ v vs, l = v :: vs ∧ k v vs = some r := by
  cases l with
  | nil => cases h
  | cons v vs => exact ⟨v, vs, rfl, h⟩
theorem nilV_some {α β : Type} {l : List β} {k : Option α} {r : α} (h : nilV l k = some r) : l = [] ∧ k = some r := by
  cases l with
  | nil => exact ⟨rfl, h⟩
  | cons v vs => cases h

/-- The slots behind a call. -/
theorem outs_slots {S' : Snap} {w' : World} : ∀ (ps : List Pt) (ys : List AV) (ob : List (Nat × OSlot)) (m : Nat → Nat) (objs : List OSlot), outsE s ps ys = some ob → objs.length = s.objs.length →
    (ps.map Pt.id).Nodup → (∀ p ∈ ps, p.path = [] ∧ ∃ ob, (s.slot p.id).ob = some ob ∧ p.gen = (s.slot p.id).gen ∧ ob.t = p.t) → OutsRel S' w' (ps.map (·.t)) ys (ps.map fun p => m p.id) → 
    (setAll ob objs).length = s.objs.length ∧ ∀ id, (id ∉ ps.map Pt.id → (setAll ob objs)[id]? = objs[id]?) ∧ (id ∈ ps.map Pt.id → ∃ o y, (s.slot id).ob = some o ∧ (setAll ob objs)[id]? = some ⟨(s.slot id).gen, some ⟨o.t, y⟩⟩ ∧ Var S' w' o.t (m id) y)
  | [], ys, ob, m, objs, e, hl, _, _, _ => by
    cases ys <;> simp [outsE] at e
    subst e
    exact ⟨hl, fun id => ⟨fun _ => rfl, fun h => by simp at h⟩⟩
  | p :: ps, ys, ob, m, objs, e, hl, hnd, hp, ho => by
    cases ys with
    | nil => simp [outsE] at e
    | cons y ys =>
      simp only [outsE] at e
      obtain ⟨z, hz, e⟩ := bind_some e
      obtain ⟨ob', hob', rfl⟩ := Option.map_eq_some_iff.1 e
      simp only [List.map_cons, OutsRel] at ho
      obtain ⟨y0, ys0, b0, bs0, e1, e2, hv, ho⟩ := ho
      cases e1; cases e2
      obtain ⟨hpath, o, q1, q2, q3⟩ := hp p (by simp)
      unfold St.setPt at hz
      obtain ⟨o2, h2, rfl⟩ := Option.map_eq_some_iff.1 hz
      obtain ⟨_, h2⟩ := obAt_some h2
      rw [q1] at h2
      cases h2
      simp only [List.map_cons, List.nodup_cons] at hnd
      have hlt : p.id < s.objs.length := by
        rcases Nat.lt_or_ge p.id s.objs.length with hh | hh
        · exact hh
        · simp [St.slot, List.getD, List.getElem?_eq_none hh] at q1
      have ih := outs_slots ps ys ob' m (objs.set p.id ⟨p.gen, some ⟨o.t, setP o.t o.x p.path (p.t.co y)⟩⟩) hob' (by simpa using hl) hnd.2 (fun p' h' => hp p' (by simp [h'])) ho
      refine ⟨ih.1, fun id => ⟨fun hn => ?_, fun hm => ?_⟩⟩
      · simp only [List.map_cons, List.mem_cons, not_or] at hn
        show (setAll ob' (objs.set p.id _))[id]? = _
        rw [((ih.2 id).1 hn.2), List.getElem?_set_ne (Ne.symm hn.1)]
      · simp only [List.map_cons, List.mem_cons] at hm
        rcases hm with rfl | hm
        · refine ⟨o, y, q1, ?_, ?_⟩
          · show (setAll ob' (objs.set p.id _))[p.id]? = _
            rw [(ih.2 p.id).1 hnd.1, List.getElem?_set_self (by rw [hl]; exact hlt)]
            rw [hpath, q2]
            simp only [setP]
            obtain ⟨cs, _, r, _⟩ := hv
            rw [Rep.co_eq _ _ _ r]
          · rw [q3]; exact hv
        · exact (ih.2 id).2 hm

theorem tupE_rel {S : Snap} : ∀ (ts : List PTy) (xs : List AV) (l : List (Ty × AV)) (vs : List Value), tupE ts xs = some l → TupRel S ts vs xs → vs.length = l.length ∧ ∀ (i : Nat) T x u, l[i]? = some (T, x) → vs[i]? = some u → VRep S T u x
  | [], xs, l, vs, e, r => by
    cases xs <;> simp [tupE] at e
    subst e
    obtain ⟨rfl, _⟩ := r
    exact ⟨rfl, by simp⟩
  | .val t :: ts, xs, l, vs, e, r => by
    obtain ⟨v, vs', x, xs', rfl, rfl, hv, r⟩ := r
    simp only [tupE] at e
    obtain ⟨l', hl, rfl⟩ := Option.map_eq_some_iff.1 e
    obtain ⟨k1, k2⟩ := tupE_rel ts xs' l' vs' hl r
    refine ⟨by simp [k1], fun i T y u h1 h2 => ?_⟩
    cases i with
    | zero =>
      simp at h1 h2
      obtain ⟨rfl, rfl⟩ := h1
      subst h2
      obtain ⟨cs, rfl, rr⟩ := hv
      rw [Rep.co_eq _ _ _ rr]
      exact ⟨cs, rfl, rr⟩
    | succ i => exact k2 i T y u (by simpa using h1) (by simpa using h2)
  | .ptr _ :: _, _, _, _, _, r => r.elim

end Go.Proofs.Ytcpdiahbdmcdcaa.Ev
