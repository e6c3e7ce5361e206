/- A function's start and its end. -/
import Derived.Test.YtcpdiahbdmcdcaaEvW
namespace Go.Proofs.Ytcpdiahbdmcdcaa.Ev
open Go Go.RowKit

variable {c : Ctx} {gh : Ghost} {s : St} {a : Act} {w : World} {P : Program} {G : Env} {run : Run}

/-- Which block a parameter's variable stands on. -/
def fixOf : Nat → List PTy → List Nat → Nat → Option Nat
  | _, [], _, _ => none
  | k, .val _ :: ts, bs, j => fixOf (k + 1) ts bs j
  | k, .ptr _ :: ts, bs, j => match bs with
    | [] => none
    | b :: bs => if j = k then some b else fixOf (k + 1) ts bs j

theorem fixOf_mem : ∀ (k : Nat) (ts : List PTy) (bs : List Nat) (j b : Nat), fixOf k ts bs j = some b → k ≤ j ∧ b ∈ bs
  | _, [], _, _, _, h => by simp [fixOf] at h
  | k, .val _ :: ts, bs, j, b, h => by
    have := fixOf_mem (k + 1) ts bs j b h
    exact ⟨by omega, this.2⟩
  | k, .ptr _ :: ts, [], j, b, h => by simp [fixOf] at h
  | k, .ptr _ :: ts, b0 :: bs, j, b, h => by
    simp only [fixOf] at h
    split at h
    · cases h; exact ⟨by omega, by simp⟩
    · have := fixOf_mem (k + 1) ts bs j b h
      exact ⟨by omega, by simp [this.2]⟩

theorem fixOf_inj : ∀ (k : Nat) (ts : List PTy) (bs : List Nat) (i j b : Nat), bs.Nodup → fixOf k ts bs i = some b → fixOf k ts bs j = some b → i = j
  | _, [], _, _, _, _, _, h, _ => by simp [fixOf] at h
  | k, .val _ :: ts, bs, i, j, b, hn, h, g => fixOf_inj (k + 1) ts bs i j b hn h g
  | k, .ptr _ :: ts, [], i, j, b, _, h, _ => by simp [fixOf] at h
  | k, .ptr _ :: ts, b0 :: bs, i, j, b, hn, h, g => by
    simp only [fixOf] at h g
    have hn' := List.nodup_cons.1 hn
    split at h <;> split at g
    · omega
    · cases h; exact absurd (fixOf_mem _ _ _ _ _ g).2 hn'.1
    · cases g; exact absurd (fixOf_mem _ _ _ _ _ h).2 hn'.1
    · exact fixOf_inj (k + 1) ts bs i j b hn'.2 h g

/-- What stands at a parameter. -/
def ParAt (S : Snap) (w : World) (k : Nat) (ts : List PTy) (vs : List Value) (xs : List AV) (bs : List Nat) (j : Nat) : PTy → Prop
  | .val t => ∃ v x, vs[j]? = some v ∧ VRep S t v x ∧ (inT k ts xs)[j]? = some (.val t none x) ∧ (inO ts xs)[j]? = some ⟨0, none⟩
  | .ptr t => ∃ b x, vs[j]? = some (.pointer (some ⟨b, 0, none⟩)) ∧ Var S w t b x ∧ (inT k ts xs)[j]? = some (.ptr ⟨t, k + j, 0, []⟩) ∧ (inO ts xs)[j]? = some ⟨0, some ⟨t, x⟩⟩ ∧ fixOf k ts bs (k + j) = some b

theorem par_at {S : Snap} : ∀ (ts : List PTy) (vs : List Value) (xs : List AV) (bs : List Nat) (k : Nat), ArgsRel S w ts vs xs bs →
    vs.length = ts.length ∧ (inT k ts xs).length = ts.length ∧ (inO ts xs).length = ts.length ∧ ∀ (j : Nat) T, ts[j]? = some T → ParAt S w k ts vs xs bs j T
  | [], vs, xs, bs, k, h => by
    obtain ⟨rfl, rfl, rfl⟩ := h
    exact ⟨rfl, rfl, rfl, by simp⟩
  | .val t :: ts, vs, xs, bs, k, h => by
    obtain ⟨v, vs', x, xs', rfl, rfl, hv, h⟩ := h
    obtain ⟨h1, h2, h3, h4⟩ := par_at ts vs' xs' bs (k + 1) h
    refine ⟨by simp [h1], by simp [inT, h2], by simp [inO, h3], fun j T hj => ?_⟩
    cases j with
    | zero =>
      simp at hj
      subst hj
      have hx : t.co x = x := by obtain ⟨cs, _, r⟩ := hv; exact Rep.co_eq _ _ _ r
      exact ⟨v, x, rfl, hv, by simp [inT, hx], by simp [inO]⟩
    | succ j =>
      have := h4 j T (by simpa using hj)
      cases T with
      | val t' =>
        obtain ⟨v', x', q1, q2, q3, q4⟩ := this
        exact ⟨v', x', by simpa using q1, q2, by simpa [inT] using q3, by simpa [inO] using q4⟩
      | ptr t' =>
        obtain ⟨b, x', q1, q2, q3, q4, q5⟩ := this
        rw [show k + 1 + j = k + (j + 1) by omega] at q3 q5
        exact ⟨b, x', by simpa using q1, q2, by simpa [inT] using q3, by simpa [inO] using q4, by simpa [fixOf] using q5⟩
  | .ptr t :: ts, vs, xs, bs, k, h => by
    obtain ⟨v, vs', x, xs', b, bs', rfl, rfl, rfl, rfl, hv, h⟩ := h
    obtain ⟨h1, h2, h3, h4⟩ := par_at ts vs' xs' bs' (k + 1) h
    refine ⟨by simp [h1], by simp [inT, h2], by simp [inO, h3], fun j T hj => ?_⟩
    cases j with
    | zero =>
      simp at hj
      subst hj
      have hx : t.co x = x := by obtain ⟨cs, _, r, _⟩ := hv; exact Rep.co_eq _ _ _ r
      exact ⟨b, x, rfl, hv, by simp [inT], by simp [inO, hx], by simp [fixOf]⟩
    | succ j =>
      have := h4 j T (by simpa using hj)
      cases T with
      | val t' =>
        obtain ⟨v', x', q1, q2, q3, q4⟩ := this
        exact ⟨v', x', by simpa using q1, q2, by simpa [inT] using q3, by simpa [inO] using q4⟩
      | ptr t' =>
        obtain ⟨b', x', q1, q2, q3, q4, q5⟩ := this
        rw [show k + 1 + j = k + (j + 1) by omega] at q3 q5
        refine ⟨b', x', by simpa using q1, q2, by simpa [inT] using q3, by simpa [inO] using q4, ?_⟩
        simp only [fixOf]
        rw [if_neg (by omega)]
        exact q5

theorem getD_append_any {l : List Ent} {n t : Nat} (h : l.length ≤ t) : (l ++ List.replicate n Ent.any).getD t .any = .any := by
  simp only [List.getD]
  rw [List.getElem?_append_right h]
  cases hh : (List.replicate n Ent.any)[t - l.length]? with
  | none => rfl
  | some e => exact (List.mem_replicate.1 (List.mem_of_getElem? hh)).2
theorem getD_append_slot {l : List OSlot} {n t : Nat} (h : l.length ≤ t) : (l ++ List.replicate n (OSlot.mk 0 none)).getD t ⟨0, none⟩ = ⟨0, none⟩ := by
  simp only [List.getD]
  rw [List.getElem?_append_right h]
  cases hh : (List.replicate n (OSlot.mk 0 none))[t - l.length]? with
  | none => rfl
  | some e => exact (List.mem_replicate.1 (List.mem_of_getElem? hh)).2

theorem start_rel {i : FnInfo} {S0 : Snap} {w0 : World} {vs : List Value} {xs : List AV} {bs : List Nat} (ha : ∀ p v, S0 p = some v → w0.cell? p = some v) (h : ArgsRel S0 w0 i.params vs xs bs) (hn : bs.Nodup) (hl : i.params.length ≤ i.ntmps) :
    ∃ gh, Rel ⟨w0.heap.size, bs, w0, S0, fixOf 0 i.params bs⟩ gh (i.start xs) { tmps := vs.toArray ++ Array.replicate (i.ntmps - vs.toArray.size) undef, defers := [] } w0 := by
  obtain ⟨h1, h2, h3, h4⟩ := par_at i.params vs xs bs 0 h
  have hT : ∀ t, (i.start xs).look t = (inT 0 i.params xs ++ List.replicate (i.ntmps - i.params.length) Ent.any).getD t .any := fun t => rfl
  have hO : ∀ t, (i.start xs).slot t = (inO i.params xs ++ List.replicate (i.ntmps - i.params.length) (OSlot.mk 0 none)).getD t ⟨0, none⟩ := fun t => rfl
  have hob : ∀ id ob, ((i.start xs).slot id).ob = some ob → ∃ t b, i.params[id]? = some (.ptr t) ∧ ob.t = t ∧ Var S0 w0 t b ob.x ∧ fixOf 0 i.params bs id = some b := by
    intro id ob ho
    rw [hO] at ho
    rcases Nat.lt_or_ge id i.params.length with hlt | hge
    · have hg := List.getElem?_eq_getElem hlt
      have := h4 id _ hg
      rw [List.getD, List.getElem?_append_left (by rw [h3]; exact hlt)] at ho
      cases hp : i.params[id] with
      | val t =>
        rw [hp] at this
        obtain ⟨v, x, _, _, _, q4⟩ := this
        rw [q4] at ho
        cases ho
      | ptr t =>
        rw [hp] at this hg
        obtain ⟨b, x, q1, q2, q3, q4, q5⟩ := this
        rw [q4] at ho
        simp only [Option.getD_some, Option.some.injEq] at ho
        subst ho
        rw [Nat.zero_add] at q5
        exact ⟨t, b, hg, rfl, q2, q5⟩
    · rw [getD_append_slot (by rw [h3]; exact hge)] at ho
      cases ho
  refine ⟨⟨S0, fun k => (fixOf 0 i.params bs k).getD 0, fun _ => .slice none 0 0, fun _ => 0⟩, ?_⟩
  exact {
    keep := Keep.refl _ _ _
    size := Nat.le_refl _
    le := Snap.le_refl _
    new := fun p v hp => .inl hp
    agree := ha
    ntm := by simp [FnInfo.start, h1, h2]
    nob := by simp [FnInfo.start, h2, h3]
    now := by simp [FnInfo.start, h2]; omega
    defers := rfl
    tmps := fun t => by
      rw [hT]
      rcases Nat.lt_or_ge t i.params.length with hlt | hge
      · have hg := List.getElem?_eq_getElem hlt
        have := h4 t _ hg
        rw [List.getD, List.getElem?_append_left (by rw [h2]; exact hlt)]
        have hv : ∀ v, vs[t]? = some v → (vs.toArray ++ Array.replicate (i.ntmps - vs.toArray.size) undef).getD t undef = v := by
          intro v hv
          rw [Array.getD_eq_getD_getElem?, Array.getElem?_append_left (by simp [h1, hlt])]
          simp [hv]
        cases hp : i.params[t] with
        | val T =>
          rw [hp] at this
          obtain ⟨v, x, q1, q2, q3, q4⟩ := this
          rw [q3, hv v q1]
          exact .plain q2
        | ptr T =>
          rw [hp] at this
          obtain ⟨b, x, q1, q2, q3, q4, q5⟩ := this
          rw [q3, hv _ q1]
          rw [Nat.zero_add] at q5 ⊢
          refine ⟨Nat.zero_le _, fun _ ob ho => ?_⟩
          obtain ⟨T', b', e1, e2, e3, e4⟩ := hob t ob ho
          rw [hg, hp] at e1
          cases e1
          refine ⟨0, ⟨e2, rfl⟩, ?_⟩
          show _ = Value.pointer (some ⟨(fixOf 0 i.params bs t).getD 0, 0, none⟩)
          rw [q5]
          rfl
      · rw [getD_append_any (by rw [h2]; exact hge)]
        trivial
    objs := fun id ob ho => by
      obtain ⟨t, b, e1, e2, ⟨cs, k1, k2, k3⟩, e4⟩ := hob id ob ho
      have hm : (fixOf 0 i.params bs id).getD 0 = b := by rw [e4]; rfl
      show ObRel _ _ _ _ ((fixOf 0 i.params bs id).getD 0) ob
      rw [hm]
      exact ⟨cs, k1, .inr (fixOf_mem _ _ _ _ _ e4).2, by rw [e2]; exact k2, k3⟩
    minj := fun x y ox oy hx hy e => by
      obtain ⟨_, b1, _, _, _, e1⟩ := hob x ox hx
      obtain ⟨_, b2, _, _, _, e2⟩ := hob y oy hy
      simp only [e1, e2, Option.getD_some] at e
      subst e
      exact fixOf_inj _ _ _ _ _ _ hn e1 e2
    owns := fun g => .inl rfl
    odist := fun g g' b e _ => by cases e
    mo := fun id ob g b _ e => by cases e
    fix := fun k b e _ ob _ => by
      show (fixOf 0 i.params bs k).getD 0 = b
      rw [show fixOf 0 i.params bs k = some b from e]
      rfl }

/- the end: variables whose cells a result names turn no more -/
open Classical in
noncomputable def Snap.freeze (S : Snap) (w : World) (F : Nat → Prop) : Snap := fun p => match S p with
  | some v => some v
  | none => if F p.block then w.cell? p else none

theorem freeze_le (S : Snap) (w : World) (F : Nat → Prop) : S.le (S.freeze w F) := fun p v h => by simp [Snap.freeze, h]
theorem freeze_new {S : Snap} {w : World} {F : Nat → Prop} {p : Addr} {v : Value} (h : S.freeze w F p = some v) : S p = some v ∨ (F p.block ∧ w.cell? p = some v) := by
  unfold Snap.freeze at h
  split at h
  · rename_i hs; rw [hs]; exact .inl h
  · split at h
    · rename_i hf; exact .inr ⟨hf, h⟩
    · cases h
theorem freeze_off {S : Snap} {w : World} {F : Nat → Prop} {b k : Nat} (h : S.off b k) (hb : ¬ F b) : (S.freeze w F).off b k := fun p hp hk => by
  cases hs : S.freeze w F p with
  | none => rfl
  | some v =>
    rcases freeze_new hs with h1 | ⟨h1, _⟩
    · rw [h p hp hk] at h1; cases h1
    · rw [hp] at h1; exact absurd h1 hb
theorem freeze_at {S : Snap} {w : World} {F : Nat → Prop} {p : Addr} {v : Value} (ha : ∀ p v, S p = some v → w.cell? p = some v) (hf : F p.block) (hc : w.cell? p = some v) : S.freeze w F p = some v := by
  unfold Snap.freeze
  split
  · rename_i u hu
    rw [ha p u hu] at hc
    exact hc
  · rw [if_pos hf]; exact hc

theorem add_block (p : Addr) (j : Nat) : (p.add j).block = p.block := by
  unfold Addr.add
  split
  · rfl
  · cases p.spot <;> rfl

/-- The blocks that are named: none of them stood there before but in the variables handed over. -/
def Named (gh : Ghost) (s : St) (ids : List Nat) (b : Nat) : Prop := ∃ id ∈ ids, ∃ ob, (s.slot id).ob = some ob ∧ gh.m id = b

theorem valE_rel (h : Rel c gh s a w) {np : Nat} {t : Ty} {i : Nat} {x : AV} {ids F : List Nat} (e : valE s np t i = some (x, ids)) (hF : ∀ id ∈ ids, id ∈ F) :
    VRep (gh.S.freeze w (Named gh s F)) t (a.tmps.getD i undef) x ∧ ∀ id ∈ ids, np ≤ id := by
  unfold valE at e
  split at e
  · rename_i p lo hi hr
    have hr := refOf_some hr
    have hv := h.tmps i
    rw [hr] at hv
    split at e
    · rename_i e0 e' hel
      obtain ⟨hb, e⟩ := cond_some e
      simp only [Bool.and_eq_true] at hb
      obtain ⟨l, hl, e⟩ := Option.map_eq_some_iff.1 e
      simp only [Prod.mk.injEq] at e
      obtain ⟨rfl, rfl⟩ := e
      refine ⟨?_, fun id hid => by simp at hid; subst hid; exact Nat.le_of_ble_eq_true hb.2⟩
      obtain ⟨ad, cap, e1, cs, k1, k2, k3, k4, k5, k6, k7, ob, k8, k9⟩ := h.refCells hv hl
      have he' := Ty.beq_eq _ _ hb.1
      rw [hel] at k2
      cases k2
      rw [he'] at k6
      rw [k1]
      refine VRep.slice_mk (Rep.mono (freeze_le _ _ _) _ _ _ k6) (fun j u hj => ?_) k3 k4
      refine freeze_at h.agree ?_ (k7 j u hj)
      rw [add_block]
      obtain ⟨off, e2, a2, cap2, m1, m2, m3, m4, m5, m6, m7, m8⟩ := hv.2 k9 ob k8
      have hlt : lo < hi := by
        rcases Nat.lt_or_ge lo hi with hh | hh
        · exact hh
        · have hz : l.length = 0 := by omega
          have := (arr_len k6).2
          rw [hz] at this
          have := (List.getElem?_eq_some_iff.1 hj).1
          omega
      rw [k1] at m5
      simp only [Value.slice.injEq, Option.some.injEq] at m5
      rw [m5.1, m8 hlt]
      exact ⟨p.id, hF _ (by simp), ob, k8, rfl⟩
    · cases e
  · obtain ⟨y, hy, e⟩ := Option.map_eq_some_iff.1 e
    simp only [Prod.mk.injEq] at e
    obtain ⟨rfl, rfl⟩ := e
    exact ⟨VRep.mono (freeze_le _ _ _) (h.opv hy), by simp⟩

theorem cellE_rel (hP : EnvOk P G) (h : Rel c gh s a w) {t : Ty} {i : Nat} {u : TypeId} {x : AV} (e : cellE G s t i u = some x) :
    ∃ v, (do loadVar u (← asAddr (a.tmps.getD i undef)) : Sem Value).run P w = .ok v w ∧ VRep gh.S t v x := by
  unfold cellE at e
  have hv := h.tmps i
  cases hl : s.look i <;> rw [hl] at e hv <;> simp only at e <;> (try (cases e; done))
  rename_i p
  obtain ⟨hb, e⟩ := cond_some e
  simp only [Bool.and_eq_true] at hb
  obtain ⟨y, hy, rfl⟩ := Option.map_eq_some_iff.1 e
  have ht := Ty.beq_eq _ _ hb.1
  obtain ⟨ob, off, cs, k1, k2, k3, k4, k5, k6, _⟩ := h.getPt hv hy
  cases hu : G.tyOf u with
  | none => rw [hu] at hb; cases hb.2
  | some U =>
    rw [hu] at hb
    have hU : U = t := Ty.beq_eq _ _ hb.2
    subst hU
    rw [ht] at k5
    refine ⟨U.val cs, ?_, cs, rfl, by rw [Rep.co_eq _ _ _ k5]; exact k5⟩
    rw [k4]
    simp only [asAddr, Sem.run_bind, Sem.run_pure, Result.andThen_ok]
    exact run_loadVar (hP.ty _ _ hu) _ cs (Rep.len _ _ _ k5) k6

/-- One result. -/
def oneRes (tmps : Array Value) : ResultVar → Sem Value
  | .tmp t => pure (tmps.getD t undef)
  | .cell a t => do loadVar t (← asAddr (tmps.getD a undef))

theorem results_eq (fn : Func) (tmps : Array Value) : results fn tmps = (do
    let vs ← fn.results.mapM (oneRes tmps)
    pure (if h : vs.size = 1 then vs[0] else .tuple vs)) := by
  unfold results
  congr 2

theorem varsE_rel (hP : EnvOk P G) (h : Rel c gh s a w) {np : Nat} {F : List Nat} : ∀ (ts : List PTy) (rs : List ResultVar) (l : List AV) (ids : List Nat), varsE G s np ts rs = some (l, ids) → (∀ id ∈ ids, id ∈ F) →
    (∃ vs : List Value, (rs.mapM (oneRes a.tmps)).run P w = .ok vs w ∧ TupRel (gh.S.freeze w (Named gh s F)) ts vs l ∧ vs.length = ts.length ∧ rs.length = ts.length ∧ ∀ i t, rs = [.tmp i] → ts = [.val t] → vs = [a.tmps.getD i undef]) ∧ ∀ id ∈ ids, np ≤ id
  | [], [], l, ids, e, _ => by
    cases e
    exact ⟨⟨[], rfl, ⟨rfl, rfl⟩, rfl, rfl, fun i t e => by cases e⟩, by simp⟩
  | [], _ :: _, _, _, e, _ => by cases e
  | .ptr _ :: _, _, _, _, e, _ => by cases e
  | .val t :: ts, [], _, _, e, _ => by cases e
  | .val t :: ts, r :: rs, l, ids, e, hF => by
    simp only [varsE] at e
    obtain ⟨⟨x, ix⟩, hx, e⟩ := bind_some e
    obtain ⟨⟨l', ids'⟩, hr, e⟩ := Option.map_eq_some_iff.1 e
    simp only [Prod.mk.injEq] at e
    obtain ⟨rfl, rfl⟩ := e
    obtain ⟨⟨vs, k1, k2, k3, k4, _⟩, k5⟩ := varsE_rel hP h ts rs l' ids' hr fun id hid => hF id (by simp [hid])
    cases r with
    | tmp i =>
      simp only [varE] at hx
      obtain ⟨q1, q2⟩ := valE_rel h hx fun id hid => hF id (by simp [hid])
      refine ⟨⟨a.tmps.getD i undef :: vs, ?_, ⟨_, _, _, _, rfl, rfl, q1, k2⟩, by simp [k3], by simp [k4], fun i' t' e1 e2 => ?_⟩, fun id hid => ?_⟩
      · simp only [List.mapM_cons, oneRes, Sem.run_bind, Sem.run_pure, Result.andThen_ok, k1]
      · simp only [List.cons.injEq, ResultVar.tmp.injEq] at e1 e2
        obtain ⟨rfl, rfl⟩ := e1
        have : vs = [] := List.eq_nil_of_length_eq_zero (by rw [k3, e2.2]; rfl)
        rw [this]
      · rcases List.mem_append.1 hid with hid | hid
        · exact q2 id hid
        · exact k5 id hid
    | cell i u =>
      simp only [varE] at hx
      obtain ⟨y, hy, e⟩ := Option.map_eq_some_iff.1 hx
      simp only [Prod.mk.injEq] at e
      obtain ⟨rfl, rfl⟩ := e
      obtain ⟨v, q1, q2⟩ := cellE_rel hP h hy
      refine ⟨⟨v :: vs, ?_, ⟨_, _, _, _, rfl, rfl, VRep.mono (freeze_le _ _ _) q2, k2⟩, by simp [k3], by simp [k4], fun i' t' e1 _ => by cases e1⟩, fun id hid => k5 id (by simpa using hid)⟩
      rw [List.mapM_cons, Sem.run_bind]
      have : (oneRes a.tmps (.cell i u)).run P w = .ok v w := q1
      rw [this]
      simp only [Result.andThen_ok, Sem.run_bind, Sem.run_pure, k1]

theorem tup_one {S : Snap} {t : Ty} {vs : List Value} {l : List AV} (h : TupRel S [.val t] vs l) : ∃ v x, vs = [v] ∧ l = [x] ∧ VRep S t v x := by
  obtain ⟨v, vs', x, xs', rfl, rfl, hv, rfl, rfl⟩ := h
  exact ⟨v, x, rfl, rfl, hv⟩

theorem resE_or {np : Nat} {ts : List PTy} {rs : List ResultVar} {l : List AV × List Nat} (e : resE G s np ts rs = some l) :
    (∃ t i p x, ts = [.ptr t] ∧ rs = [.tmp i] ∧ s.look i = .ptr p ∧ (p.t.beq t && p.path.isEmpty && Nat.ble np p.id) = true ∧ s.getPt p = some x ∧ l = ([t.co x], [])) ∨ varsE G s np ts rs = some l := by
  unfold resE at e
  split at e
  · rename_i t i
    refine .inl ?_
    cases hl : s.look i <;> rw [hl] at e <;> simp only at e <;> (try (cases e; done))
    rename_i p
    obtain ⟨hb, e⟩ := cond_some e
    obtain ⟨x, hx, e⟩ := Option.map_eq_some_iff.1 e
    exact ⟨t, i, p, x, rfl, rfl, hl, hb, hx, e.symm⟩
  · exact .inr e

/-- What the results of a call are, when it ends so. -/
theorem res_rel (hP : EnvOk P G) (h : Rel c gh s a w) {fn : Func} {np : Nat} {ts : List PTy} {l : List AV} {ids : List Nat} (e : resE G s np ts fn.results.toList = some (l, ids)) (os : List AV) (fr : Bool) (hfr : (!fr || freshE s fn.results.toList) = true) (hnb : ∀ id ob, np ≤ id → (s.slot id).ob = some ob → c.B ≤ gh.m id) :
    (∃ v, (results fn a.tmps).run P w = .ok v w ∧ ResRel (gh.S.freeze w (Named gh s ids)) w c.B ts ⟨l, os, fr⟩ v) ∧ ∀ id ∈ ids, np ≤ id := by
  have hres : ∀ (vs : List Value), (fn.results.toList.mapM (oneRes a.tmps)).run P w = .ok vs w → (results fn a.tmps).run P w = .ok (if h : vs.length = 1 then vs[0] else .tuple vs.toArray) w := by
    intro vs hvs
    rw [results_eq, Array.mapM_eq_mapM_toList]
    simp only [map_eq_pure_bind, Sem.run_bind, hvs, Result.andThen_ok, Sem.run_pure, bind_assoc, pure_bind]
    congr 1
  rcases resE_or e with ⟨t, i, p, x, rfl, hrs, hl, hb, hx, hle⟩ | e
  · have hv := h.tmps i
    rw [hl] at hv
    simp only [Bool.and_eq_true] at hb
    simp only [Prod.mk.injEq] at hle
    obtain ⟨rfl, rfl⟩ := hle
    obtain ⟨q1, q2, q3, q4, ob, q5, q6, q7⟩ := h.handed hv (t := t) (by simp [hb.1.1, hb.1.2]) hx
    refine ⟨⟨a.tmps.getD i undef, ?_, t.co x, gh.m p.id, rfl, q1, hnb _ ob (Nat.le_of_ble_eq_true hb.2) q5, ?_⟩, by simp⟩
    · rw [hres [a.tmps.getD i undef] (by rw [hrs]; simp [oneRes])]
      rfl
    · obtain ⟨cs, g1, g2, g3⟩ := q2
      exact ⟨cs, g1, Rep.mono (freeze_le _ _ _) _ _ _ g2, freeze_off g3 (by rintro ⟨id, hid, _⟩; simp at hid)⟩
  · clear hnb
    obtain ⟨⟨vs, k1, k2, k3, k4, k6⟩, k5⟩ := varsE_rel hP h (F := ids) _ _ l ids e fun _ h => h
    refine ⟨⟨_, hres vs k1, ?_⟩, k5⟩
    have tup : ts.length ≠ 1 → ∃ vs', (if h : vs.length = 1 then vs[0] else .tuple vs.toArray) = .tuple vs'.toArray ∧ TupRel (gh.S.freeze w (Named gh s ids)) ts vs' l := fun hne => ⟨vs, by rw [dif_neg (by omega)], k2⟩
    match ts, k2, k3, k4, k6, tup, e with
    | [], _, _, _, _, tup, _ => exact tup (by simp)
    | [.val t], k2, k3, k4, k6, _, e =>
      obtain ⟨v, x, rfl, rfl, hv⟩ := tup_one k2
      refine ⟨x, rfl, by simpa using hv, fun hf => ?_⟩
      simp only at hf
      rw [hf] at hfr
      have hf : freshE s fn.results.toList = true := by simpa using hfr
      unfold freshE at hf
      split at hf
      · rename_i i heq
        split at hf
        · rename_i T g n y hl
          simp only [Bool.and_eq_true] at hf
          have hi := h.tmps i
          rw [hl] at hi
          obtain ⟨q1, E, rfl, q3⟩ := (hi.2 g n rfl).2 (Nat.eq_of_beq_eq_true hf.1).symm
          have hvi : v = a.tmps.getD i undef := by simpa using k6 i t heq rfl
          rw [heq] at e
          simp only [varsE, varE, valE, hl, Ent.refOf] at e
          obtain ⟨z, hz, e⟩ := bind_some e
          obtain ⟨z', hz', _⟩ := Option.map_eq_some_iff.1 hz
          simp only [St.opv, hl, Ent.atTy] at hz'
          obtain ⟨hb, _⟩ := cond_some hz'
          have := Ty.beq_eq _ _ hb
          subst this
          refine ⟨E, rfl, ?_⟩
          have ho := h.owns g
          rw [q3, ← q1, ← hvi] at ho
          rcases ho with h0 | ⟨g', n', cap, cs, e', m1, m2, m3, m4, m5, m6⟩
          · exact .inl (by simpa using h0)
          · refine .inr ⟨g', n', cap, cs, by simpa using e', m1, m2, m3, m4, m5, freeze_off m6 ?_⟩
            rintro ⟨id, _, ob, hob, hm⟩
            refine h.mo id ob g g' hob ?_ hm
            rw [← q1, ← hvi, e']
            rfl
        · cases hf
      · cases hf
    | [.ptr t], k2, _, _, _, _, _ => exact k2.elim
    | x :: y :: ts, k2, _, _, _, tup, _ => 
      obtain ⟨vs', h1, h2⟩ := tup (by simp)
      cases x with
      | ptr t => exact h2.elim
      | val t => exact ⟨vs', h1, h2⟩

end Go.Proofs.Ytcpdiahbdmcdcaa.Ev
