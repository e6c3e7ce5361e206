/- Regions that keep the order of the text. -/
import Derived.Test.YtcpdiahbdmcdcaaEvT
import Derived.Orders
namespace Go.Proofs.Ytcpdiahbdmcdcaa.Ev
open Go Go.RowKit

variable {c : Ctx} {gh : Ghost} {s : St} {a : Act} {w : World} {P : Program} {G : Env} {run : Run} {o : Oper}

/-- What an operation does to what follows it, under its guard. -/
def StepWp (P : Program) (ops : Array Oper) (Q : Exit → Act → World → Prop) (o : Oper) (K : Act → World → Prop) (a : Act) (w : World) : Prop :=
  if Region.wanted o (yielded ops a.tmps) then o.wp P a w K Q else K (a.put o.dst undef) w

theorem Rel.undef (h : Rel c gh s a w) (hd : dstOk s o.dst = true) : Rel c gh (Eff.apply ⟨.undef, [], [], [], []⟩ o.dst s) (a.put o.dst undef) w :=
  h.put o.dst (e := .undef) (v := Go.undef) rfl hd

theorem step_sound {ops : Array Oper} {Q : Exit → Act → World → Prop} {K : Act → World → Prop} {fx : Eff} (hT : TyAll P G) (hF : FnsOk P G run) (h : Rel c gh s a w) (hd : dstOk s o.dst = true)
    (hk : stepK G run ops.toList o s some = some fx) (hn : ∀ gh' a' w', Rel c gh' (fx.apply o.dst s) a' w' → K a' w') : StepWp P ops Q o K a w := by
  unfold stepK at hk
  unfold StepWp
  cases hg : o.guard with
  | none =>
    rw [hg] at hk
    simp only at hk
    simp only [Region.wanted, hg, if_true]
    exact op_sound hT hF h hd hk hn
  | some g =>
    rw [hg] at hk
    simp only at hk
    obtain ⟨⟨d, want⟩, hgt, hk⟩ := bind_some hk
    obtain ⟨b, hb, hk⟩ := bind_some hk
    unfold guardTmp at hgt
    rw [hg] at hgt
    simp only [Option.bind_some] at hgt
    obtain ⟨oj, hoj, hgt⟩ := bind_some hgt
    obtain ⟨d', hd', he⟩ := Option.map_eq_some_iff.1 hgt
    simp only [Prod.mk.injEq] at he
    obtain ⟨rfl, rfl⟩ := he
    have hy : yielded ops a.tmps g.1 = match a.tmps[d']? with
        | some (.bool b) => some b
        | _ => none := by
      unfold yielded
      have : (ops[g.1]?).bind (·.dst) = some d' := by
        rw [← Array.getElem?_toList, hoj]
        exact hd'
      rw [this, Option.bind_some]
      rfl
    have hw : Region.wanted o (yielded ops a.tmps) = b := by
      simp only [Region.wanted, hg, hy]
      have ht := h.tmps d'
      simp only at hb
      cases hl : s.look d' <;> rw [hl] at hb ht <;> simp only [Ent.yes] at hb <;> (try (cases hb; done))
      · have h2 : a.tmps.getD d' undef = undef := ht
        have h1 : ∀ b', a.tmps[d']? ≠ some (.bool b') := by
          intro b' e
          rw [Array.getD_eq_getD_getElem?, e] at h2
          cases h2
        cases hb
        split
        · rename_i b' e; exact absurd e (h1 b')
        · rfl
      · rename_i t g' x
        cases t <;> simp only at hb <;> (try (cases hb; done))
        obtain ⟨b', h1, rfl⟩ := VRep.bool ht.1
        have h2 : a.tmps[d']? = some (.bool b') := by
          rw [Array.getD_eq_getD_getElem?] at h1
          cases h3 : a.tmps[d']? with
          | none => rw [h3] at h1; cases h1
          | some v => rw [h3] at h1; exact congrArg some h1
        rw [h2]
        simp only [AV.toBool, Option.some.injEq] at hb
        rw [← hb]
        cases b' <;> cases g.2 <;> rfl
    rw [hw]
    cases b with
    | true =>
      rw [cond_true] at hk
      exact op_sound hT hF h hd hk hn
    | false =>
      rw [cond_false] at hk
      rw [tell_some hk] at hn
      exact hn _ _ _ (h.undef hd)

theorem refineK_eq {α : Type} {s : St} (ops : List Oper) (o : Oper) (k : St → Option α) : refineK ops o s k = k s := by
  have same : ∀ (t : Nat) (e : Ent), s.look t = e → e ≠ .any → (⟨s.tmps.set t e, s.objs, s.owns⟩ : St) = s := fun t e h hne => by
    have : s.tmps.set t e = s.tmps := by
      refine List.ext_getElem? fun i => ?_
      by_cases hi : t = i
      · subst hi
        cases ht : s.tmps[t]? with
        | none => simp [List.getElem?_eq_none_iff.1 ht]
        | some x =>
          have hl := (List.getElem?_eq_some_iff.1 ht).1
          rw [List.getElem?_set_self hl]
          rw [St.look, List.getD, ht] at h
          exact congrArg some h.symm
      · rw [List.getElem?_set_ne hi]
    rw [this]
  unfold refineK
  split
  · rfl
  · rename_i g _
    split
    · rename_i w b hl
      cases b with
      | true => rw [cond_true, same _ _ hl (by simp)]
      | false => rw [cond_false, same _ _ hl (by simp)]
    · rfl

theorem opsK_sound {ops : Array Oper} {Q : Exit → Act → World → Prop} {α : Type} {K : St → Option α} {r : α} (hT : TyAll P G) (hF : FnsOk P G run)
    (hQ : ∀ s' gh' a' w', Rel c gh' s' a' w' → K s' = some r → Q .normal a' w') :
    ∀ (l : List Oper) (gh : Ghost) (s : St) (a : Act) (w : World), Rel c gh s a w → opsK G run ops.toList l K s = some r → wpList P ops Q l a w
  | [], gh, s, a, w, h, hk => hQ _ _ _ _ h hk
  | o :: l, gh, s, a, w, h, hk => by
    simp only [opsK] at hk
    obtain ⟨hd, hk⟩ := cond_some hk
    rw [refineK_eq, stepK_cps] at hk
    obtain ⟨fx, hfx, hk⟩ := bind_some hk
    have := step_sound (Q := Q) (K := wpList P ops Q l) hT hF h hd hfx fun gh' a' w' h' => opsK_sound hT hF hQ l gh' _ a' w' h' hk
    unfold StepWp at this
    unfold wpList
    split
    · rename_i hw; rw [if_pos hw] at this; exact .inl this
    · rename_i hw; rw [if_neg hw] at this; exact this

/- an operation under its guard: what it tells hangs on what it is noted to read -/
theorem mem_tmpsOf {t : Nat} : ∀ {l : List Operand}, .tmp t ∈ l → t ∈ tmpsOf l
  | [], h => by simp at h
  | x :: l, h => by
    rcases List.mem_cons.1 h with h | h
    · subst h; simp [tmpsOf]
    · have := mem_tmpsOf h
      cases x <;> simp [tmpsOf, this]

theorem step_like {ops : List Oper} {s s' : St} {f : Eff} (ht : ∀ t ∈ readsOf ops o, s'.look t = s.look t) (hk : stepK G run ops o s some = some f) (h : Like s s' f) : stepK G run ops o s' some = some f := by
  have hs : ∀ x ∈ o.op.operands.toList, s.same s' x := fun x hx t e => ht t (by
    subst e
    exact List.mem_append_right _ (mem_tmpsOf hx))
  unfold stepK at hk ⊢
  cases hg : o.guard with
  | none =>
    rw [hg] at hk
    exact op_like hs hk h
  | some g =>
    rw [hg] at hk
    simp only at hk ⊢
    refine bind_par hk fun p hp hk => ?_
    have h1 : s'.look p.1 = s.look p.1 := ht _ (by simp [readsOf, hp])
    rw [h1]
    exact bind_par hk fun b _ hk => cond_par2 hk (fun _ hk => op_like hs hk h) fun _ hk => hk

theorem setAll_ne {α : Type} {d : α} {i : Nat} : ∀ (l : List (Nat × α)) (o : List α), i ∉ l.map Prod.fst → (setAll l o).getD i d = o.getD i d
  | [], _, _ => rfl
  | (j, x) :: l, o, h => by
    simp only [List.map_cons, List.mem_cons, not_or] at h
    rw [setAll, setAll_ne l _ h.2]
    simp [List.getD, List.getElem?_set_ne (Ne.symm h.1)]

theorem setAll_set {α : Type} {i : Nat} {y : α} : ∀ (l : List (Nat × α)) (o : List α), i ∉ l.map Prod.fst → setAll l (o.set i y) = (setAll l o).set i y
  | [], _, _ => rfl
  | (j, x) :: l, o, h => by
    simp only [List.map_cons, List.mem_cons, not_or] at h
    rw [setAll, setAll, List.set_comm _ _ h.1, setAll_set l _ h.2]

theorem setAll_comm {α : Type} : ∀ (l m : List (Nat × α)) (o : List α), (∀ i ∈ l.map Prod.fst, i ∉ m.map Prod.fst) → setAll m (setAll l o) = setAll l (setAll m o)
  | [], _, _, _ => rfl
  | (i, x) :: l, m, o, h => by
    rw [setAll, setAll, setAll_comm l m _ fun j hj => h j (by simp only [List.map_cons, List.mem_cons]; exact .inr hj)]
    rw [setAll_set m o (h i (by simp))]

theorem disjN_spec : ∀ {l m : List Nat}, disjN l m = true → ∀ i ∈ l, i ∉ m
  | [], _, _, i, hi => by simp at hi
  | x :: l, m, h, i, hi => by
    simp only [disjN, Bool.and_eq_true, Bool.not_eq_true'] at h
    rcases List.mem_cons.1 hi with rfl | hi
    · intro hm
      have := memN_iff.2 hm
      rw [h.1] at this
      cases this
    · exact disjN_spec h.2 i hi

theorem look_apply {s : St} {f : Eff} {d : Option Nat} {t : Nat} (h : t ∉ d.toList) : (f.apply d s).look t = s.look t := by
  cases d with
  | none => rfl
  | some d =>
    simp only [Option.toList, List.mem_singleton] at h
    simp [St.look, Eff.apply, List.getD, List.getElem?_set_ne (Ne.symm h)]

theorem like_apply {s : St} {f g : Eff} {d : Option Nat} (ho : ∀ i ∈ g.ro, i ∉ f.ob.map Prod.fst) (hw : ∀ i ∈ g.rw, i ∉ f.ow.map Prod.fst) : Like s (f.apply d s) g where
  slot i hi := setAll_ne _ _ (ho i hi)
  own i hi := setAll_ne _ _ (hw i hi)
  len := setAll_len _ _
theorem like_apply' {s : St} {f g : Eff} {d : Option Nat} (ho : ∀ i ∈ g.ro, i ∉ f.ob.map Prod.fst) (hw : ∀ i ∈ g.rw, i ∉ f.ow.map Prod.fst) : Like (f.apply d s) s g where
  slot i hi := (setAll_ne _ _ (ho i hi)).symm
  own i hi := (setAll_ne _ _ (hw i hi)).symm
  len := (setAll_len _ _).symm

/-- Two operations, one after the other, that touch nothing in common: the other order does the same. -/
theorem swap {ops : List Oper} {x y : Oper} {fx fy : Eff} {s : St} (hap : (footOf ops x fx).apart (footOf ops y fy) = true) (hx : stepK G run ops x s some = some fx) (hy : stepK G run ops y (fx.apply x.dst s) some = some fy) :
    stepK G run ops y s some = some fy ∧ stepK G run ops x (fy.apply y.dst s) some = some fx ∧ fx.apply x.dst (fy.apply y.dst s) = fy.apply y.dst (fx.apply x.dst s) := by
  simp only [Foot.apart, footOf, Bool.and_eq_true] at hap
  obtain ⟨⟨⟨⟨⟨⟨⟨⟨a1, a2⟩, a3⟩, a4⟩, a5⟩, a6⟩, a7⟩, a8⟩, a9⟩ := hap
  have b1 := disjN_spec a1
  have b2 := disjN_spec a2
  have b3 := disjN_spec a3
  have b4 := disjN_spec a4
  have b5 := disjN_spec a5
  have b6 := disjN_spec a6
  have b7 := disjN_spec a7
  have b8 := disjN_spec a8
  have b9 := disjN_spec a9
  refine ⟨step_like (fun t ht => (look_apply fun hd => b1 t hd ht).symm) hy (like_apply' (fun i hi hm => b4 i hm hi) (fun i hi hm => b8 i hm hi)), ?_, ?_⟩
  · exact step_like (fun t ht => look_apply fun hd => b2 t ht hd) hx (like_apply (fun i hi => b5 i hi) (fun i hi => b7 i hi))
  · simp only [Eff.apply, St.mk.injEq]
    refine ⟨?_, ?_, ?_⟩
    · revert b3
      cases x.dst with
      | none => intro _; rfl
      | some d => cases y.dst with
        | none => intro _; rfl
        | some d' =>
          intro b3
          exact List.set_comm _ _ fun e => b3 d (by simp) (by simp [e])
    · exact (setAll_comm _ _ _ b6).symm
    · exact (setAll_comm _ _ _ b9).symm

end Go.Proofs.Ytcpdiahbdmcdcaa.Ev
