/- Every operation does what the evaluator tells. -/
import Derived.Test.YtcpdiahbdmcdcaaEvP
namespace Go.Proofs.Ytcpdiahbdmcdcaa.Ev
open Go Go.RowKit

variable {c : Ctx} {gh : Ghost} {s : St} {a : Act} {w : World} {P : Program} {G : Env} {run : Run}

/-- The table of functions is the program's, and what 'run' answers, calls answer. -/
structure FnsOk (P : Program) (G : Env) (run : Run) : Prop where
  fn : ∀ f i, assoc G.fns f = some i → ∃ fn, P.funcs[f]? = some fn ∧ (fn.name == "runtime.NumGoroutine") = false ∧ fn.body.isNone = false
  sat : ∀ f i xs r, assoc G.fns f = some i → run f xs = some r → Sat P i f xs r

structure TyAll (P : Program) (G : Env) : Prop extends EnvOk P G where
  eq : ∀ t T, G.tyOf t = some T → T.eqOk = true → P.eqGuardType P.depth t = false ∧ T.deep ≤ 9999
  mixed : P.follows .mixedOrders = true
  ptrs : ∀ t, memN t G.ptrs = true → ∃ e, P.underlying t = some (.pointer e)


theorem setAll_append {α : Type} : ∀ (l m : List (Nat × α)) (o : List α), setAll (l ++ m) o = setAll m (setAll l o)
  | [], _, _ => rfl
  | (i, x) :: l, m, o => setAll_append l m (o.set i x)

theorem setAll_len {α : Type} : ∀ (l : List (Nat × α)) (o : List α), (setAll l o).length = o.length
  | [], _ => rfl
  | (i, x) :: l, o => by rw [setAll, setAll_len l]; simp

theorem callK_wp (hF : FnsOk P G run) (h : Rel c gh s a w) {o : Oper} {f : FuncId} {caps : List Pt} {cvs : List Value} {xs : List Operand} {fx : Eff} {next : Act → World → Prop} {Q : Exit → Act → World → Prop}
    (hx : (execOp a.eval o).run P w = (callFunc f ((xs.map a.eval).toArray ++ cvs.toArray)).run P w) (hc : cvs.length = caps.length) (hcap : ∀ (i : Nat) p u, caps[i]? = some p → cvs[i]? = some u → PtRel gh s p u)
    (hd : dstOk s o.dst = true) (hk : callK G run s o.dst f caps xs some = some fx)
    (hn : ∀ gh' a' w', Rel c gh' (fx.apply o.dst s) a' w' → next a' w') : o.wp P a w next Q := by
  unfold callK at hk
  obtain ⟨i, hi, hk⟩ := bind_some hk
  obtain ⟨⟨l, ps⟩, hargs, hk⟩ := bind_some hk
  obtain ⟨hap, hk⟩ := cond_some hk
  obtain ⟨r, hr, hk⟩ := bind_some hk
  obtain ⟨hfresh, hk⟩ := cond_some hk
  rw [outsK_eq] at hk
  obtain ⟨ob, hob, hk⟩ := bind_some hk
  obtain ⟨fn, hf1, hf2, hf3⟩ := hF.fn f i hi
  obtain ⟨hA, hpt, hps⟩ := h.args i.params xs caps cvs l ps hc hcap hargs
  have hnd := apartN_nodup hap
  have hbnd : (ps.map fun p => gh.m p.id).Nodup := by
    have : ∀ (l : List Pt), (l.map Pt.id).Nodup → (∀ p ∈ l, ∃ ob, (s.slot p.id).ob = some ob) → (l.map fun p => gh.m p.id).Nodup := by
      intro l
      induction l with
      | nil => intros; simp
      | cons p l ih =>
        intro h1 h2
        simp only [List.map_cons, List.nodup_cons] at h1 ⊢
        refine ⟨fun hm => ?_, ih h1.2 (fun q hq => h2 q (by simp [hq]))⟩
        obtain ⟨q, hq, e⟩ := List.mem_map.1 hm
        obtain ⟨o1, e1⟩ := h2 p (by simp)
        obtain ⟨o2, e2⟩ := h2 q (by simp [hq])
        have := h.minj q.id p.id o2 o1 e2 e1 e
        exact h1.1 (List.mem_map.2 ⟨q, hq, this⟩)
    exact this ps hnd (fun p hp => by obtain ⟨_, o, q, _⟩ := hps p hp; exact ⟨o, q⟩)
  have hsat := hF.sat f i l r hi hr gh.S w (xs.map a.eval ++ cvs) (ps.map fun p => gh.m p.id) h.agree hA hbnd
  have hrun : (execOp a.eval o).run P w = .ok (.enter f ((xs.map a.eval) ++ cvs).toArray) w := by
    rw [hx]
    have n1 : ¬ fn.name = "runtime.NumGoroutine" := by simpa using hf2
    have n2 : ¬ fn.body = none := fun e => by rw [e] at hf3; cases hf3
    simp [callFunc, run_program, hf1, n1, n2]
  unfold Oper.wp
  rw [hrun, Oper.upon_enter]
  refine hsat.mono fun e w' hpost => ?_
  obtain ⟨S', v, rfl, p1, p2, p3, p4, p5, p6⟩ := hpost
  show next (a.put o.dst v) w'
  rw [← hpt] at p6
  have hslots := outs_slots ps r.outs ob gh.m s.objs hob rfl hnd hps p6
  have hmem : ∀ b, b ∈ (ps.map fun p => gh.m p.id) → ∃ id o, id ∈ ps.map Pt.id ∧ (s.slot id).ob = some o ∧ b = gh.m id := fun b hb => by
    obtain ⟨p, hp, rfl⟩ := List.mem_map.1 hb
    obtain ⟨_, o, q, _⟩ := hps p hp
    exact ⟨p.id, o, List.mem_map.2 ⟨p, hp, rfl⟩, q, rfl⟩
  have hR : Rel c { gh with S := S' } ⟨s.tmps, setAll ob s.objs, s.owns⟩ a w' := by
    refine h.outs p4 (fun b hb => ?_) (fun g b hg hb => ?_) p1 p2 p3 _ hslots.1 (fun id => ?_)
    · obtain ⟨id, o, _, ho, rfl⟩ := hmem b hb
      obtain ⟨_, _, q, _⟩ := h.objs id o ho
      exact q
    · obtain ⟨id, o, _, ho, rfl⟩ := hmem b hb
      exact h.mo id o g _ ho hg rfl
    · by_cases hid : id ∈ ps.map Pt.id
      · obtain ⟨o, y, q1, q2, q3⟩ := (hslots.2 id).2 hid
        have hslot : St.slot ⟨s.tmps, setAll ob s.objs, s.owns⟩ id = ⟨(s.slot id).gen, some ⟨o.t, y⟩⟩ := by
          show (setAll ob s.objs).getD id _ = _
          simp [List.getD, q2]
        rw [hslot]
        refine ⟨rfl, fun o' e => ?_⟩
        simp only [Option.some.injEq] at e
        subst e
        exact ⟨o, q1, rfl, .inr q3⟩
      · have hslot : St.slot ⟨s.tmps, setAll ob s.objs, s.owns⟩ id = s.slot id := by
          show (setAll ob s.objs).getD id _ = _
          simp [List.getD, (hslots.2 id).1 hid, St.slot]
        rw [hslot]
        refine ⟨rfl, fun o' e => ⟨o', e, rfl, .inl ⟨rfl, fun hm => ?_⟩⟩⟩
        obtain ⟨id', o2, hin, ho2, e2⟩ := hmem _ hm
        have := h.minj id id' o' o2 e ho2 e2
        subst this
        exact hid hin
  have hgen : ∀ d, (St.slot ⟨s.tmps, setAll ob s.objs, s.owns⟩ d).gen = (s.slot d).gen := fun d => by
    by_cases hid : d ∈ ps.map Pt.id
    · obtain ⟨o, y, q1, q2, q3⟩ := (hslots.2 d).2 hid
      show ((setAll ob s.objs).getD d _).gen = _
      simp [List.getD, q2]
    · show ((setAll ob s.objs).getD d _).gen = _
      simp [List.getD, (hslots.2 d).1 hid, St.slot]
  have hlive : ∀ id o', (St.slot ⟨s.tmps, setAll ob s.objs, s.owns⟩ id).ob = some o' → gh.m id < w.heap.size := fun id o' ho => by
    have : ∃ o, (s.slot id).ob = some o := by
      by_cases hid : id ∈ ps.map Pt.id
      · obtain ⟨o, y, q1, q2, q3⟩ := (hslots.2 id).2 hid
        exact ⟨o, q1⟩
      · have hslot : St.slot ⟨s.tmps, setAll ob s.objs, s.owns⟩ id = s.slot id := by
          show (setAll ob s.objs).getD id _ = _
          simp [List.getD, (hslots.2 id).1 hid, St.slot]
        rw [hslot] at ho
        exact ⟨o', ho⟩
    obtain ⟨o, ho⟩ := this
    obtain ⟨_, q2, _⟩ := h.objs id o ho
    exact q2.lt
  clear hslots hsat hbnd hA
  have plain : ∀ (T : Ty) (x : AV) (v : Value), VRep S' T v x → EntRel { gh with S := S' } ⟨s.tmps, setAll ob s.objs, s.owns⟩ (.val T none (T.co x)) v := fun T x v hv => by
    obtain ⟨cs, rfl, rr⟩ := hv
    rw [Rep.co_eq _ _ _ rr]
    exact .plain ⟨cs, rfl, rr⟩
  unfold resultK at hk
  split at hk
  · rename_i T hts
    simp only [ResRel, hts] at p5
    obtain ⟨v0, e1, hv, hfr⟩ := p5
    rw [e1] at hk
    simp only [consV, nilV] at hk
    unfold oneK at hk
    split at hk
    · rename_i E d hfr' hdst
      simp only [Option.some.injEq] at hk
      subst hk
      rw [hdst] at hd hn
      obtain ⟨e, he, hown⟩ := hfr (by rw [hfr'] at hfresh; simpa using hfresh)
      cases he
      have hlt : d < s.owns.length := h.dst_own hd
      have hown' : OwnRow c.B S' w' v E.size := by
        rcases hown with h0 | ⟨g, n, cap, cs, q1, q2, q3⟩
        · exact .inl h0
        · exact .inr ⟨g, n, cap, cs, q1, Nat.le_trans h.size q2, q3⟩
      have hvb : ∀ b, v.ownBlock = some b → w.heap.size ≤ b := fun b hb => by
        rcases hown with h0 | ⟨g, n, cap, cs, q1, q2, q3⟩
        · rw [h0] at hb; cases hb
        · rw [q1] at hb
          simp [Value.ownBlock] at hb
          omega
      obtain ⟨gh', r1, r2⟩ := hR.named d hlt (s.own d + 1) (Nat.lt_succ_self _) (e := E) (x := Ty.co (.slice E) v0) hown' (by
          obtain ⟨cs, rfl, rr⟩ := hv
          rw [Rep.co_eq _ _ _ rr]
          exact ⟨cs, rfl, rr⟩)
        (fun g b _ hg hb => h.fresh_τ (hvb b hb) g hg)
        (fun id o' b ho hb e => by
          have := hvb b hb
          have := hlive id o' ho
          simp only at e
          omega)
      rw [hdst]
      exact hn gh' _ _ (r1.put (some d) r2 hd)
    · simp only [Option.some.injEq] at hk
      subst hk
      exact hn _ _ _ (hR.put o.dst (plain _ _ v hv) hd)
  · rename_i T hts
    simp only [ResRel, hts] at p5
    obtain ⟨v0, b, e1, rfl, hB, cs, q1, q2, q3⟩ := p5
    rw [e1] at hk
    simp only [consV, nilV] at hk
    split at hk
    · rename_i d hdst
      simp only [Option.some.injEq] at hk
      subst hk
      rw [hdst] at hd hn
      have hlt : d < (setAll ob s.objs).length := by rw [setAll_len]; exact h.dst_obj hd
      have hco := Rep.co_eq _ _ _ q2
      have hnew := hR.newOb d ((s.slot d).gen + 1) hlt (by rw [hgen]; exact Nat.lt_succ_self _) b ⟨T, T.co v0⟩ ⟨cs, q1, .inl (Nat.le_trans h.size hB), by rw [hco]; exact q2, q3⟩
        (fun id o' ho e => by
          have := hlive id o' ho
          simp only at e
          omega)
        (fun g hg => h.fresh_τ hB g hg)
      have hmid : s.mid ⟨Ent.ptr ⟨T, d, (s.slot d).gen + 1, []⟩, ob ++ [(d, ⟨(s.slot d).gen + 1, some ⟨T, T.co v0⟩⟩)], [], d :: ps.map Pt.id, []⟩ = ⟨s.tmps, (setAll ob s.objs).set d ⟨(s.slot d).gen + 1, some ⟨T, T.co v0⟩⟩, s.owns⟩ := by
        simp only [St.mid, setAll_append]; rfl
      rw [hdst]
      refine hn { gh with S := S', m := upd gh.m d b } _ _ ?_
      rw [Eff.apply_eq, hmid]
      refine hnew.put (some d) ?_ hd
      simp only [EntRel, PtRel]
      show _ ≤ (St.slot ⟨s.tmps, (setAll ob s.objs).set d _, s.owns⟩ d).gen ∧ (_ = (St.slot ⟨s.tmps, (setAll ob s.objs).set d _, s.owns⟩ d).gen → ∀ ob', (St.slot ⟨s.tmps, (setAll ob s.objs).set d _, s.owns⟩ d).ob = some ob' → _)
      rw [slot_set (s := ⟨s.tmps, setAll ob s.objs, s.owns⟩) hlt, if_pos rfl]
      refine ⟨Nat.le_refl _, fun _ ob' hob' => ?_⟩
      simp only [Option.some.injEq] at hob'
      subst hob'
      exact ⟨0, ⟨rfl, rfl⟩, by rw [upd_same]⟩
    · cases hk
  · rename_i hn1 hn2
    rw [tupK_eq] at hk
    obtain ⟨l', hl', hk⟩ := bind_some hk
    simp only [Option.some.injEq] at hk
    subst hk
    have htup : ∃ vs, v = .tuple vs.toArray ∧ TupRel S' i.results vs r.vals := by
      unfold ResRel at p5
      split at p5
      · rename_i t ht
        exact (hn1 t ht).elim
      · rename_i t ht
        exact (hn2 t ht).elim
      · exact p5
    obtain ⟨vs, rfl, ht⟩ := htup
    obtain ⟨k1, k2⟩ := tupE_rel _ _ _ vs hl' ht
    exact hn { gh with S := S' } _ _ (hR.put o.dst (e := .tup l') (v := .tuple vs.toArray) ⟨vs, rfl, k1, k2⟩ hd)

end Go.Proofs.Ytcpdiahbdmcdcaa.Ev
