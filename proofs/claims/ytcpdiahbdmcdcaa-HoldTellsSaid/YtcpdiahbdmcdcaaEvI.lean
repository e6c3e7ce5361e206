/- The operations that tell a value and turn no memory: numbers, strings, comparisons, conversions. -/
import Derived.Test.YtcpdiahbdmcdcaaEvH
namespace Go.Proofs.Ytcpdiahbdmcdcaa.Ev
open Go Go.RowKit

variable {c : Ctx} {gh : Ghost} {s : St} {a : Act} {w : World} {P : Program} {G : Env}

theorem cond_some {α : Type} {b : Bool} {x : Option α} {y : α} (h : (bif b then x else none) = some y) : b = true ∧ x = some y := by
  cases b
  · cases h
  · exact ⟨rfl, h⟩
theorem bind_some {α β : Type} {x : Option α} {f : α → Option β} {y : β} (h : x.bind f = some y) : ∃ z, x = some z ∧ f z = some y := Option.bind_eq_some_iff.1 h
theorem tell_some {e : Ent} {f : Eff} (h : tell e some = some f) : f = ⟨e, [], [], [], []⟩ := by
  simpa [tell, eq_comm] using h

/-- The computation tells a value, and turns nothing. -/
def Tells (P : Program) (gh : Ghost) (s : St) (w : World) (m : Sem Value) (f : Eff) : Prop :=
  ∃ e ro rw' v, f = ⟨e, [], [], ro, rw'⟩ ∧ m.run P w = .ok v w ∧ EntRel gh s e v

theorem Tells.mk {m : Sem Value} {e : Ent} {ro rw' : List Nat} {v : Value} (hr : m.run P w = .ok v w) (he : EntRel gh s e v) : Tells P gh s w m ⟨e, [], [], ro, rw'⟩ := ⟨e, ro, rw', v, rfl, hr, he⟩

theorem Tells.wp {o : Oper} {m : Sem Value} {f : Eff} {next : Act → World → Prop} {Q : Exit → Act → World → Prop} (t : Tells P gh s w m f) (ho : (execOp a.eval o).run P w = (m.run P w).andThen fun v w' => .ok (.value v) w')
    (h : Rel c gh s a w) (hd : dstOk s o.dst = true) (hn : ∀ gh' a' w', Rel c gh' (f.apply o.dst s) a' w' → next a' w') : o.wp P a w next Q := by
  obtain ⟨e, ro, rw', v, rfl, hr, he⟩ := t
  exact wp_tell h (by rw [ho, hr]; rfl) he hd hn

/- binary operations -/
theorem eqGuard_plain {op : BinOp} {t : TypeId} {x y : Operand} {u v : Value} (h : ∀ cs, u ≠ .agg cs) (h' : u ≠ .nilIface) : (eqGuard op t x y u v).run P w = .ok () w := by
  unfold eqGuard
  cases op <;> simp <;> (split <;> simp_all)

theorem intOp_run {op : BinOp} {k : IntKind} {n m r : Int} (t : TypeId) (h : intOp k op n m = some r) (hsh : op ≠ .shl ∧ op ≠ .shr) : (binOp op t (.int k n) (.int k m)).run P w = .ok (.int k r) w ∧ (Lit.int k r).wf = true := by
  cases op <;> simp [intOp] at h <;> subst h <;> refine ⟨?_, wrap_wf _ _⟩ <;> simp [binOp, Op.intArith, Op.intBits]

theorem cmpOp_run {op : BinOp} {k : IntKind} {n m : Int} {r : Bool} (t : TypeId) (h : cmpOp op n m = some r) : (binOp op t (.int k n) (.int k m)).run P w = .ok (.bool r) w := by
  cases op <;> simp only [cmpOp] at h <;> (try (cases h; done)) <;> injection h with h <;> subst h <;> simp [binOp, Op.intCmp] <;> first | done | rfl | (by_cases e : n = m <;> simp [e])

theorem binK_tells (hP : EnvOk P G) (hq : ∀ t T, G.tyOf t = some T → T.eqOk = true → P.eqGuardType P.depth t = false ∧ T.deep ≤ 9999) (h : Rel c gh s a w) {op : BinOp} {t : TypeId} {T : Ty} {x y : Operand} {f : Eff} (ht : G.tyOf t = some T)
    (hk : binK s op T x y some = some f) : Tells P gh s w (do eqGuard op t x y (a.eval x) (a.eval y); binOp op t (a.eval x) (a.eval y)) f := by
  have hT := hP.ty t T ht
  cases T with
  | int k =>
    simp only [binK] at hk
    have shift : ∀ (n m : Int) (r : Int), a.eval x = .int k n → (∃ k', a.eval y = .int k' m) → (op = .shl ∧ r = k.wrap (n * 2 ^ (min m.toNat k.bits)) ∨ op = .shr ∧ r = n.fdiv (2 ^ (min m.toNat k.bits))) → 0 ≤ m →
        (do eqGuard op t x y (a.eval x) (a.eval y); binOp op t (a.eval x) (a.eval y) : Sem Value).run P w = .ok (.int k r) w := by
      rintro n m r hx ⟨k', hy⟩ hr h0
      have h1 : ¬ m < 0 := by omega
      rw [hx, hy]
      rcases hr with ⟨rfl, rfl⟩ | ⟨rfl, rfl⟩ <;> simp [eqGuard, binOp, Op.shift, h1]
    have arith : ∀ (n m r : Int), a.eval x = .int k n → a.eval y = .int k m → (op = .quo ∧ r = k.wrap (n.tdiv m) ∨ op = .rem ∧ r = n.tmod m) → m ≠ 0 →
        (do eqGuard op t x y (a.eval x) (a.eval y); binOp op t (a.eval x) (a.eval y) : Sem Value).run P w = .ok (.int k r) w := by
      intro n m r hx hy hr h0
      rw [hx, hy]
      rcases hr with ⟨rfl, rfl⟩ | ⟨rfl, rfl⟩ <;> simp [eqGuard, binOp, Op.intDiv, h0]
    by_cases hshl : op = .shl
    · subst hshl
      simp only at hk
      obtain ⟨u, hu, hk⟩ := bind_some hk
      obtain ⟨m, hm, hk⟩ := bind_some hk
      obtain ⟨h0, hk⟩ := cond_some hk
      obtain ⟨n, hx, rfl, wf⟩ := (h.opv hu).int
      rw [tell_some hk]
      exact .mk (shift n m _ hx (h.opi hm) (.inl ⟨rfl, rfl⟩) (by simpa using h0)) (.plain (.int_mk (wrap_wf _ _)))
    by_cases hshr : op = .shr
    · subst hshr
      simp only at hk
      obtain ⟨u, hu, hk⟩ := bind_some hk
      obtain ⟨m, hm, hk⟩ := bind_some hk
      obtain ⟨h0, hk⟩ := cond_some hk
      obtain ⟨n, hx, rfl, wf⟩ := (h.opv hu).int
      rw [tell_some hk]
      exact .mk (shift n m _ hx (h.opi hm) (.inr ⟨rfl, rfl⟩) (by simpa using h0)) (.plain (.int_mk (fdiv_wf _ wf)))
    by_cases hquo : op = .quo
    · subst hquo
      simp only at hk
      obtain ⟨u, hu, hk⟩ := bind_some hk
      obtain ⟨v, hv, hk⟩ := bind_some hk
      obtain ⟨h0, hk⟩ := cond_some hk
      obtain ⟨n, hx, rfl, wf⟩ := (h.opv hu).int
      obtain ⟨m, hy, rfl, wf'⟩ := (h.opv hv).int
      rw [tell_some hk]
      exact .mk (arith n m _ hx hy (.inl ⟨rfl, rfl⟩) (by intro e; simp [AV.toInt, e] at h0)) (.plain (.int_mk (wrap_wf _ _)))
    by_cases hrem : op = .rem
    · subst hrem
      simp only at hk
      obtain ⟨u, hu, hk⟩ := bind_some hk
      obtain ⟨v, hv, hk⟩ := bind_some hk
      obtain ⟨h0, hk⟩ := cond_some hk
      obtain ⟨n, hx, rfl, wf⟩ := (h.opv hu).int
      obtain ⟨m, hy, rfl, wf'⟩ := (h.opv hv).int
      rw [tell_some hk]
      exact .mk (arith n m _ hx hy (.inr ⟨rfl, rfl⟩) (by intro e; simp [AV.toInt, e] at h0)) (.plain (.int_mk (tmod_wf _ wf)))
    have hk' : ((s.opv (.int k) x).bind fun a => (s.opv (.int k) y).bind fun b =>
        match intOp k op a.toInt b.toInt with
        | some r => tell (.val (.int k) none (.int r)) some
        | none => match cmpOp op a.toInt b.toInt with
          | some r => tell (.val .bool none (.bool r)) some
          | none => none) = some f := by
      cases op <;> first | exact hk | contradiction
    clear hk
    obtain ⟨u, hu, hk⟩ := bind_some hk'
    obtain ⟨v, hv, hk⟩ := bind_some hk
    obtain ⟨n, hx, rfl, wf⟩ := (h.opv hu).int
    obtain ⟨m, hy, rfl, wf'⟩ := (h.opv hv).int
    simp only [AV.toInt] at hk
    have hg : (eqGuard op t x y (a.eval x) (a.eval y)).run P w = .ok () w := eqGuard_plain (by rw [hx]; intro cs e; cases e) (by rw [hx]; intro e; cases e)
    split at hk
    · rename_i r hr
      have hi := intOp_run (P := P) (w := w) t hr ⟨hshl, hshr⟩
      rw [tell_some hk]
      exact .mk (by simp only [Sem.run_bind, hg, Result.andThen_ok]; rw [hx, hy]; exact hi.1) (.plain (.int_mk hi.2))
    · split at hk
      · rename_i r hr
        rw [tell_some hk]
        exact .mk (by simp only [Sem.run_bind, hg, Result.andThen_ok]; rw [hx, hy]; exact cmpOp_run t hr) (.plain (.bool_mk _))
      · cases hk
  | str =>
    simp only [binK] at hk
    obtain ⟨u, hu, hk⟩ := bind_some hk
    obtain ⟨v, hv, hk⟩ := bind_some hk
    obtain ⟨n, hx, rfl, wf⟩ := (h.opv hu).str
    obtain ⟨m, hy, rfl, wf'⟩ := (h.opv hv).str
    have hg : (eqGuard op t x y (a.eval x) (a.eval y)).run P w = .ok () w := eqGuard_plain (by rw [hx]; intro cs e; cases e) (by rw [hx]; intro e; cases e)
    simp only [AV.toStr] at hk
    by_cases hadd : op = .add
    · subst hadd
      simp only at hk
      obtain ⟨h0, hk⟩ := cond_some hk
      have h0 := Nat.le_of_ble_eq_true h0
      rw [tell_some hk]
      refine .mk (v := .string ⟨(n ++ m).toArray⟩) ?_ (.plain (.str_mk (by simpa using h0)))
      simp only [Sem.run_bind, hg, Result.andThen_ok]
      rw [hx, hy]
      simp only [binOp]
      rw [run_string_add_sum _ _ _ (by simp only [ByteArray.size, List.size_toArray]; simp only [maxLen] at h0; omega), ByteArray.mk_append_mk]
    · have hk' : (match strCmp op n m with
        | some r => tell (.val .bool none (.bool r)) some
        | none => none) = some f := by
        cases op <;> first | exact hk | contradiction
      clear hk
      cases op <;> simp only [strCmp] at hk' <;> (try (cases hk'; done))
      · rw [tell_some hk']
        refine .mk (v := .bool (decide (n = m))) ?_ (.plain (.bool_mk _))
        simp only [Sem.run_bind, hg, Result.andThen_ok]
        rw [hx, hy]
        simp only [binOp, Op.stringOp, toList_mk]
        by_cases e : n = m <;> simp [e]
      · rw [tell_some hk']
        refine .mk (v := .bool (!decide (n = m))) ?_ (.plain (.bool_mk _))
        simp only [Sem.run_bind, hg, Result.andThen_ok]
        rw [hx, hy]
        simp only [binOp, Op.stringOp, toList_mk]
        by_cases e : n = m <;> simp [e]
  | bool =>
    simp only [binK, eqK] at hk
    obtain ⟨ho, hk⟩ := cond_some hk
    obtain ⟨u, hu, hk⟩ := bind_some hk
    obtain ⟨v, hv, hk⟩ := bind_some hk
    obtain ⟨n, hx, rfl⟩ := (h.opv hu).bool
    obtain ⟨m, hy, rfl⟩ := (h.opv hv).bool
    have hg : (eqGuard op t x y (a.eval x) (a.eval y)).run P w = .ok () w := eqGuard_plain (by rw [hx]; intro cs e; cases e) (by rw [hx]; intro e; cases e)
    have he := run_equalIn_bool' (P := P) w 9999 t n m hT.2
    cases op <;> simp only at hk <;> (try (cases hk; done))
    · rw [tell_some hk]
      refine .mk (v := .bool (eqT .bool (.bool n) (.bool m))) ?_ (.plain (.bool_mk _))
      simp only [Sem.run_bind, hg, Result.andThen_ok]
      rw [hx, hy]
      simp only [binOp, Op.equal, Op.maxDepth, Sem.run_bind, he, Result.andThen_ok]
      cases n <;> cases m <;> rfl
    · rw [tell_some hk]
      refine .mk (v := .bool (!eqT .bool (.bool n) (.bool m))) ?_ (.plain (.bool_mk _))
      simp only [Sem.run_bind, hg, Result.andThen_ok]
      rw [hx, hy]
      simp only [binOp, Op.equal, Op.maxDepth, Sem.run_bind, he, Result.andThen_ok]
      cases n <;> cases m <;> rfl
  | blob n => exact agg rfl h ht (by simpa only [binK] using hk)
  | struct fs => exact agg rfl h ht (by simpa only [binK] using hk)
  | arr n e => simp [binK, eqK, Ty.eqOk] at hk
  | slice e => simp [binK, eqK, Ty.eqOk] at hk
  | fn => simp [binK, eqK, Ty.eqOk] at hk
where
  agg {T : Ty} (ha : T.isAgg = true) (h : Rel c gh s a w) (ht : G.tyOf t = some T)
    (hk : eqK s op T x y some = some f) : Tells P gh s w (do eqGuard op t x y (a.eval x) (a.eval y); binOp op t (a.eval x) (a.eval y)) f := by
    unfold eqK at hk
    obtain ⟨ho, hk⟩ := cond_some hk
    obtain ⟨u, hu, hk⟩ := bind_some hk
    obtain ⟨v, hv, hk⟩ := bind_some hk
    obtain ⟨cs, hx, rx⟩ := (h.opv hu).agg ha
    obtain ⟨ds, hy, ry⟩ := (h.opv hv).agg ha
    obtain ⟨hgt, hdeep⟩ := hq t T ht ho
    have he := run_eqT (P := P) (w := w) T t cs ds u v 9999 (hP.ty t T ht) ho hdeep rx ry
    simp only [Ty.val, ha, if_true] at he
    cases op <;> simp only at hk <;> (try (cases hk; done))
    · rw [tell_some hk]
      refine .mk (v := .bool (eqT T u v)) ?_ (.plain (.bool_mk _))
      rw [hx, hy]
      simp only [Sem.run_bind, run_eqGuard_agg w _ t x y _ _ hgt, Result.andThen_ok, run_eql_struct, he]
    · rw [tell_some hk]
      refine .mk (v := .bool (!eqT T u v)) ?_ (.plain (.bool_mk _))
      rw [hx, hy]
      simp only [Sem.run_bind, run_eqGuard_agg w _ t x y _ _ hgt, Result.andThen_ok, run_neq_struct, he]

theorem unK_tells (h : Rel c gh s a w) {op : UnOp} {T : Ty} {x : Operand} {f : Eff} (hk : unK s op T x some = some f) : Tells P gh s w (Op.unary op (a.eval x)) f := by
  unfold unK at hk
  obtain ⟨u, hu, hk⟩ := bind_some hk
  split at hk
  · obtain ⟨b, hx, rfl⟩ := (h.opv hu).bool
    rw [tell_some hk]
    exact .mk (by rw [hx]; simp [Op.unary]; rfl) (.plain (.bool_mk _))
  · obtain ⟨n, hx, rfl, _⟩ := (h.opv hu).int
    rw [tell_some hk]
    exact .mk (by rw [hx]; simp [Op.unary, Op.intArith]; rfl) (.plain (.int_mk (wrap_wf _ _)))
  · obtain ⟨n, hx, rfl, _⟩ := (h.opv hu).int
    rw [tell_some hk]
    exact .mk (by rw [hx]; simp [Op.unary, Op.intBits]; rfl) (.plain (.int_mk (wrap_wf _ _)))
  · cases hk

end Go.Proofs.Ytcpdiahbdmcdcaa.Ev
