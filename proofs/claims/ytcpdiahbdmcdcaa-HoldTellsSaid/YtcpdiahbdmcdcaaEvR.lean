/- Every operation does what the evaluator tells: all together. -/
import Derived.Test.YtcpdiahbdmcdcaaEvQ
namespace Go.Proofs.Ytcpdiahbdmcdcaa.Ev
open Go Go.RowKit

variable {c : Ctx} {gh : Ghost} {s : St} {a : Act} {w : World} {P : Program} {G : Env} {run : Run} {o : Oper} {fx : Eff} {next : Act → World → Prop} {Q : Exit → Act → World → Prop}

theorem capsE_some : ∀ (os : List Operand) (l : List Pt), capsE s os = some l → l.length = os.length ∧ ∀ (i : Nat) p x, l[i]? = some p → os[i]? = some x → s.ope x = .ptr p
  | [], l, h => by simp [capsE] at h; subst h; exact ⟨rfl, by simp⟩
  | o :: os, l, h => by
    simp only [capsE] at h
    split at h
    · rename_i p hp
      obtain ⟨l', hl, rfl⟩ := Option.map_eq_some_iff.1 h
      obtain ⟨h1, h2⟩ := capsE_some os l' hl
      refine ⟨by simp [h1], fun i q x a b => ?_⟩
      cases i with
      | zero => simp at a b; subst a; subst b; exact hp
      | succ i => exact h2 i q x (by simpa using a) (by simpa using b)
    · cases h

theorem map_toArr {α β : Type} (f : α → β) (xs : Array α) : (xs.toList.map f).toArray = xs.map f := by
  apply Array.toList_inj.1
  simp

theorem andThen_twice {α β γ : Type} (m : Result α) (f : α → World → Result β) (g : β → World → Result γ) :
    (m.andThen f).andThen g = m.andThen fun x w => (f x w).andThen g := by
  cases m <;> rfl

theorem move_wp (h : Rel c gh s a w) (hd : dstOk s o.dst = true) (x : Operand) (_hT : TyAll P G)
    (hk : (match x with
    | .tmp i => tell (s.look i) some
    | .const v => bif isNilPtr v then tell .any some else (G.tyOf o.type).bind fun T => (T.const v).bind fun a => constK s o.dst T v a some
    | .func f => tell (.val .fn none (.fn f)) some
    | _ => none) = some fx) (hx : (execOp a.eval o).run P w = .ok (.value (a.eval x)) w)
    (hn : ∀ gh' a' w', Rel c gh' (fx.apply o.dst s) a' w' → next a' w') : o.wp P a w next Q := by
  cases x <;> simp only at hk <;> (try (cases hk; done))
  case tmp i =>
    rw [tell_some hk] at hn
    exact wp_tell h hx (h.tmps i) hd hn
  case const v =>
    cases hb : isNilPtr v
    case true =>
      rw [hb, cond_true] at hk
      rw [tell_some hk] at hn
      exact wp_tell (e := .any) h hx trivial hd hn
    rw [hb, cond_false] at hk
    replace hk := bind_some hk; obtain ⟨T, _, hk⟩ := hk
    replace hk := bind_some hk; obtain ⟨y, hy, hk⟩ := hk
    unfold constK at hk
    split at hk
    · rename_i E
      exact (tellOwn_nil (P := P) (m := pure (.slice none 0 0)) h hd (by simp) hk).wp (by rw [hx]; simp [Act.eval]) hd hn
    · rw [tell_some hk] at hn
      exact wp_tell h hx (.plain (const_rep gh.S hy)) hd hn
  case func f =>
    rw [tell_some hk] at hn
    exact wp_tell (e := .val .fn none (.fn f)) h hx (.plain ⟨[.func (.func f) #[] #[]], (val_one rfl _).symm, f, rfl, rfl⟩) hd hn

theorem ptrTest_some {op : BinOp} {t : TypeId} {x y : Operand} {p : Pt} {b : Bool} (h : ptrTest G s op t x y = some (p, b)) :
    memN t G.ptrs = true ∧ ∃ (_ : Unit) (_ : Unit), s.ope x = .ptr p ∧ y = .const (.pointer none) ∧ (op = .eql ∧ b = false ∨ op = .neq ∧ b = true) := by
  unfold ptrTest at h
  cases hm : memN t G.ptrs with
  | false => rw [hm] at h; cases h
  | true =>
    rw [hm, cond_true] at h
    refine ⟨rfl, (), (), ?_⟩
    split at h
    · rename_i hx
      cases h
      exact ⟨hx, rfl, .inl ⟨rfl, rfl⟩⟩
    · rename_i hx
      cases h
      exact ⟨hx, rfl, .inr ⟨rfl, rfl⟩⟩
    · cases h

theorem run_isNil {t e : TypeId} {a : Addr} {x y : Operand} {op : BinOp} {b : Bool} (he : P.underlying t = some (.pointer e)) (hop : op = .eql ∧ b = false ∨ op = .neq ∧ b = true) :
    (do eqGuard op t x y (.pointer (some a)) (.pointer none); binOp op t (.pointer (some a)) (.pointer none) : Sem Value).run P w = .ok (.bool b) w := by
  have h1 : (Op.equal t (.pointer (some a)) (.pointer none)).run P w = .ok false w := by
    show (Op.equalIn (9999 + 1) t (.pointer (some a)) (.pointer none)).run P w = .ok false w
    rw [Op.equalIn]
    simp only [Sem.run_bind, run_underlying he, Result.andThen_ok]
    rfl
  have hg : (eqGuard op t x y (.pointer (some a)) (.pointer none)).run P w = .ok () w := eqGuard_plain (by intro cs e; cases e) (by intro e; cases e)
  rcases hop with ⟨rfl, rfl⟩ | ⟨rfl, rfl⟩
  · simp only [Sem.run_bind, hg, Result.andThen_ok]
    simp only [binOp, Sem.run_bind, h1, Result.andThen_ok]
    rfl
  · simp only [Sem.run_bind, hg, Result.andThen_ok]
    simp only [binOp, Sem.run_bind, h1, Result.andThen_ok]
    rfl

theorem op_sound (hT : TyAll P G) (hF : FnsOk P G run) (h : Rel c gh s a w) (hd : dstOk s o.dst = true) (hk : opK G run o s some = some fx)
    (hn : ∀ gh' a' w', Rel c gh' (fx.apply o.dst s) a' w' → next a' w') : o.wp P a w next Q := by
  have hP := hT.toEnvOk
  cases ho : o.op <;> simp only [opK, ho] at hk <;> (try (cases hk; done))
  case move x => exact move_wp h hd x hT hk (by simp [execOp, ho]) hn
  case assign x => exact move_wp h hd x hT hk (by simp [execOp, ho]) hn
  case pick cx x y =>
    replace hk := bind_some hk; obtain ⟨u, hu, hk⟩ := hk
    replace hk := bind_some hk; obtain ⟨z, hz, hk⟩ := hk
    obtain ⟨b0, e0, rfl⟩ := (h.opv hu).bool
    rw [tell_some hk] at hn
    cases b0 with
    | true =>
      obtain ⟨b1, e1, rfl⟩ := (h.opv hz).bool
      refine wp_tell (v := .bool b1) h ?_ (.plain (.bool_mk _)) hd hn
      simp only [execOp, ho, e0, e1, asBool, Sem.run_bind, Sem.run_pure, Result.andThen_ok]
      simp
    | false =>
      obtain ⟨b1, e1, rfl⟩ := (h.opv hz).bool
      refine wp_tell (v := .bool b1) h ?_ (.plain (.bool_mk _)) hd hn
      simp only [execOp, ho, e0, e1, asBool, Sem.run_bind, Sem.run_pure, Result.andThen_ok]
      simp
  case alloc t =>
    replace hk := bind_some hk; obtain ⟨T, ht, hk⟩ := hk
    replace hk := cond_some hk; obtain ⟨hf, hk⟩ := hk
    have hz : VRep gh.S T (T.val T.zeroCells) T.zero := ⟨_, rfl, zero_rep gh.S T hf⟩
    refine (tellNew_does (P := P) (t := t) h hd hz hk).wp ?_ hd hn
    simp only [execOp, ho, Instr.alloc, Sem.run_bind, (hP.ty _ _ ht).zero, Result.andThen_ok, Sem.run_pure]
  case box t x =>
    replace hk := bind_some hk; obtain ⟨T, ht, hk⟩ := hk
    replace hk := bind_some hk; obtain ⟨u, hu, hk⟩ := hk
    refine (tellNew_does (P := P) (t := t) h hd (h.opv hu) hk).wp ?_ hd hn
    simp only [execOp, ho, Instr.box, Sem.run_bind, Sem.run_pure]
  case build t ps =>
    replace hk := bind_some hk; obtain ⟨T, ht, hk⟩ := hk
    replace hk := cond_some hk; obtain ⟨hf, hk⟩ := hk
    unfold buildK at hk
    have run : ∀ (m : Sem Value), (do let v ← m; pure (Next.value v) : Sem Next).run P w = (m.run P w).andThen fun v w' => .ok (.value v) w' := fun m => by simp
    cases T <;> simp only at hk <;> (try (cases hk; done))
    case struct fs =>
      replace hk := bind_some hk; obtain ⟨l, hl, hk⟩ := hk
      rw [tell_some hk] at hn
      exact (build_tells hP h ht hf (.inl ⟨fs, l, rfl, hl, rfl⟩)).wp (by simp only [execOp, ho]; exact run _) h hd hn
    case arr n e =>
      replace hk := bind_some hk; obtain ⟨l, hl, hk⟩ := hk
      rw [tell_some hk] at hn
      exact (build_tells hP h ht hf (.inr (.inl ⟨n, e, l, rfl, hl, rfl⟩))).wp (by simp only [execOp, ho]; exact run _) h hd hn
    case blob n =>
      replace hk := bind_some hk; obtain ⟨l, hl, hk⟩ := hk
      rw [tell_some hk] at hn
      exact (build_tells hP h ht hf (.inr (.inr ⟨n, l, rfl, hl, rfl⟩))).wp (by simp only [execOp, ho]; exact run _) h hd hn
  case buildSlice t n ps =>
    replace hk := bind_some hk; obtain ⟨T, ht, hk⟩ := hk
    unfold buildSliceK at hk
    split at hk
    · rename_i E
      replace hk := bind_some hk; obtain ⟨l, hl, hk⟩ := hk
      replace hk := cond_some hk; obtain ⟨hc, hk⟩ := hk
      simp only [Bool.and_eq_true] at hc
      exact (buildSlice_does hP h hd ht hc.2 hl (Nat.le_of_ble_eq_true hc.1) hk).wp (by simp [execOp, ho]) hd hn
    · cases hk
  case load t x =>
    replace hk := bind_some hk; obtain ⟨T, ht, hk⟩ := hk
    unfold loadK at hk
    split at hk
    · rename_i T' y hx
      replace hk := cond_some hk; obtain ⟨hb, hk⟩ := hk
      have := Ty.beq_eq _ _ hb
      subst this
      rw [tell_some hk] at hn
      exact (load_at hP h ht hx).wp (by simp [execOp, ho]) h hd hn
    · rename_i p hx
      replace hk := cond_some hk; obtain ⟨hb, hk⟩ := hk
      have := Ty.beq_eq _ _ hb
      subst this
      replace hk := bind_some hk; obtain ⟨y, hy, hk⟩ := hk
      have hf : fx = ⟨.val p.t none (p.t.co y), [], [], [p.id], []⟩ := by simpa [tellR, eq_comm] using hk
      subst hf
      exact (load_ptr hP h ht hx hy).wp (by simp [execOp, ho]) h hd hn
    · cases hk
  case store t x y =>
    replace hk := bind_some hk; obtain ⟨T, ht, hk⟩ := hk
    unfold storeK at hk
    split at hk
    · rename_i p hx
      replace hk := cond_some hk; obtain ⟨hb, hk⟩ := hk
      have := Ty.beq_eq _ _ hb
      subst this
      replace hk := bind_some hk; obtain ⟨u, hu, hk⟩ := hk
      replace hk := bind_some hk; obtain ⟨z, hz, hk⟩ := hk
      simp only [Option.some.injEq] at hk
      subst hk
      have hv := h.ope x
      rw [hx] at hv
      obtain ⟨ad, w', h1, h2, h3⟩ := h.setPt (P := P) hv (h.opv hu) hz
      have hrun : (execOp a.eval o).run P w = .ok .skip w' := by
        simp [execOp, ho, Instr.storeAt, h1, Instr.sureAddr, h2 t (hP.ty _ _ ht)]
      unfold Oper.wp
      rw [hrun]
      exact hn gh _ _ (h3.put o.dst (e := .undef) (v := undef) rfl hd)
    · cases hk
  case nilCheck x =>
    split at hk
    · rename_i T y hx
      have hv := h.ope x
      rw [hx] at hv
      rw [tell_some hk] at hn
      obtain ⟨p, cs, h1, h2, h3⟩ := hv
      exact wp_tell (e := .at T y) (v := a.eval x) h (by simp [execOp, ho, h1]) ⟨p, cs, h1, h2, h3⟩ hd hn
    · rename_i p hx
      have hv := h.ope x
      rw [hx] at hv
      obtain ⟨ob, hgen, hob, rfl⟩ := liveK_some hk
      obtain ⟨off, k1, k2⟩ := hv.2 hgen ob hob
      exact wp_tell (v := a.eval x) h (by simp [execOp, ho, k2]) hv hd hn
    · cases hk
  case binOp op t x y yt =>
    split at hk
    · rename_i p b hp
      obtain ⟨hm, off, q, hx, hy, hop⟩ := ptrTest_some hp
      have hv := h.ope x
      rw [hx] at hv
      obtain ⟨ob, hgen, hob, rfl⟩ := liveK_some hk
      obtain ⟨off, k1, k2⟩ := hv.2 hgen ob hob
      obtain ⟨e, he⟩ := hT.ptrs t hm
      subst hy
      have hr : (do eqGuard op t x (.const (.pointer none)) (a.eval x) (a.eval (.const (.pointer none))); binOp op t (a.eval x) (a.eval (.const (.pointer none))) : Sem Value).run P w = .ok (.bool b) w := by
        rw [k2]; exact run_isNil he hop
      exact (Tells.mk hr (.plain (.bool_mk _))).wp (by simp [execOp, ho, andThen_twice]) h hd hn
    replace hk := bind_some hk; obtain ⟨T, ht, hk⟩ := hk
    exact (binK_tells hP hT.eq h ht hk).wp (by simp [execOp, ho, andThen_twice]) h hd hn
  case unOp op t x =>
    replace hk := bind_some hk; obtain ⟨T, ht, hk⟩ := hk
    exact (unK_tells h hk).wp (by simp [execOp, ho]) h hd hn
  case convert src dst x =>
    replace hk := bind_some hk; obtain ⟨A, hA, hk⟩ := hk
    replace hk := bind_some hk; obtain ⟨B, hB, hk⟩ := hk
    exact (convK_tells hP h hA hB hk).wp (by simp [execOp, ho]) h hd hn
  case makeFunc F first caps =>
    cases F <;> simp only at hk <;> (try (cases hk; done))
    case func f =>
      replace hk := cond_some hk; obtain ⟨hf, hk⟩ := hk
      have hfe : first = #[] := by simpa using hf
      subst hfe
      cases hce : caps.isEmpty with
      | true =>
        rw [hce, cond_true] at hk
        have hcz : caps = #[] := by simpa using hce
        subst hcz
        rw [tell_some hk] at hn
        exact wp_tell (e := .val .fn none (.fn f)) (v := .func (.func f) #[] #[]) h (by simp [execOp, ho, Instr.makeFunc]) (.plain ⟨[.func (.func f) #[] #[]], (val_one rfl _).symm, f, rfl, rfl⟩) hd hn
      | false =>
        rw [hce, cond_false] at hk
        replace hk := bind_some hk; obtain ⟨l, hl, hk⟩ := hk
        rw [tell_some hk] at hn
        obtain ⟨h1, h2⟩ := capsE_some _ _ hl
        refine wp_tell (e := .clo f l) (v := .func (.func f) #[] (caps.map a.eval)) h (by simp [execOp, ho, Instr.makeFunc]) ⟨caps.toList.map a.eval, by rw [map_toArr], by simp [h1], fun i p u e1 e2 => ?_⟩ hd hn
        rw [List.getElem?_map] at e2
        obtain ⟨x, hx, rfl⟩ := Option.map_eq_some_iff.1 e2
        have hv := h.ope x
        rw [h2 i p x e1 hx] at hv
        exact hv
  case makeSlice t x y =>
    replace hk := bind_some hk; obtain ⟨T, ht, hk⟩ := hk
    replace hk := bind_some hk; obtain ⟨b, hb, hk⟩ := hk
    replace hk := cond_some hk; obtain ⟨hf, hk⟩ := hk
    exact (makeK_does hP h ht hb hf hd hk).wp (by simp [execOp, ho]) hd hn
  case slice t x lo hi mx =>
    replace hk := bind_some hk; obtain ⟨T, ht, hk⟩ := hk
    exact (sliceK_tells hP h ht hk).wp (by simp [execOp, ho]) h hd hn
  case fieldAddr t x i =>
    replace hk := bind_some hk; obtain ⟨T, ht, hk⟩ := hk
    exact (fieldAddrK_tells hP h ht hk).wp (by simp [execOp, ho]) h hd hn
  case field t x i =>
    replace hk := bind_some hk; obtain ⟨T, ht, hk⟩ := hk
    unfold fieldK at hk
    split at hk
    · split at hk
      · rename_i fs F hF
        replace hk := bind_some hk; obtain ⟨u, hu, hk⟩ := hk
        rw [tell_some hk] at hn
        exact (fieldK_tells hP h ht hF hu).wp (by simp [execOp, ho]) h hd hn
      · cases hk
    · cases hk
  case indexAddr t x ix =>
    replace hk := bind_some hk; obtain ⟨T, ht, hk⟩ := hk
    replace hk := bind_some hk; obtain ⟨i, hi, hk⟩ := hk
    exact (indexAddrK_tells hP h ht hi hk).wp (by simp [execOp, ho]) h hd hn
  case index t x ix =>
    replace hk := bind_some hk; obtain ⟨T, ht, hk⟩ := hk
    replace hk := bind_some hk; obtain ⟨i, hi, hk⟩ := hk
    replace hk := bind_some hk; obtain ⟨u, hu, hk⟩ := hk
    exact (indexK_tells hP h ht hi hu hk).wp (by simp [execOp, ho]) h hd hn
  case extract x i =>
    unfold extractK at hk
    split at hk
    · rename_i l hx
      have hv := h.ope x
      rw [hx] at hv
      obtain ⟨vs, h1, h2, h3⟩ := hv
      split at hk
      · rename_i b hb
        rw [tell_some hk] at hn
        obtain ⟨T, y⟩ := b
        have hlt := (List.getElem?_eq_some_iff.1 hb).1
        have hvi : vs[i]? = some (vs[i]'(by omega)) := List.getElem?_eq_getElem (by omega)
        refine wp_tell (v := vs[i]'(by omega)) h ?_ (.plain (h3 i T y _ hb hvi)) hd hn
        simp [execOp, ho, h1, Instr.extract, hvi]
      · cases hk
    · cases hk
  case call cl =>
    cases hcl : cl.callee <;> simp only [hcl] at hk <;> (try (cases hk; done))
    case value F =>
      cases F <;> simp only at hk <;> (try (cases hk; done))
      case tmp t =>
        split at hk
        · rename_i g f hx
          have hv := h.tmps t
          rw [hx] at hv
          obtain ⟨f', hf', hff⟩ := hv.1.fn
          cases hff
          refine callK_wp hF h (cvs := []) ?_ rfl (by simp) hd hk hn
          have this : a.eval (.tmp t) = .func (.func f) #[] #[] := hf'
          rw [map_toArr]
          simp [execOp, ho, resolve, hcl, this, Deferred.ofValue, invoke]
        · rename_i f caps hx
          have hv := h.tmps t
          rw [hx] at hv
          obtain ⟨vs, h1, h2, h3⟩ := hv
          refine callK_wp hF h (cvs := vs) ?_ h2 h3 hd hk hn
          have this : a.eval (.tmp t) = .func (.func f) #[] vs.toArray := h1
          rw [map_toArr]
          simp [execOp, ho, resolve, hcl, this, Deferred.ofValue, invoke]
        · cases hk
      case func f =>
        refine callK_wp hF h (cvs := []) ?_ rfl (by simp) hd hk hn
        rw [map_toArr]
        simp [execOp, ho, resolve, hcl, Act.eval, Deferred.ofValue, invoke]
    case builtin b =>
      have hrun : ∀ m : Sem Value, (execOp a.eval o).run P w = (builtin b cl.argTypes o.type (cl.args.map fun | .const _ => true | _ => false) (cl.args.map a.eval)).run P w := fun m => by
        simp [execOp, ho, resolve, hcl, invoke]
        rfl
      unfold builtinK at hk
      split at hk
      · rename_i t x e1 e2
        replace hk := bind_some hk; obtain ⟨T, ht, hk⟩ := hk
        have h1 : cl.argTypes = #[t] := by rw [← Array.toList_inj]; exact e1
        have h2 : cl.args = #[x] := by rw [← Array.toList_inj]; exact e2
        exact (lenK_tells (rt := o.type) hP h ht hk).wp (by rw [hrun (pure undef), h1, h2]; simp [builtin]) h hd hn
      · replace hk := bind_some hk; obtain ⟨T, ht, hk⟩ := hk
        split at hk
        · replace hk := bind_some hk; obtain ⟨l, hl, hk⟩ := hk
          replace hk := bind_some hk; obtain ⟨r, hr, hk⟩ := hk
          rw [tell_some hk] at hn
          exact (maxK_tells (ts := cl.argTypes) (rt := o.type) h hl hr).wp (by rw [hrun (pure undef)]; simp [builtin]) h hd hn
        · cases hk
      · replace hk := bind_some hk; obtain ⟨T, ht, hk⟩ := hk
        split at hk
        · replace hk := bind_some hk; obtain ⟨l, hl, hk⟩ := hk
          replace hk := bind_some hk; obtain ⟨r, hr, hk⟩ := hk
          rw [tell_some hk] at hn
          exact (minK_tells (ts := cl.argTypes) (rt := o.type) h hl hr).wp (by rw [hrun (pure undef)]; simp [builtin]) h hd hn
        · cases hk
      · rename_i t t' x y e1 e2
        replace hk := bind_some hk; obtain ⟨T, ht, hk⟩ := hk
        replace hk := bind_some hk; obtain ⟨by_, hby, hk⟩ := hk
        obtain ⟨htt, hk4⟩ := cond_some hk
        clear hk
        have := Nat.eq_of_beq_eq_true htt
        subst this
        have h1 : cl.argTypes = #[t, t] := by rw [← Array.toList_inj]; exact e1
        have h2 : cl.args = #[x, y] := by rw [← Array.toList_inj]; exact e2
        cases T <;> simp only at hk4 <;> (try (cases hk4; done))
        case slice e => exact (appendK_does (rt := o.type) hP h ht hby hd hk4).wp (by rw [hrun (pure undef), h1, h2]; simp [builtin]) hd hn
      · rename_i t t' x y e1 e2
        replace hk := bind_some hk; obtain ⟨T, ht, hk⟩ := hk
        replace hk := bind_some hk; obtain ⟨S, ht', hk⟩ := hk
        have h1 : cl.argTypes = #[t, t'] := by rw [← Array.toList_inj]; exact e1
        have h2 : cl.args = #[x, y] := by rw [← Array.toList_inj]; exact e2
        exact (copyK_does (rt := o.type) hP h ht ht' hk).wp (by rw [hrun (pure undef), h1, h2]; simp [builtin]) hd hn
      · cases hk

end Go.Proofs.Ytcpdiahbdmcdcaa.Ev
