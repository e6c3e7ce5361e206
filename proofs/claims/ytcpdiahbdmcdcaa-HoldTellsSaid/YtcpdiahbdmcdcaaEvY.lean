/- What the evaluator tells of a function, the function does. -/
import Derived.Test.YtcpdiahbdmcdcaaEvX
namespace Go.Proofs.Ytcpdiahbdmcdcaa.Ev
open Go Go.RowKit

variable {c : Ctx} {gh : Ghost} {s : St} {a : Act} {w : World} {P : Program} {G : Env} {run : Run}

theorem argsRel_len {S : Snap} : ∀ (ts : List PTy) (vs : List Value) (xs : List AV) (bs : List Nat), ArgsRel S w ts vs xs bs → bs.length = (ptrTys ts).length
  | [], _, _, _, h => by rw [h.2.2]; rfl
  | .val t :: ts, vs, xs, bs, h => by
    obtain ⟨v, vs', x, xs', rfl, rfl, _, h⟩ := h
    exact argsRel_len ts vs' xs' bs h
  | .ptr t :: ts, vs, xs, bs, h => by
    obtain ⟨v, vs', x, xs', b, bs', rfl, rfl, rfl, _, _, h⟩ := h
    simp [ptrTys, argsRel_len ts vs' xs' bs' h]

/-- The variables that were handed over, at the end. -/
theorem outs_rel (h : Rel c gh s a w) : ∀ (ts : List PTy) (k : Nat) (bs : List Nat) (os : List AV), outsOf s k ts = some os → bs.length = (ptrTys ts).length → (∀ j b, fixOf k ts bs j = some b → c.fx j = some b) →
    OutsRel gh.S w (ptrTys ts) os bs ∧ ∀ b ∈ bs, ∃ j, j < k + ts.length ∧ ∃ ob, (s.slot j).ob = some ob ∧ gh.m j = b
  | [], k, bs, os, e, hl, _ => by
    cases e
    have : bs = [] := List.eq_nil_of_length_eq_zero hl
    subst this
    exact ⟨⟨rfl, rfl⟩, by simp⟩
  | .val t :: ts, k, bs, os, e, hl, hf => by
    obtain ⟨h1, h2⟩ := outs_rel h ts (k + 1) bs os e hl fun j b hj => hf j b hj
    refine ⟨h1, fun b hb => ?_⟩
    obtain ⟨j, hj, r⟩ := h2 b hb
    exact ⟨j, by simp only [List.length_cons]; omega, r⟩
  | .ptr t :: ts, k, bs, os, e, hl, hf => by
    cases bs with
    | nil => simp [ptrTys] at hl
    | cons b bs =>
      simp only [outsOf] at e
      obtain ⟨ob, hob, e⟩ := bind_some e
      obtain ⟨hb, e⟩ := cond_some e
      obtain ⟨os', hos, rfl⟩ := Option.map_eq_some_iff.1 e
      obtain ⟨hgen, hob⟩ := obAt_some hob
      simp only at hgen hob
      have hm : gh.m k = b := h.fix k b (hf k b (by simp [fixOf])) hgen.symm ob hob
      obtain ⟨h1, h2⟩ := outs_rel h ts (k + 1) bs os' hos (by simpa [ptrTys] using hl) fun j b' hj => hf j b' (by
        have := (fixOf_mem _ _ _ _ _ hj).1
        simp only [fixOf]
        rw [if_neg (by omega)]
        exact hj)
      have ht := Ty.beq_eq _ _ hb
      obtain ⟨cs, q1, q2, q3, q4⟩ := h.objs k ob hob
      refine ⟨⟨_, _, _, _, rfl, rfl, ⟨cs, by rw [← hm]; exact q1, ?_, by rw [← hm]; exact q4⟩, h1⟩, fun b' hb' => ?_⟩
      · rw [ht] at q3
        rw [Rep.co_eq _ _ _ q3]
        exact q3
      · rcases List.mem_cons.1 hb' with rfl | hb'
        · exact ⟨k, by simp only [List.length_cons]; omega, ob, hob, hm⟩
        · obtain ⟨j, hj, r⟩ := h2 b' hb'
          exact ⟨j, by simp only [List.length_cons]; omega, r⟩

theorem outs_freeze {S : Snap} {F : Nat → Prop} : ∀ (ts : List Ty) (os : List AV) (bs : List Nat), OutsRel S w ts os bs → (∀ b ∈ bs, ¬ F b) → OutsRel (S.freeze w F) w ts os bs
  | [], _, _, h, _ => h
  | t :: ts, os, bs, h, hb => by
    obtain ⟨y, ys, b, bs', rfl, rfl, ⟨cs, q1, q2, q3⟩, h⟩ := h
    exact ⟨y, ys, b, bs', rfl, rfl, ⟨cs, q1, Rep.mono (freeze_le _ _ _) _ _ _ q2, freeze_off q3 (hb b (by simp))⟩, outs_freeze ts ys bs' h fun b' hb' => hb b' (by simp [hb'])⟩

structure FnOk (P : Program) (f : FuncId) (i : FnInfo) (fn : Func) : Prop where
  at_ : P.funcs[f]? = some fn
  body : fn.body = some i.body
  results : fn.results.toList = i.rvars
  ntmps : fn.ntmps = i.ntmps
  params : i.params.length ≤ i.ntmps
  name : (fn.name == "runtime.NumGoroutine") = false

theorem fn_sat {f : FuncId} {i : FnInfo} {fn : Func} {xs : List AV} {r : Res} {n : Nat} (hT : TyAll P G) (hF : FnsOk P G run) (hi : FnOk P f i fn) (hk : evalK G run n i.keep 0 i.body (retE G i) (i.start xs) = some r) : Sat P i f xs r := by
  intro S0 w0 vs bs ha hargs hnd
  refine calls_of_wp hi.at_ hi.body ?_
  obtain ⟨gh, hrel⟩ := start_rel ha hargs hnd hi.params
  rw [hi.ntmps]
  refine evalK_sound hT hF n i.keep i.body 0 (retE G i) _ gh _ _ w0 hrel hk fun ex s' gh' a' w' h hk' => ?_
  have main : ((resE G s' i.params.length i.results i.rvars).bind fun l => (outsOf s' 0 i.params).bind fun os => bif !i.fresh || freshE s' i.rvars then some (⟨l.1, os, i.fresh⟩ : Res) else none) = some r →
      a'.defers = [] ∧ ∃ v, (results fn a'.tmps).run P w' = .ok v w' ∧ ∃ S v', Ending.returned v = .returned v' ∧ S0.le S ∧ (∀ p u, S p = some u → S0 p = some u ∨ w0.heap.size ≤ p.block) ∧ (∀ p u, S p = some u → w'.cell? p = some u) ∧
      Keep w0.heap.size bs w0 w' ∧ ResRel S w' w0.heap.size i.results r v' ∧ OutsRel S w' (ptrTys i.params) r.outs bs := by
    intro e
    refine ⟨h.defers, ?_⟩
    obtain ⟨⟨l, ids⟩, hres, e⟩ := bind_some e
    obtain ⟨os, hos, e⟩ := bind_some e
    obtain ⟨hfr, e⟩ := cond_some e
    cases e
    obtain ⟨h1, h2⟩ := outs_rel h i.params 0 bs os hos (argsRel_len _ _ _ _ hargs) fun j b hj => hj
    have hnb : ∀ id ob, i.params.length ≤ id → (s'.slot id).ob = some ob → w0.heap.size ≤ gh'.m id := fun id ob hid hob => by
      obtain ⟨cs, q1, q2, q3, q4⟩ := h.objs id ob hob
      rcases q2 with q2 | q2
      · exact q2
      · obtain ⟨j, hj, ob', hob', hm⟩ := h2 _ q2
        have := h.minj j id ob' ob hob' hob hm
        omega
    rw [← hi.results] at hres hfr
    obtain ⟨⟨v, k1, k2⟩, k3⟩ := res_rel hT.toEnvOk h hres os i.fresh hfr hnb
    refine ⟨v, k1, gh'.S.freeze w' (Named gh' s' ids), v, rfl, Snap.le_trans h.le (freeze_le _ _ _), fun p u hp => ?_, fun p u hp => ?_, h.keep, k2, outs_freeze _ _ _ h1 ?_⟩
    · rcases freeze_new hp with hp | ⟨⟨id, hid, ob, hob, hm⟩, _⟩
      · exact h.new p u hp
      · rw [← hm]; exact .inr (hnb id ob (k3 id hid) hob)
    · rcases freeze_new hp with hp | ⟨_, hp⟩
      · exact h.agree p u hp
      · exact hp
    · rintro b hb ⟨id, hid, ob, hob, hm⟩
      obtain ⟨j, hj, ob', hob', hm'⟩ := h2 b hb
      have := h.minj j id ob' ob hob' hob (by rw [hm', hm])
      have := k3 id hid
      omega
  cases ex with
  | normal => exact main hk'
  | ret => exact main hk'
  | exit id => cases hk'

/-- What stands in the list of functions. -/
def FnsAll (P : Program) : List (FuncId × FnInfo) → Prop
  | [] => True
  | (f, i) :: r => (∃ fn, FnOk P f i fn) ∧ FnsAll P r

theorem FnsAll.get : ∀ {l : List (FuncId × FnInfo)} {f : FuncId} {i : FnInfo}, FnsAll P l → assoc l f = some i → ∃ fn, FnOk P f i fn
  | [], _, _, _, e => by cases e
  | (g, j) :: r, f, i, h, e => by
    simp only [assoc] at e
    cases hb : Nat.beq g f with
    | true =>
      rw [hb, cond_true] at e
      cases e
      rw [← Nat.eq_of_beq_eq_true hb]
      exact h.1
    | false =>
      rw [hb, cond_false] at e
      exact FnsAll.get h.2 e

theorem runE_sound {ext : Run} (hT : TyAll P G) (hA : FnsAll P G.fns) (hext : ∀ f i xs r, assoc G.fns f = some i → ext f xs = some r → Sat P i f xs r) : ∀ n, FnsOk P G (runE G ext n)
  | 0 => by
    refine ⟨fun f i e => ?_, hext⟩
    obtain ⟨fn, h⟩ := hA.get e
    exact ⟨fn, h.at_, h.name, by rw [h.body]; rfl⟩
  | n + 1 => by
    have ih := runE_sound hT hA hext n
    refine ⟨ih.fn, fun f i xs r e hk => ?_⟩
    obtain ⟨fn, h⟩ := hA.get e
    simp only [runE, e] at hk
    cases hx : i.ext with
    | true =>
      rw [hx, cond_true] at hk
      exact hext f i xs r e hk
    | false =>
      rw [hx, cond_false] at hk
      exact fn_sat hT ih h hk

/- a check of the types that is run -/
def eqCell : Value → Value → Bool
  | .bool a, .bool b => cond a b (!b)
  | .int j m, .int k n => Nat.beq (kindNo j) (kindNo k) && decide (m = n)
  | .string a, .string b => decide (a.data.toList = b.data.toList)
  | .slice none 0 0, .slice none 0 0 => true
  | .nilFunc, .nilFunc => true
  | _, _ => false

theorem eqCell_eq {u v : Value} (h : eqCell u v = true) : u = v := by
  unfold eqCell at h
  split at h
  · rename_i a b
    cases a <;> cases b <;> first | rfl | cases h
  · rename_i j m k n
    simp only [Bool.and_eq_true, decide_eq_true_eq] at h
    rw [kindNo_inj (Nat.eq_of_beq_eq_true h.1), h.2]
  · rename_i a b
    have := of_decide_eq_true h
    obtain ⟨⟨a⟩⟩ := a
    obtain ⟨⟨b⟩⟩ := b
    simp only at this
    rw [this]
  · rfl
  · rfl
  · cases h

def eqCells : List Value → List Value → Bool
  | [], l => l.isEmpty
  | u :: us, l => match l with
    | [] => false
    | v :: vs => eqCell u v && eqCells us vs

theorem eqCells_eq : ∀ {us vs : List Value}, eqCells us vs = true → us = vs
  | [], vs, h => by
    cases vs with
    | nil => rfl
    | cons v vs => cases h
  | u :: us, [], h => by cases h
  | u :: us, v :: vs, h => by
    simp only [eqCells, Bool.and_eq_true] at h
    rw [eqCell_eq h.1, eqCells_eq h.2]

def eqZero (T : Ty) (v : Value) : Bool := bif T.isAgg then (match v with | .agg cs => eqCells cs.toList T.zeroCells | _ => false) else eqCell v (T.zeroCells.headD (.tuple #[]))

theorem eqZero_eq {T : Ty} {v : Value} (h : eqZero T v = true) : v = T.val T.zeroCells := by
  unfold eqZero at h
  unfold Ty.val
  cases ha : T.isAgg with
  | true =>
    rw [ha, cond_true] at h
    cases v <;> simp only at h <;> (try (cases h; done))
    rw [← eqCells_eq h]
    simp
  | false =>
    rw [ha, cond_false] at h
    simpa using eqCell_eq h

def chkBase (P : Program) (T : Ty) (t : TypeId) : Bool := match P.info? t with
  | none => false
  | some i => Nat.beq i.size T.size && (match i.zero with | some v => eqZero T v | none => false)

theorem chkBase_ok {T : Ty} {t : TypeId} (h : chkBase P T t = true) : TBase P T t := by
  unfold chkBase at h
  split at h
  · cases h
  · rename_i i hi
    simp only [Bool.and_eq_true] at h
    refine ⟨i, hi, Nat.eq_of_beq_eq_true h.1, ?_⟩
    cases hz : i.zero with
    | none => rw [hz] at h; cases h.2
    | some v =>
      rw [hz] at h
      rw [eqZero_eq h.2]

mutual
def chkTy (P : Program) : Ty → TypeId → Bool
  | .bool, t => chkBase P .bool t && (match P.underlying t with | some .bool => true | _ => false)
  | .int k, t => chkBase P (.int k) t && (match P.underlying t with | some (.int k') => Nat.beq (kindNo k') (kindNo k) | _ => false)
  | .str, t => chkBase P .str t && (match P.underlying t with | some .string => true | _ => false)
  | .blob n, t => chkBase P (.blob n) t && (match P.underlying t with | some (.array m e) => Nat.beq m n && (match P.underlying e with | some (.int .u8) => chkBase P (.int .u8) e | _ => false) | _ => false)
  | .arr n E, t => chkBase P (.arr n E) t && (match P.underlying t with | some (.array m e) => Nat.beq m n && chkTy P E e | _ => false)
  | .struct Fs, t => chkBase P (.struct Fs) t && (!P.stoodInHeld t && (match P.underlying t with | some (.struct fs) => chkTyL P Fs fs.toList 0 | _ => false))
  | .slice E, t => chkBase P (.slice E) t && (Nat.blt 0 E.size && (match P.underlying t with | some (.slice e) => chkTy P E e | _ => false))
  | .fn, t => chkBase P .fn t && (match P.underlying t with | some (.func _ _ _) => true | _ => false)
def chkTyL (P : Program) : List Ty → List Field → Nat → Bool
  | [], fs, _ => fs.isEmpty
  | T :: Ts, fs, off => match fs with
    | [] => false
    | f :: r => Nat.beq f.offset off && (!(f.name == "_") && (Nat.blt 0 T.size && (chkTy P T f.type && chkTyL P Ts r (off + T.size))))
end

mutual
theorem chkTy_ok : ∀ (T : Ty) (t : TypeId), chkTy P T t = true → TyOk P T t
  | .bool, t, h => by
    simp only [chkTy, Bool.and_eq_true] at h
    refine ⟨chkBase_ok h.1, ?_⟩
    have h2 := h.2
    split at h2
    · assumption
    · cases h2
  | .int k, t, h => by
    simp only [chkTy, Bool.and_eq_true] at h
    refine ⟨chkBase_ok h.1, ?_⟩
    have h2 := h.2
    split at h2
    · rename_i k' e
      rw [e, kindNo_inj (Nat.eq_of_beq_eq_true h2)]
    · cases h2
  | .str, t, h => by
    simp only [chkTy, Bool.and_eq_true] at h
    refine ⟨chkBase_ok h.1, ?_⟩
    have h2 := h.2
    split at h2
    · assumption
    · cases h2
  | .blob n, t, h => by
    simp only [chkTy, Bool.and_eq_true] at h
    refine ⟨chkBase_ok h.1, ?_⟩
    have h2 := h.2
    split at h2
    · rename_i m e he
      simp only [Bool.and_eq_true] at h2
      have hm := Nat.eq_of_beq_eq_true h2.1
      subst hm
      have h3 := h2.2
      split at h3
      · rename_i hu
        exact ⟨e, he, hu, chkBase_ok h3⟩
      · cases h3
    · cases h2
  | .arr n E, t, h => by
    simp only [chkTy, Bool.and_eq_true] at h
    refine ⟨chkBase_ok h.1, ?_⟩
    have h2 := h.2
    split at h2
    · rename_i m e he
      simp only [Bool.and_eq_true] at h2
      have hm := Nat.eq_of_beq_eq_true h2.1
      subst hm
      exact ⟨e, he, chkTy_ok E e h2.2⟩
    · cases h2
  | .struct Fs, t, h => by
    simp only [chkTy, Bool.and_eq_true, Bool.not_eq_true'] at h
    refine ⟨chkBase_ok h.1, h.2.1, ?_⟩
    have h2 := h.2.2
    split at h2
    · rename_i fs he
      exact ⟨fs, he, chkTyL_ok Fs fs.toList 0 h2⟩
    · cases h2
  | .slice E, t, h => by
    simp only [chkTy, Bool.and_eq_true] at h
    refine ⟨chkBase_ok h.1, Nat.le_of_ble_eq_true h.2.1, ?_⟩
    have h2 := h.2.2
    split at h2
    · rename_i e he
      exact ⟨e, he, chkTy_ok E e h2⟩
    · cases h2
  | .fn, t, h => by
    simp only [chkTy, Bool.and_eq_true] at h
    refine ⟨chkBase_ok h.1, ?_⟩
    have h2 := h.2
    split at h2
    · rename_i ps rs v he
      exact ⟨ps, rs, v, he⟩
    · cases h2
theorem chkTyL_ok : ∀ (Ts : List Ty) (fs : List Field) (off : Nat), chkTyL P Ts fs off = true → TyOkL P Ts fs off
  | [], fs, off, h => by
    cases fs with
    | nil => rfl
    | cons f fs => cases h
  | T :: Ts, fs, off, h => by
    cases fs with
    | nil => cases h
    | cons f r =>
      simp only [chkTyL, Bool.and_eq_true, Bool.not_eq_true'] at h
      exact ⟨f, r, rfl, Nat.eq_of_beq_eq_true h.1, h.2.1, Nat.le_of_ble_eq_true h.2.2.1, chkTy_ok T f.type h.2.2.2.1, chkTyL_ok Ts r _ h.2.2.2.2⟩
end

def chkTys (P : Program) : List (TypeId × Ty) → Bool
  | [] => true
  | (t, T) :: r => chkTy P T t && ((bif T.eqOk then !P.eqGuardType P.depth t && Nat.ble T.deep 9999 else true) && chkTys P r)
def chkBytes (P : Program) : List (TypeId × Nat) → Bool
  | [] => true
  | (t, b) :: r => (match P.underlying t with | some (.slice e) => (match P.info? e with | some i => Nat.beq i.bytes b && Nat.blt 0 b | none => false) | _ => false) && chkBytes P r

theorem chkTys_ok : ∀ {l : List (TypeId × Ty)}, chkTys P l = true → ∀ t T, assoc l t = some T → TyOk P T t ∧ (T.eqOk = true → P.eqGuardType P.depth t = false ∧ T.deep ≤ 9999)
  | [], _, _, _, e => by cases e
  | (t0, T0) :: r, h, t, T, e => by
    simp only [chkTys, Bool.and_eq_true] at h
    simp only [assoc] at e
    cases hb : Nat.beq t0 t with
    | true =>
      rw [hb, cond_true] at e
      cases e
      have := Nat.eq_of_beq_eq_true hb
      subst this
      refine ⟨chkTy_ok _ _ h.1, fun he => ?_⟩
      have h2 := h.2.1
      rw [he, cond_true] at h2
      simp only [Bool.and_eq_true, Bool.not_eq_true'] at h2
      exact ⟨h2.1, Nat.le_of_ble_eq_true h2.2⟩
    | false =>
      rw [hb, cond_false] at e
      exact chkTys_ok h.2.2 t T e

theorem chkBytes_ok : ∀ {l : List (TypeId × Nat)}, chkBytes P l = true → ∀ t b, assoc l t = some b → ∃ e i, P.underlying t = some (.slice e) ∧ P.info? e = some i ∧ i.bytes = b ∧ 0 < b
  | [], _, _, _, e => by cases e
  | (t0, b0) :: r, h, t, b, e => by
    simp only [chkBytes, Bool.and_eq_true] at h
    simp only [assoc] at e
    cases hb : Nat.beq t0 t with
    | true =>
      rw [hb, cond_true] at e
      cases e
      have := Nat.eq_of_beq_eq_true hb
      subst this
      have h1 := h.1
      split at h1
      · rename_i e he
        split at h1
        · rename_i i hi
          simp only [Bool.and_eq_true] at h1
          exact ⟨e, i, he, hi, Nat.eq_of_beq_eq_true h1.1, Nat.le_of_ble_eq_true h1.2⟩
        · cases h1
      · cases h1
    | false =>
      rw [hb, cond_false] at e
      exact chkBytes_ok h.2 t b e

def chkPtrs (P : Program) : List TypeId → Bool
  | [] => true
  | t :: r => (match P.underlying t with | some (.pointer _) => true | _ => false) && chkPtrs P r

theorem chkPtrs_ok : ∀ {l : List TypeId}, chkPtrs P l = true → ∀ t, memN t l = true → ∃ e, P.underlying t = some (.pointer e)
  | [], _, t, e => by cases e
  | u :: r, h, t, e => by
    simp only [chkPtrs, Bool.and_eq_true] at h
    simp only [memN] at e
    cases hb : Nat.beq u t with
    | false =>
      rw [hb, cond_false] at e
      exact chkPtrs_ok h.2 t e
    | true =>
      have : u = t := Nat.eq_of_beq_eq_true hb
      subst this
      have h1 := h.1
      split at h1
      · rename_i e' he; exact ⟨e', he⟩
      · cases h1

theorem tyAll_of (h1 : chkTys P G.ty = true) (h2 : chkBytes P G.bytes = true) (h3 : P.follows .mixedOrders = true) (h4 : chkPtrs P G.ptrs = true) : TyAll P G where
  ty t T e := (chkTys_ok h1 t T e).1
  bytes t b e := chkBytes_ok h2 t b e
  eq t T e := (chkTys_ok h1 t T e).2
  mixed := h3
  ptrs := chkPtrs_ok h4

end Go.Proofs.Ytcpdiahbdmcdcaa.Ev
