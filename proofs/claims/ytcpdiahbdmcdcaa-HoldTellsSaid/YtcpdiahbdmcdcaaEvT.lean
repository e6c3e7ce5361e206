/- The evaluator's continuations: an operation tells, then the rest goes on. -/
import Derived.Test.YtcpdiahbdmcdcaaEvS
namespace Go.Proofs.Ytcpdiahbdmcdcaa.Ev
open Go Go.RowKit

section
variable {α : Type} {k : Eff → Option α} {s : St}

theorem cps_bind {β : Type} {x : Option β} {f : β → Option α} {g : β → Option Eff} (h : ∀ z, f z = (g z).bind k) : x.bind f = (x.bind g).bind k := by
  cases x
  · rfl
  · exact h _
theorem cps_cond {c : Bool} {x y : Option α} {x' y' : Option Eff} (h : x = x'.bind k) (h' : y = y'.bind k) : (bif c then x else y) = (bif c then x' else y').bind k := by
  cases c
  · exact h'
  · exact h

theorem liveK_cps (p : Pt) (e : Ent) : liveK s p e k = (liveK s p e some).bind k := by
  unfold liveK tellR
  exact cps_bind fun _ => rfl
theorem tellNew_cps (d : Option Nat) (t : Ty) (x : AV) : tellNew s d t x k = (tellNew s d t x some).bind k := by
  cases d <;> rfl
theorem tellOwn_cps (d : Option Nat) (t : Ty) (x : AV) : tellOwn s d t x k = (tellOwn s d t x some).bind k := by
  cases d <;> rfl
theorem eqK_cps (op : BinOp) (t : Ty) (x y : Operand) : eqK s op t x y k = (eqK s op t x y some).bind k := by
  unfold eqK tell
  refine cps_cond (cps_bind fun _ => cps_bind fun _ => ?_) rfl
  cases op <;> rfl
theorem binK_cps (op : BinOp) (t : Ty) (x y : Operand) : binK s op t x y k = (binK s op t x y some).bind k := by
  unfold binK tell
  cases t with
  | int kd =>
    have base : ∀ a b : AV, (match intOp kd op a.toInt b.toInt with
        | some r => k <| Eff.mk (.val (.int kd) none (.int r)) [] [] [] []
        | none => match cmpOp op a.toInt b.toInt with
          | some r => k <| Eff.mk (.val .bool none (.bool r)) [] [] [] []
          | none => none) = (match intOp kd op a.toInt b.toInt with
        | some r => some <| Eff.mk (.val (.int kd) none (.int r)) [] [] [] []
        | none => match cmpOp op a.toInt b.toInt with
          | some r => some <| Eff.mk (.val .bool none (.bool r)) [] [] [] []
          | none => none).bind k := by
      intro a b
      cases intOp kd op a.toInt b.toInt
      · cases cmpOp op a.toInt b.toInt <;> rfl
      · rfl
    cases op <;> (refine cps_bind fun a => cps_bind fun b => ?_) <;> first | exact base a b | exact cps_cond rfl rfl
  | str =>
    have base : ∀ a b : AV, (match strCmp op a.toStr b.toStr with
          | some r => k <| Eff.mk (.val .bool none (.bool r)) [] [] [] []
          | none => none) = (match strCmp op a.toStr b.toStr with
          | some r => some <| Eff.mk (.val .bool none (.bool r)) [] [] [] []
          | none => none).bind k := by
      intro a b
      cases strCmp op a.toStr b.toStr <;> rfl
    cases op <;> (refine cps_bind fun a => cps_bind fun b => ?_) <;> first | exact base a b | exact cps_cond rfl rfl
  | _ => exact eqK_cps _ _ _ _
theorem unK_cps (op : UnOp) (t : Ty) (x : Operand) : unK s op t x k = (unK s op t x some).bind k := by
  unfold unK tell
  refine cps_bind fun a => ?_
  cases op <;> cases t <;> rfl
theorem convK_cps (A B : Ty) (x : Operand) : convK s A B x k = (convK s A B x some).bind k := by
  unfold convK tell tellR
  split
  · exact cps_bind fun _ => rfl
  · exact cps_bind fun _ => rfl
  · exact cps_bind fun _ => rfl
  · rfl
theorem sliceK_cps (T : Ty) (x : Operand) (lo hi mx : Option Operand) : sliceK s T x lo hi mx k = (sliceK s T x lo hi mx some).bind k := by
  unfold sliceK tell
  cases T with
  | str => cases mx with
    | none => exact cps_bind fun _ => cps_bind fun _ => cps_bind fun _ => cps_cond rfl rfl
    | some m => rfl
  | slice E =>
    simp only
    cases (s.ope x).refOf with
    | none => exact cps_bind fun _ => cps_bind fun _ => cps_bind fun _ => cps_bind fun _ => cps_cond rfl rfl
    | some e => exact cps_bind fun _ => cps_bind fun _ => cps_bind fun _ => cps_cond (liveK_cps _ _) rfl
  | blob n =>
    simp only
    cases s.ope x <;> first | rfl | exact cps_cond (cps_bind fun _ => cps_bind fun _ => cps_bind fun _ => cps_cond (liveK_cps _ _) rfl) rfl
  | arr n e =>
    simp only
    cases s.ope x <;> first | rfl | exact cps_cond (cps_bind fun _ => cps_bind fun _ => cps_bind fun _ => cps_cond (liveK_cps _ _) rfl) rfl
  | _ => rfl
theorem lenK_cps (T : Ty) (x : Operand) : lenK s T x k = (lenK s T x some).bind k := by
  unfold lenK tell
  cases T with
  | str => exact cps_bind fun _ => rfl
  | slice E =>
    simp only
    cases (s.ope x).refOf with
    | none => exact cps_bind fun _ => rfl
    | some e => exact liveK_cps _ _
  | blob n => exact cps_cond rfl rfl
  | arr n e => exact cps_cond rfl rfl
  | _ => rfl
theorem appendK_cps (d : Option Nat) (e : Ty) (by_ : Nat) (x y : Operand) : appendK s d e by_ x y k = (appendK s d e by_ x y some).bind k := by
  unfold appendK
  cases d with
  | none => rfl
  | some d =>
    refine cps_bind fun b => ?_
    simp only
    split
    · exact cps_cond rfl rfl
    · exact cps_cond (cps_cond rfl rfl) rfl
    · rfl
theorem copyK_cps (T S : Ty) (x y : Operand) : copyK s T S x y k = (copyK s T S x y some).bind k := by
  unfold copyK
  cases s.ope x <;> try rfl
  simp only
  split
  · exact cps_cond (cps_bind fun _ => cps_bind fun _ => cps_bind fun _ => rfl) rfl
  · rfl
theorem makeK_cps (d : Option Nat) (T : Ty) (by_ : Nat) (x y : Operand) : makeK s d T by_ x y k = (makeK s d T by_ x y some).bind k := by
  unfold makeK
  cases T <;> cases d <;> try rfl
  exact cps_bind fun _ => cps_bind fun _ => cps_cond rfl rfl
theorem builtinK_cps (G : Env) (d : Option Nat) (b : Builtin) (ts : List TypeId) (xs : List Operand) (rt : TypeId) : builtinK G s d b ts xs rt k = (builtinK G s d b ts xs rt some).bind k := by
  unfold builtinK tell
  split
  · exact cps_bind fun _ => lenK_cps _ _
  · refine cps_bind fun T => ?_
    cases T <;> try rfl
    exact cps_bind fun _ => cps_bind fun _ => rfl
  · refine cps_bind fun T => ?_
    cases T <;> try rfl
    exact cps_bind fun _ => cps_bind fun _ => rfl
  · refine cps_bind fun T => cps_bind fun _ => cps_cond ?_ rfl
    cases T <;> try rfl
    exact appendK_cps _ _ _ _ _
  · exact cps_bind fun _ => cps_bind fun _ => copyK_cps _ _ _ _
  · rfl
theorem cps_cons {β : Type} {l : List β} {f : β → List β → Option α} {g : β → List β → Option Eff} (h : ∀ v vs, f v vs = (g v vs).bind k) : consV l f = (consV l g).bind k := by
  cases l
  · rfl
  · exact h _ _
theorem cps_nil {β : Type} {l : List β} {f : Option α} {g : Option Eff} (h : f = g.bind k) : nilV l f = (nilV l g).bind k := by
  cases l
  · exact h
  · rfl
theorem resultK_cps (d : Option Nat) (ts : List PTy) (fr : Bool) (r : Res) (ob : List (Nat × OSlot)) (ro : List Nat) : resultK s d ts fr r ob ro k = (resultK s d ts fr r ob ro some).bind k := by
  unfold resultK
  split
  · refine cps_cons fun v vs => cps_nil ?_
    unfold oneK
    split <;> rfl
  · refine cps_cons fun v vs => cps_nil ?_
    cases d <;> rfl
  · rw [tupK_eq, tupK_eq]
    exact cps_bind fun _ => rfl
theorem outsK_cps (ps : List Pt) (ys : List AV) {F : List (Nat × OSlot) → Option α} {F' : List (Nat × OSlot) → Option Eff} (h : ∀ l, F l = (F' l).bind k) : outsK s ps ys F = (outsK s ps ys F').bind k := by
  rw [outsK_eq, outsK_eq]
  exact cps_bind h
theorem callK_cps (G : Env) (run : Run) (d : Option Nat) (f : FuncId) (caps : List Pt) (xs : List Operand) : callK G run s d f caps xs k = (callK G run s d f caps xs some).bind k := by
  unfold callK
  exact cps_bind fun _ => cps_bind fun _ => cps_cond (cps_bind fun _ => cps_cond (outsK_cps _ _ fun _ => resultK_cps _ _ _ _ _ _) rfl) rfl
theorem fieldAddrK_cps (T : Ty) (x : Operand) (i : Nat) : fieldAddrK s T x i k = (fieldAddrK s T x i some).bind k := by
  unfold fieldAddrK tell
  cases T <;> try rfl
  simp only
  split
  · cases s.ope x <;> first | rfl | exact cps_cond rfl rfl | exact cps_cond (liveK_cps _ _) rfl
  · rfl
theorem indexPtrK_cps (T e : Ty) (n : Nat) (x : Operand) (i : Int) : indexPtrK s T e n x i k = (indexPtrK s T e n x i some).bind k := by
  unfold indexPtrK
  cases s.ope x <;> first | rfl | exact cps_cond (cps_cond (liveK_cps _ _) rfl) rfl
theorem indexAddrK_cps (T : Ty) (x : Operand) (i : Int) : indexAddrK s T x i k = (indexAddrK s T x i some).bind k := by
  unfold indexAddrK tell
  cases T with
  | slice e =>
    simp only
    cases (s.ope x).refOf with
    | none => exact cps_bind fun _ => cps_cond rfl rfl
    | some z =>
      simp only
      cases z.1.t.elem with
      | none => rfl
      | some e' => exact cps_cond (cps_cond (liveK_cps _ _) rfl) rfl
  | blob n => exact indexPtrK_cps _ _ _ _ _
  | arr n e => exact indexPtrK_cps _ _ _ _ _
  | _ => rfl
theorem indexK_cps (T : Ty) (a : AV) (i : Int) : indexK T a i k = (indexK T a i some).bind k := by
  unfold indexK tell
  cases T <;> first | rfl | exact cps_cond rfl rfl
theorem constK_cps (d : Option Nat) (T : Ty) (v : Value) (a : AV) : constK s d T v a k = (constK s d T v a some).bind k := by
  unfold constK tell
  split
  · exact tellOwn_cps _ _ _
  · rfl
theorem buildK_cps (T : Ty) (ps : List (Nat × Operand)) : buildK s T ps k = (buildK s T ps some).bind k := by
  unfold buildK tell
  cases T <;> first | rfl | exact cps_bind fun _ => rfl
theorem buildSliceK_cps (d : Option Nat) (T : Ty) (n : Nat) (ps : List (Nat × Operand)) : buildSliceK s d T n ps k = (buildSliceK s d T n ps some).bind k := by
  unfold buildSliceK
  cases T <;> first | rfl | exact cps_bind fun _ => cps_cond (tellOwn_cps _ _ _) rfl
theorem loadK_cps (T : Ty) (a : Operand) : loadK s T a k = (loadK s T a some).bind k := by
  unfold loadK tell tellR
  cases s.ope a <;> first | rfl | exact cps_cond rfl rfl | exact cps_cond (cps_bind fun _ => rfl) rfl
theorem storeK_cps (T : Ty) (a x : Operand) : storeK s T a x k = (storeK s T a x some).bind k := by
  unfold storeK
  cases s.ope a <;> first | rfl | exact cps_cond (cps_bind fun _ => cps_bind fun _ => rfl) rfl
theorem fieldK_cps (T : Ty) (x : Operand) (i : Nat) : fieldK s T x i k = (fieldK s T x i some).bind k := by
  unfold fieldK tell
  cases T <;> try rfl
  simp only
  split
  · exact cps_bind fun _ => rfl
  · rfl
theorem extractK_cps (x : Operand) (i : Nat) : extractK s x i k = (extractK s x i some).bind k := by
  unfold extractK tell
  cases s.ope x <;> try rfl
  simp only
  split <;> rfl

theorem opK_cps (G : Env) (run : Run) (o : Oper) (k : Eff → Option α) : opK G run o s k = (opK G run o s some).bind k := by
  cases ho : o.op <;> simp only [opK, ho] <;> (try rfl)
  case move x => cases x <;> first | rfl | exact cps_cond rfl (cps_bind fun _ => cps_bind fun _ => constK_cps _ _ _ _)
  case assign x => cases x <;> first | rfl | exact cps_cond rfl (cps_bind fun _ => cps_bind fun _ => constK_cps _ _ _ _)
  case pick c x y => exact cps_bind fun _ => cps_bind fun _ => rfl
  case alloc t => exact cps_bind fun _ => cps_cond (tellNew_cps _ _ _) rfl
  case box t x => exact cps_bind fun _ => cps_bind fun _ => tellNew_cps _ _ _
  case build t ps => exact cps_bind fun _ => cps_cond (buildK_cps _ _) rfl
  case buildSlice t n ps => exact cps_bind fun _ => buildSliceK_cps _ _ _ _
  case load t x => exact cps_bind fun _ => loadK_cps _ _
  case store t x y => exact cps_bind fun _ => storeK_cps _ _ _
  case nilCheck x => cases s.ope x <;> first | rfl | exact liveK_cps _ _
  case binOp op t x y yt =>
    split
    · exact liveK_cps _ _
    · exact cps_bind fun _ => binK_cps _ _ _ _
  case unOp op t x => exact cps_bind fun _ => unK_cps _ _ _
  case convert A B x => exact cps_bind fun _ => cps_bind fun _ => convK_cps _ _ _
  case makeFunc F first caps => cases F <;> first | rfl | exact cps_cond (cps_cond rfl (cps_bind fun _ => rfl)) rfl
  case makeSlice t x y => exact cps_bind fun _ => cps_bind fun _ => cps_cond (makeK_cps _ _ _ _ _) rfl
  case slice t x lo hi mx => exact cps_bind fun _ => sliceK_cps _ _ _ _ _
  case fieldAddr t x i => exact cps_bind fun _ => fieldAddrK_cps _ _ _
  case field t x i => exact cps_bind fun _ => fieldK_cps _ _ _
  case indexAddr t x ix => exact cps_bind fun _ => cps_bind fun _ => indexAddrK_cps _ _ _
  case index t x ix => exact cps_bind fun _ => cps_bind fun _ => cps_bind fun _ => indexK_cps _ _ _
  case extract x i => exact extractK_cps _ _
  case call cl =>
    cases cl.callee with
    | value F => cases F with
      | tmp t =>
        simp only
        split
        · exact callK_cps _ _ _ _ _ _
        · exact callK_cps _ _ _ _ _ _
        · rfl
      | func f => exact callK_cps _ _ _ _ _ _
      | _ => rfl
    | builtin b => exact builtinK_cps _ _ _ _ _ _
    | invoke r m => rfl

theorem stepK_cps (G : Env) (run : Run) (ops : List Oper) (o : Oper) (k : Eff → Option α) : stepK G run ops o s k = (stepK G run ops o s some).bind k := by
  unfold stepK
  cases o.guard with
  | none => exact opK_cps _ _ _ _
  | some g => exact cps_bind fun _ => cps_bind fun _ => cps_cond (opK_cps _ _ _ _) rfl
end

end Go.Proofs.Ytcpdiahbdmcdcaa.Ev
