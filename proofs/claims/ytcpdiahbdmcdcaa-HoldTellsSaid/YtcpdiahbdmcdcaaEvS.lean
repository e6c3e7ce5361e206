/- What an operation tells hangs on what it is noted to read, and on nothing else. -/
import Derived.Test.YtcpdiahbdmcdcaaEvR
namespace Go.Proofs.Ytcpdiahbdmcdcaa.Ev
open Go Go.RowKit

theorem bind_par {α β γ : Type} {x : Option α} {f : α → Option β} {g : α → Option γ} {y : β} {z : γ} (h : x.bind f = some y) (hg : ∀ b, x = some b → f b = some y → g b = some z) : x.bind g = some z := by
  obtain ⟨b, hb, h⟩ := bind_some h
  rw [hb]
  exact hg b hb h
theorem cond_par {α β : Type} {c : Bool} {x : Option α} {x' : Option β} {y : α} {z : β} (h : (bif c then x else none) = some y) (hg : c = true → x = some y → x' = some z) : (bif c then x' else none) = some z := by
  obtain ⟨hc, h⟩ := cond_some h
  rw [hc]
  exact hg hc h
theorem cond_par2 {α β : Type} {c : Bool} {x u : Option α} {x' u' : Option β} {y : α} {z : β} (h : (bif c then x else u) = some y) (hg : c = true → x = some y → x' = some z) (hu : c = false → u = some y → u' = some z) : (bif c then x' else u') = some z := by
  cases c
  · exact hu rfl h
  · exact hg rfl h

/-- What one state holds in a slot that an operand names, the other holds too. -/
def St.same (s s' : St) (x : Operand) : Prop := ∀ t, x = .tmp t → s'.look t = s.look t

section
variable {s s' : St} {x : Operand}
theorem same_opv (h : s.same s' x) (T : Ty) : s'.opv T x = s.opv T x := by
  cases x <;> try rfl
  exact congrArg (Ent.atTy T) (h _ rfl)
theorem same_opi (h : s.same s' x) : s'.opi x = s.opi x := by
  cases x <;> (try rfl)
  · exact congrArg Ent.asInt (h _ rfl)
  · rename_i v
    cases v <;> rfl
theorem same_ope (h : s.same s' x) : s'.ope x = s.ope x := by
  cases x <;> try rfl
  exact h _ rfl
theorem same_bound (d : Int) : ∀ (x : Option Operand), (∀ y, x = some y → s.same s' y) → boundE s' d x = boundE s d x
  | none, _ => rfl
  | some y, h => same_opi (h y rfl)
theorem same_opvs : ∀ (Ts : List Ty) (xs : List Operand), (∀ x ∈ xs, s.same s' x) → s'.opvs Ts xs = s.opvs Ts xs
  | [], [], _ => rfl
  | [], _ :: _, _ => rfl
  | _ :: _, [], _ => rfl
  | T :: Ts, x :: xs, h => by
    simp only [St.opvs, same_opv (h x (by simp)), same_opvs Ts xs fun y hy => h y (by simp [hy])]
theorem same_parts : ∀ (ps : List (Nat × Operand)) (fs : List Ty) (l : List AV), (∀ x ∈ ps.map Prod.snd, s.same s' x) → partsE s' ps fs l = partsE s ps fs l
  | [], _, _, _ => rfl
  | (i, x) :: ps, fs, l, h => by
    simp only [partsE, same_opv (h x (by simp)), fun l => same_parts ps fs l fun y hy => h y (by simp at hy ⊢; exact .inr hy)]
theorem same_elems (t : Ty) : ∀ (ps : List (Nat × Operand)) (l : List AV), (∀ x ∈ ps.map Prod.snd, s.same s' x) → elemsE s' t ps l = elemsE s t ps l
  | [], _, _ => rfl
  | (i, x) :: ps, l, h => by
    simp only [elemsE, same_opv (h x (by simp)), fun l => same_elems t ps l fun y hy => h y (by simp at hy ⊢; exact .inr hy)]
theorem same_caps : ∀ (xs : List Operand), (∀ x ∈ xs, s.same s' x) → capsE s' xs = capsE s xs
  | [], _ => rfl
  | x :: xs, h => by
    simp only [capsE, same_ope (h x (by simp)), same_caps xs fun y hy => h y (by simp [hy])]
end

/-- Two states stand alike in what an operation is noted to touch of memory. -/
structure Like (s s' : St) (f : Eff) : Prop where
  slot : ∀ i, i ∈ f.ro → s'.slot i = s.slot i
  own : ∀ i, i ∈ f.rw → s'.own i = s.own i
  len : s'.owns.length = s.owns.length

section
variable {s s' : St} {f : Eff} {p : Pt}
theorem obAt_like (h : s'.slot p.id = s.slot p.id) : s'.obAt p = s.obAt p := by simp only [St.obAt, h]
theorem getPt_like (h : s'.slot p.id = s.slot p.id) : s'.getPt p = s.getPt p := by simp only [St.getPt, obAt_like h]
theorem setPt_like (h : s'.slot p.id = s.slot p.id) (y : AV) : s'.setPt p y = s.setPt p y := by simp only [St.setPt, obAt_like h]
theorem refList_like (h : s'.slot p.id = s.slot p.id) (lo hi : Nat) : s'.refList p lo hi = s.refList p lo hi := by simp only [St.refList, getPt_like h]

theorem liveK_like {e : Ent} (hk : liveK s p e some = some f) (h : Like s s' f) : liveK s' p e some = some f := by
  obtain ⟨_, _, _, rfl⟩ := liveK_some hk
  have h1 : s'.slot p.id = s.slot p.id := h.slot p.id (by simp)
  unfold liveK at hk ⊢
  rw [obAt_like h1]
  exact hk

theorem tellNew_like {d : Option Nat} {t : Ty} {x : AV} (hk : tellNew s d t x some = some f) (h : Like s s' f) : tellNew s' d t x some = some f := by
  cases d with
  | none => cases hk
  | some d =>
    simp only [tellNew] at hk ⊢
    have h1 : s'.slot d = s.slot d := h.slot d (by cases hk; simp)
    rw [h1]
    exact hk

theorem tellOwn_like {d : Option Nat} {t : Ty} {x : AV} (hk : tellOwn s d t x some = some f) (h : Like s s' f) : tellOwn s' d t x some = some f := by
  cases d with
  | none => cases hk
  | some d =>
    simp only [tellOwn] at hk ⊢
    have h1 : s'.own d = s.own d := h.own d (by cases hk; simp)
    rw [h1]
    exact hk

theorem constK_like {d : Option Nat} {T : Ty} {v : Value} {a : AV} (hk : constK s d T v a some = some f) (h : Like s s' f) : constK s' d T v a some = some f := by
  unfold constK at hk ⊢
  split at hk
  · exact tellOwn_like hk h
  · exact hk

theorem srcE_like {T : Ty} {x : Operand} {b : List AV × List Nat} (hx : s.same s' x) (hk : srcE s T x = some b) (h : ∀ i ∈ b.2, s'.slot i = s.slot i) : srcE s' T x = some b := by
  unfold srcE at hk ⊢
  rw [same_ope hx, same_opv hx]
  generalize (s.ope x).refOf = e at hk ⊢
  cases e with
  | none => exact hk
  | some e =>
    obtain ⟨p, lo, hi⟩ := e
    simp only at hk ⊢
    split at hk
    · refine cond_par hk fun _ hk => ?_
      obtain ⟨l, hl, rfl⟩ := Option.map_eq_some_iff.1 hk
      have h1 : s'.slot p.id = s.slot p.id := h p.id (by simp)
      rw [refList_like h1, hl]
      rfl
    · cases hk

theorem convK_like {A B : Ty} {x : Operand} (hx : s.same s' x) (hk : convK s A B x some = some f) (h : Like s s' f) : convK s' A B x some = some f := by
  unfold convK at hk ⊢
  rw [same_opv hx]
  split at hk
  · exact hk
  · exact hk
  · obtain ⟨b, hb, hk⟩ := bind_some hk
    have hf : f = ⟨.val .str none (.str (bytesOf b.1)), [], [], b.2, []⟩ := by simpa [tellR, eq_comm] using hk
    rw [srcE_like hx hb (fun i hi => h.slot i (by rw [hf]; exact hi))]
    exact hk
  · cases hk

theorem binK_like {op : BinOp} {T : Ty} {x y : Operand} (hx : s.same s' x) (hy : s.same s' y) : binK s' op T x y some = binK s op T x y some := by
  unfold binK eqK
  simp only [same_opv hx, same_opv hy, same_opi hy]
theorem unK_like {op : UnOp} {T : Ty} {x : Operand} (hx : s.same s' x) : unK s' op T x some = unK s op T x some := by
  unfold unK
  simp only [same_opv hx]

theorem sliceK_like {T : Ty} {x : Operand} {lo hi mx : Option Operand} (hx : s.same s' x) (hl : ∀ y, lo = some y → s.same s' y) (hh : ∀ y, hi = some y → s.same s' y) (hm : ∀ y, mx = some y → s.same s' y)
    (hk : sliceK s T x lo hi mx some = some f) (h : Like s s' f) : sliceK s' T x lo hi mx some = some f := by
  unfold sliceK at hk ⊢
  simp only [same_opv hx, same_ope hx, same_bound _ lo hl, same_bound _ hi hh, same_bound _ mx hm]
  have arr : ∀ n, (match s.ope x with
      | .ptr p => bif p.t.beq T && Nat.ble n maxLen then (boundE s 0 lo).bind fun l => (boundE s (n : Int) hi).bind fun h => (boundE s (n : Int) mx).bind fun m =>
        bif boundsOk l h m (n : Int) && (mx.isNone || hi.isSome) then liveK s p (.ref p l.toNat h.toNat) some else none else none
      | _ => none) = some f → (match s.ope x with
      | .ptr p => bif p.t.beq T && Nat.ble n maxLen then (boundE s 0 lo).bind fun l => (boundE s (n : Int) hi).bind fun h => (boundE s (n : Int) mx).bind fun m =>
        bif boundsOk l h m (n : Int) && (mx.isNone || hi.isSome) then liveK s' p (.ref p l.toNat h.toNat) some else none else none
      | _ => none) = some f := by
    intro n hk
    generalize s.ope x = e at hk ⊢
    cases e <;> simp only at hk ⊢ <;> try (cases hk; done)
    exact cond_par hk fun _ hk => bind_par hk fun _ _ hk => bind_par hk fun _ _ hk => bind_par hk fun _ _ hk => cond_par hk fun _ hk => liveK_like hk h
  cases T <;> simp only at hk ⊢ <;> try (cases hk; done)
  case str => exact hk
  case slice E =>
    generalize (s.ope x).refOf = e at hk ⊢
    cases e with
    | none => exact hk
    | some e =>
      obtain ⟨p, rl, rh⟩ := e
      exact bind_par hk fun _ _ hk => bind_par hk fun _ _ hk => bind_par hk fun _ _ hk => cond_par hk fun _ hk => liveK_like hk h
  case blob n => exact arr n hk
  case arr n e => exact arr n hk

theorem lenK_like {T : Ty} {x : Operand} (hx : s.same s' x) (hk : lenK s T x some = some f) (h : Like s s' f) : lenK s' T x some = some f := by
  unfold lenK at hk ⊢
  simp only [same_opv hx, same_ope hx]
  cases T <;> simp only at hk ⊢ <;> try (cases hk; done)
  all_goals (try exact hk)
  generalize (s.ope x).refOf = e at hk ⊢
  cases e with
  | none => exact hk
  | some e => exact liveK_like hk h

theorem appendK_like {d : Option Nat} {e : Ty} {by_ : Nat} {x y : Operand} (hx : s.same s' x) (hy : s.same s' y) (hk : appendK s d e by_ x y some = some f) (h : Like s s' f) : appendK s' d e by_ x y some = some f := by
  unfold appendK at hk ⊢
  cases d with
  | none => cases hk
  | some d =>
    simp only [same_ope hx] at hk ⊢
    obtain ⟨⟨b, ro⟩, hb, hk⟩ := bind_some hk
    simp only at hk
    have hs : (∀ i ∈ ro, i ∈ f.ro) → srcE s' (.slice e) y = some (b, ro) := fun hr => srcE_like hy hb fun i hi => h.slot i (hr i hi)
    split at hk
    · have hk' := hk
      obtain ⟨hc, hk⟩ := cond_some hk
      simp only [Option.some.injEq] at hk
      have h1 : s'.own d = s.own d := h.own d (by rw [← hk]; simp)
      rw [hs (by rw [← hk]; simp)]
      simp only [Option.bind_some, h1]
      exact hk'
    · rename_i T' g n a hno _ hxe
      have hk' := hk
      obtain ⟨hc, hk⟩ := cond_some hk
      obtain ⟨hc', hk⟩ := cond_some hk
      simp only [Option.some.injEq] at hk
      have h1 : s'.own d = s.own d := h.own d (by rw [← hk]; simp)
      have h2 : s'.own g = s.own g := h.own g (by rw [← hk]; simp)
      rw [hs (by rw [← hk]; simp)]
      simp only [Option.bind_some, h1, h2, h.len]
      exact hk'
    · cases hk

theorem copySrc_like {E S : Ty} {y : Operand} {b : List AV × List Nat} (hy : s.same s' y) (hk : copySrc s E S y = some b) (h : ∀ i ∈ b.2, s'.slot i = s.slot i) : copySrc s' E S y = some b := by
  unfold copySrc at hk ⊢
  split at hk
  · rw [same_opv hy]; exact hk
  · exact cond_par hk fun _ hk => srcE_like hy hk h
  · cases hk

theorem copyK_like {T S : Ty} {x y : Operand} (hx : s.same s' x) (hy : s.same s' y) (hk : copyK s T S x y some = some f) (h : Like s s' f) : copyK s' T S x y some = some f := by
  unfold copyK at hk ⊢
  rw [same_ope hx]
  generalize s.ope x = e at hk ⊢
  cases e <;> simp only at hk ⊢ <;> try (cases hk; done)
  case ref p lo hi =>
    split at hk
    · rename_i E E' he
      refine cond_par hk fun _ hk => ?_
      obtain ⟨b, hb, hk⟩ := bind_some hk
      obtain ⟨a, ha, hk⟩ := bind_some hk
      obtain ⟨w, hw, hk⟩ := bind_some hk
      simp only [Option.some.injEq] at hk
      have h1 : s'.slot p.id = s.slot p.id := h.slot p.id (by rw [← hk]; simp)
      rw [copySrc_like hy hb (fun i hi => h.slot i (by rw [← hk]; simp [hi])), Option.bind_some, getPt_like h1, ha, Option.bind_some, setPt_like h1, hw, Option.bind_some, hk]
    · cases hk

theorem makeK_like {d : Option Nat} {T : Ty} {by_ : Nat} {x y : Operand} (hx : s.same s' x) (hy : s.same s' y) (hk : makeK s d T by_ x y some = some f) (h : Like s s' f) : makeK s' d T by_ x y some = some f := by
  unfold makeK at hk ⊢
  simp only [same_opv hx, same_opv hy]
  split at hk
  · rename_i E d
    refine bind_par hk fun _ _ hk => bind_par hk fun _ _ hk => cond_par hk fun _ hk => ?_
    have h1 : s'.slot d = s.slot d := h.slot d (by cases hk; simp)
    rw [h1]
    exact hk
  · cases hk

theorem argsE_like : ∀ (ts : List PTy) (os : List Operand) (ps : List Pt) (l : List AV × List Pt), (∀ x ∈ os, s.same s' x) → argsE s ts os ps = some l → (∀ p ∈ l.2, s'.slot p.id = s.slot p.id) → argsE s' ts os ps = some l
  | [], os, ps, l, _, hk, _ => by
    cases os <;> cases ps <;> first | exact hk | cases hk
  | .val t :: ts, [], ps, l, _, hk, _ => by cases hk
  | .val t :: ts, o :: os, ps, l, hs, hk, h => by
    simp only [argsE] at hk ⊢
    rw [same_opv (hs o (by simp))]
    refine bind_par hk fun _ _ hk => ?_
    obtain ⟨r, hr, rfl⟩ := Option.map_eq_some_iff.1 hk
    rw [argsE_like ts os ps r (fun x hx => hs x (by simp [hx])) hr h]
    rfl
  | .ptr t :: ts, o :: os, ps, l, hs, hk, h => by
    simp only [argsE] at hk ⊢
    rw [same_ope (hs o (by simp))]
    generalize s.ope o = e at hk ⊢
    cases e <;> simp only at hk ⊢ <;> try (cases hk; done)
    case ptr p =>
      refine cond_par hk fun _ hk => ?_
      obtain ⟨x, hx, hk⟩ := bind_some hk
      obtain ⟨r, hr, rfl⟩ := Option.map_eq_some_iff.1 hk
      rw [getPt_like (h p (by simp)), hx, Option.bind_some, argsE_like ts os ps r (fun x hx => hs x (by simp [hx])) hr (fun q hq => h q (by simp [hq]))]
      rfl
  | .ptr t :: ts, [], [], l, _, hk, _ => by cases hk
  | .ptr t :: ts, [], p :: ps, l, hs, hk, h => by
    simp only [argsE] at hk ⊢
    refine cond_par hk fun _ hk => ?_
    obtain ⟨x, hx, hk⟩ := bind_some hk
    obtain ⟨r, hr, rfl⟩ := Option.map_eq_some_iff.1 hk
    rw [getPt_like (h p (by simp)), hx, Option.bind_some, argsE_like ts [] ps r (fun x hx => hs x hx) hr (fun q hq => h q (by simp [hq]))]
    rfl

theorem outsE_like : ∀ (ps : List Pt) (ys : List AV), (∀ p ∈ ps, s'.slot p.id = s.slot p.id) → outsE s' ps ys = outsE s ps ys
  | [], [], _ => rfl
  | [], _ :: _, _ => rfl
  | _ :: _, [], _ => rfl
  | p :: ps, y :: ys, h => by
    simp only [outsE, setPt_like (h p (by simp)), outsE_like ps ys fun q hq => h q (by simp [hq])]

theorem resultK_ro {d : Option Nat} {ts : List PTy} {fr : Bool} {r : Res} {ob : List (Nat × OSlot)} {ro : List Nat} (hk : resultK s d ts fr r ob ro some = some f) : ∀ i ∈ ro, i ∈ f.ro := by
  unfold resultK at hk
  split at hk
  · obtain ⟨v, vs, _, hk⟩ := consV_some hk
    obtain ⟨_, hk⟩ := nilV_some hk
    unfold oneK at hk
    split at hk <;> (simp only [Option.some.injEq] at hk; rw [← hk]; intro i hi; exact hi)
  · obtain ⟨v, vs, _, hk⟩ := consV_some hk
    obtain ⟨_, hk⟩ := nilV_some hk
    split at hk
    · simp only [Option.some.injEq] at hk; rw [← hk]; intro i hi; simp [hi]
    · cases hk
  · rw [tupK_eq] at hk
    obtain ⟨l, _, hk⟩ := bind_some hk
    simp only [Option.some.injEq] at hk; rw [← hk]; intro i hi; exact hi

theorem cons_par {α β γ : Type} {l : List β} {k : β → List β → Option α} {k' : β → List β → Option γ} {r : α} {r' : γ} (h : consV l k = some r) (hg : ∀ v vs, k v vs = some r → k' v vs = some r') : consV l k' = some r' := by
  cases l with
  | nil => cases h
  | cons v vs => exact hg v vs h
theorem nil_par {α β γ : Type} {l : List β} {k : Option α} {k' : Option γ} {r : α} {r' : γ} (h : nilV l k = some r) (hg : k = some r → k' = some r') : nilV l k' = some r' := by
  cases l with
  | nil => exact hg h
  | cons v vs => cases h

theorem oneK_like {d : Option Nat} {T : Ty} {fr : Bool} {v : AV} {ob : List (Nat × OSlot)} {ro : List Nat} (hk : oneK s d T fr v ob ro some = some f) (h : Like s s' f) : oneK s' d T fr v ob ro some = some f := by
  unfold oneK at hk ⊢
  split at hk
  · rename_i E d
    have h1 : s'.own d = s.own d := h.own d (by cases hk; simp)
    simp only [h1]
    exact hk
  · exact hk

theorem resultK_like {d : Option Nat} {ts : List PTy} {fr : Bool} {r : Res} {ob : List (Nat × OSlot)} {ro : List Nat} (hk : resultK s d ts fr r ob ro some = some f) (h : Like s s' f) : resultK s' d ts fr r ob ro some = some f := by
  unfold resultK at hk ⊢
  split at hk
  · exact cons_par hk fun v vs hk => nil_par hk fun hk => oneK_like hk h
  · refine cons_par hk fun v vs hk => nil_par hk fun hk => ?_
    cases d with
    | none => cases hk
    | some d =>
      have h1 : s'.slot d = s.slot d := h.slot d (by cases hk; simp)
      simp only [h1]
      exact hk
  · exact hk

theorem callK_like {G : Env} {run : Run} {d : Option Nat} {fn : FuncId} {caps : List Pt} {xs : List Operand} (hs : ∀ x ∈ xs, s.same s' x) (hk : callK G run s d fn caps xs some = some f) (h : Like s s' f) : callK G run s' d fn caps xs some = some f := by
  unfold callK at hk ⊢
  refine bind_par hk fun i _ hk => ?_
  obtain ⟨l, hl, hk⟩ := bind_some hk
  obtain ⟨hc, hk⟩ := cond_some hk
  obtain ⟨r, hr, hk⟩ := bind_some hk
  obtain ⟨hfr, hk⟩ := cond_some hk
  rw [outsK_eq] at hk
  obtain ⟨ob, hob, hk⟩ := bind_some hk
  have h1 : ∀ p ∈ l.2, s'.slot p.id = s.slot p.id := fun p hp => h.slot _ (resultK_ro hk _ (List.mem_map_of_mem hp))
  rw [argsE_like _ _ _ _ hs hl h1, Option.bind_some, hc, cond_true, hr, Option.bind_some, hfr, cond_true, outsK_eq, outsE_like _ _ h1, hob, Option.bind_some]
  exact resultK_like hk h

theorem fieldAddrK_like {T : Ty} {x : Operand} {i : Nat} (hx : s.same s' x) (hk : fieldAddrK s T x i some = some f) (h : Like s s' f) : fieldAddrK s' T x i some = some f := by
  unfold fieldAddrK at hk ⊢
  rw [same_ope hx]
  generalize s.ope x = e at hk ⊢
  cases T <;> simp only at hk ⊢ <;> try (cases hk; done)
  case struct fs =>
    generalize fs[i]? = F at hk ⊢
    cases F <;> simp only at hk ⊢ <;> try (cases hk; done)
    cases e <;> simp only at hk ⊢ <;> try (cases hk; done)
    · exact hk
    · exact cond_par hk fun _ hk => liveK_like hk h

theorem indexPtrK_like {T e : Ty} {n : Nat} {x : Operand} {i : Int} (hx : s.same s' x) (hk : indexPtrK s T e n x i some = some f) (h : Like s s' f) : indexPtrK s' T e n x i some = some f := by
  unfold indexPtrK at hk ⊢
  rw [same_ope hx]
  generalize s.ope x = e at hk ⊢
  cases e <;> simp only at hk ⊢ <;> try (cases hk; done)
  exact cond_par hk fun _ hk => cond_par hk fun _ hk => liveK_like hk h

theorem indexAddrK_like {T : Ty} {x : Operand} {i : Int} (hx : s.same s' x) (hk : indexAddrK s T x i some = some f) (h : Like s s' f) : indexAddrK s' T x i some = some f := by
  unfold indexAddrK at hk ⊢
  rw [same_ope hx]
  cases T <;> simp only at hk ⊢ <;> try (cases hk; done)
  case slice e =>
    rw [same_opv hx]
    generalize (s.ope x).refOf = z at hk ⊢
    cases z with
    | none => exact hk
    | some z =>
      obtain ⟨p, lo, hi⟩ := z
      simp only at hk ⊢
      generalize p.t.elem = F at hk ⊢
      cases F <;> simp only at hk ⊢ <;> try (cases hk; done)
      exact cond_par hk fun _ hk => cond_par hk fun _ hk => liveK_like hk h
  case blob n => exact indexPtrK_like hx hk h
  case arr n e => exact indexPtrK_like hx hk h

theorem loadK_like {T : Ty} {x : Operand} (hx : s.same s' x) (hk : loadK s T x some = some f) (h : Like s s' f) : loadK s' T x some = some f := by
  unfold loadK at hk ⊢
  rw [same_ope hx]
  generalize s.ope x = e at hk ⊢
  cases e <;> simp only at hk ⊢ <;> try (cases hk; done)
  case «at» => exact hk
  case ptr p =>
    refine cond_par hk fun _ hk => ?_
    obtain ⟨y, hy, hk⟩ := bind_some hk
    have h1 : s'.slot p.id = s.slot p.id := h.slot p.id (by simp only [tellR, Option.some.injEq] at hk; rw [← hk]; simp)
    rw [getPt_like h1, hy]
    exact hk

theorem storeK_like {T : Ty} {x y : Operand} (hx : s.same s' x) (hy : s.same s' y) (hk : storeK s T x y some = some f) (h : Like s s' f) : storeK s' T x y some = some f := by
  unfold storeK at hk ⊢
  rw [same_ope hx]
  generalize s.ope x = e at hk ⊢
  cases e <;> simp only at hk ⊢ <;> try (cases hk; done)
  case ptr p =>
    refine cond_par hk fun _ hk => ?_
    rw [same_opv hy]
    refine bind_par hk fun z _ hk => ?_
    obtain ⟨w, hw, hk⟩ := bind_some hk
    have h1 : s'.slot p.id = s.slot p.id := h.slot p.id (by simp only [Option.some.injEq] at hk; rw [← hk]; simp)
    rw [setPt_like h1, hw]
    exact hk

theorem buildK_like {T : Ty} {ps : List (Nat × Operand)} (hs : ∀ x ∈ ps.map Prod.snd, s.same s' x) (hk : buildK s T ps some = some f) : buildK s' T ps some = some f := by
  unfold buildK at hk ⊢
  cases T <;> simp only at hk ⊢ <;> try (cases hk; done)
  · rw [same_elems _ _ _ hs]; exact hk
  · rw [same_elems _ _ _ hs]; exact hk
  · rw [same_parts _ _ _ hs]; exact hk

theorem buildSliceK_like {d : Option Nat} {T : Ty} {n : Nat} {ps : List (Nat × Operand)} (hs : ∀ x ∈ ps.map Prod.snd, s.same s' x) (hk : buildSliceK s d T n ps some = some f) (h : Like s s' f) : buildSliceK s' d T n ps some = some f := by
  unfold buildSliceK at hk ⊢
  cases T <;> simp only at hk ⊢ <;> try (cases hk; done)
  rw [same_elems _ _ _ hs]
  exact bind_par hk fun _ _ hk => cond_par hk fun _ hk => tellOwn_like hk h

theorem fieldK_like {T : Ty} {x : Operand} {i : Nat} (hx : s.same s' x) (hk : fieldK s T x i some = some f) : fieldK s' T x i some = some f := by
  unfold fieldK at hk ⊢
  simp only [same_opv hx]
  exact hk
theorem extractK_like {x : Operand} {i : Nat} (hx : s.same s' x) (hk : extractK s x i some = some f) : extractK s' x i some = some f := by
  unfold extractK at hk ⊢
  simp only [same_ope hx]
  exact hk

theorem builtinK_like {G : Env} {d : Option Nat} {b : Builtin} {ts : List TypeId} {xs : List Operand} {rt : TypeId} (hs : ∀ x ∈ xs, s.same s' x) (hk : builtinK G s d b ts xs rt some = some f) (h : Like s s' f) : builtinK G s' d b ts xs rt some = some f := by
  unfold builtinK at hk ⊢
  split at hk
  · exact bind_par hk fun _ _ hk => lenK_like (hs _ (by simp)) hk h
  · refine bind_par hk fun T _ hk => ?_
    cases T <;> simp only at hk ⊢ <;> try (cases hk; done)
    rw [same_opvs _ _ hs]
    exact hk
  · refine bind_par hk fun T _ hk => ?_
    cases T <;> simp only at hk ⊢ <;> try (cases hk; done)
    rw [same_opvs _ _ hs]
    exact hk
  · refine bind_par hk fun T _ hk => bind_par hk fun by_ _ hk => cond_par hk fun _ hk => ?_
    cases T <;> simp only at hk ⊢ <;> try (cases hk; done)
    exact appendK_like (hs _ (by simp)) (hs _ (by simp)) hk h
  · exact bind_par hk fun _ _ hk => bind_par hk fun _ _ hk => copyK_like (hs _ (by simp)) (hs _ (by simp)) hk h
  · cases hk
end

theorem op_like {G : Env} {run : Run} {o : Oper} {s s' : St} {f : Eff} (hs : ∀ x ∈ o.op.operands.toList, s.same s' x) (hk : opK G run o s some = some f) (h : Like s s' f) : opK G run o s' some = some f := by
  cases ho : o.op <;> simp only [opK, ho] at hk ⊢ <;> (try (cases hk; done)) <;> simp only [ho, Op.operands] at hs
  case move x =>
    cases x <;> simp only at hk ⊢ <;> try (cases hk; done)
    · rw [hs _ (by simp) _ rfl]; exact hk
    · exact cond_par2 hk (fun _ hk => hk) fun _ hk => bind_par hk fun _ _ hk => bind_par hk fun _ _ hk => constK_like hk h
    · exact hk
  case assign x =>
    cases x <;> simp only at hk ⊢ <;> try (cases hk; done)
    · rw [hs _ (by simp) _ rfl]; exact hk
    · exact cond_par2 hk (fun _ hk => hk) fun _ hk => bind_par hk fun _ _ hk => bind_par hk fun _ _ hk => constK_like hk h
    · exact hk
  case pick c x y =>
    rw [same_opv (hs c (by simp)), same_opv (hs x (by simp)), same_opv (hs y (by simp))]
    exact hk
  case alloc t => exact bind_par hk fun _ _ hk => cond_par hk fun _ hk => tellNew_like hk h
  case box t x =>
    refine bind_par hk fun _ _ hk => ?_
    rw [same_opv (hs x (by simp))]
    exact bind_par hk fun _ _ hk => tellNew_like hk h
  case build t ps => exact bind_par hk fun _ _ hk => cond_par hk fun _ hk => buildK_like (fun x hx => hs x (by simpa using hx)) hk
  case buildSlice t n ps => exact bind_par hk fun _ _ hk => buildSliceK_like (fun x hx => hs x (by simpa using hx)) hk h
  case load t x => exact bind_par hk fun _ _ hk => loadK_like (hs x (by simp)) hk h
  case store t x y => exact bind_par hk fun _ _ hk => storeK_like (hs x (by simp)) (hs y (by simp)) hk h
  case nilCheck x =>
    rw [same_ope (hs x (by simp))]
    generalize s.ope x = e at hk ⊢
    cases e <;> simp only at hk ⊢ <;> try (cases hk; done)
    · exact hk
    · exact liveK_like hk h
  case binOp op t x y yt =>
    have e : ptrTest G s' op t x y = ptrTest G s op t x y := by unfold ptrTest; rw [same_ope (hs x (by simp))]
    rw [e]
    split at hk
    · exact liveK_like hk h
    · simp only [binK_like (hs x (by simp)) (hs y (by simp))]
      exact hk
  case unOp op t x =>
    simp only [unK_like (hs x (by simp))]
    exact hk
  case convert A B x => exact bind_par hk fun _ _ hk => bind_par hk fun _ _ hk => convK_like (hs x (by simp)) hk h
  case makeFunc F first caps =>
    cases F <;> simp only at hk ⊢ <;> try (cases hk; done)
    refine cond_par hk fun _ hk => ?_
    rw [same_caps _ (fun x hx => hs x (by simp; exact .inr (by simpa using hx)))]
    exact hk
  case makeSlice t x y => exact bind_par hk fun _ _ hk => bind_par hk fun _ _ hk => cond_par hk fun _ hk => makeK_like (hs x (by simp)) (hs y (by simp)) hk h
  case slice t x lo hi mx =>
    exact bind_par hk fun _ _ hk => sliceK_like (hs x (by simp)) (fun y e => hs y (by simp [e])) (fun y e => hs y (by simp [e])) (fun y e => hs y (by simp [e])) hk h
  case fieldAddr t x i => exact bind_par hk fun _ _ hk => fieldAddrK_like (hs x (by simp)) hk h
  case field t x i => exact bind_par hk fun _ _ hk => fieldK_like (hs x (by simp)) hk
  case indexAddr t x ix =>
    refine bind_par hk fun _ _ hk => ?_
    rw [same_opi (hs ix (by simp))]
    exact bind_par hk fun _ _ hk => indexAddrK_like (hs x (by simp)) hk h
  case index t x ix =>
    refine bind_par hk fun _ _ hk => ?_
    rw [same_opi (hs ix (by simp)), same_opv (hs x (by simp))]
    exact hk
  case extract x i => exact extractK_like (hs x (by simp)) hk
  case call cl =>
    have ha : ∀ x ∈ cl.args.toList, s.same s' x := fun x hx => hs x (by simp [Call.operands]; exact .inr (by simpa using hx))
    cases hcl : cl.callee <;> simp only [hcl] at hk ⊢ <;> (try (cases hk; done))
    case value F =>
      have hF : s.same s' F := hs F (by simp [Call.operands, hcl])
      cases F <;> simp only at hk ⊢ <;> (try (cases hk; done))
      case tmp t =>
        rw [hF t rfl]
        generalize s.look t = e at hk ⊢
        split at hk
        · exact callK_like ha hk h
        · exact callK_like ha hk h
        · cases hk
      case func g => exact callK_like ha hk h
    case builtin b => exact builtinK_like ha hk h

end Go.Proofs.Ytcpdiahbdmcdcaa.Ev
