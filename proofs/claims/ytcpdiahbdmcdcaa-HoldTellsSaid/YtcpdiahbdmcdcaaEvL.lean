/- The operations that tell a value and turn no memory: slices, indexes, fields, loads, structs built. -/
import Derived.Test.YtcpdiahbdmcdcaaEvK
namespace Go.Proofs.Ytcpdiahbdmcdcaa.Ev
open Go Go.RowKit

variable {c : Ctx} {gh : Ghost} {s : St} {a : Act} {w : World} {P : Program} {G : Env}

/-- The bounds of a slice expression. -/
theorem run_bounds (isSlice : Bool) (len cap : Nat) (lo hi mx : Option Value) (l h m : Int) (hl : (lo = none ∧ l = 0) ∨ ∃ k, lo = some (.int k l)) (hh : (hi = none ∧ h = len ∧ mx = none) ∨ ∃ k, hi = some (.int k h))
    (hm : mx = none ∨ ∃ k, mx = some (.int k m)) (h0 : 0 ≤ l) (h1 : l ≤ h) (h2 : h ≤ m) (h3 : m ≤ len) (h4 : len ≤ cap) :
    (Instr.sliceBounds isSlice len cap lo hi mx).run P w = .ok (l.toNat, h.toNat, if mx.isNone then cap else m.toNat) w := by
  have bd : ∀ (k : IntKind) (i : Int) (y : Nat) (code : BoundsCode), 0 ≤ i → i ≤ y → (Instr.sliceBound (.int k i) y code).run P w = .ok i.toNat w := fun k i y code a b => by
    simp [Instr.sliceBound, asIntOf, a, b]
  rcases hm with rfl | ⟨km, rfl⟩ <;> rcases hh with ⟨rfl, rfl, hn⟩ | ⟨kh, rfl⟩ <;> rcases hl with ⟨rfl, rfl⟩ | ⟨kl, rfl⟩
  case inl.inl.inl => simp [Instr.sliceBounds]
  case inl.inl.inr =>
    simp only [Instr.sliceBounds, Sem.run_bind, Sem.run_pure, Result.andThen_ok]
    rw [bd kl l _ _ h0 (by simpa using h1)]
    simp
  case inl.inr.inl =>
    simp only [Instr.sliceBounds, Sem.run_bind, Sem.run_pure, Result.andThen_ok]
    rw [bd kh h _ _ (by omega) (by omega)]
    simp
  case inl.inr.inr =>
    simp only [Instr.sliceBounds, Sem.run_bind, Sem.run_pure, Result.andThen_ok]
    rw [bd kh h _ _ (by omega) (by omega)]
    simp only [Result.andThen_ok]
    rw [bd kl l _ _ h0 (by omega)]
    simp
  case inr.inl.inl => cases hn
  case inr.inl.inr => cases hn
  case inr.inr.inl =>
    simp only [Instr.sliceBounds, Sem.run_bind, Sem.run_pure, Result.andThen_ok]
    rw [bd km m _ _ (by omega) (by omega)]
    simp only [Result.andThen_ok]
    rw [bd kh h _ _ (by omega) (by omega)]
    simp
  case inr.inr.inr =>
    simp only [Instr.sliceBounds, Sem.run_bind, Sem.run_pure]
    rw [bd km m _ _ (by omega) (by omega)]
    simp only [Result.andThen_ok]
    rw [bd kh h _ _ (by omega) (by omega)]
    simp only [Result.andThen_ok]
    rw [bd kl l _ _ h0 (by omega)]
    simp

theorem boundE_some (h : Rel c gh s a w) {d n : Int} {o : Option Operand} (e : boundE s d o = some n) : (o.map a.eval = none ∧ o = none ∧ n = d) ∨ ∃ k, o.map a.eval = some (.int k n) := by
  cases o with
  | none => simp [boundE] at e; subst e; exact .inl ⟨rfl, rfl, rfl⟩
  | some x =>
    obtain ⟨k, hk⟩ := h.opi e
    exact .inr ⟨k, by simp [hk]⟩

theorem boundsOk_iff {l h m n : Int} (e : boundsOk l h m n = true) : 0 ≤ l ∧ l ≤ h ∧ h ≤ m ∧ m ≤ n := by
  simpa [boundsOk, and_assoc] using e

theorem sliceK_tells (hP : EnvOk P G) (h : Rel c gh s a w) {t : TypeId} {T : Ty} {x : Operand} {lo hi mx : Option Operand} {f : Eff} (ht : G.tyOf t = some T)
    (hk : sliceK s T x lo hi mx some = some f) : Tells P gh s w (Instr.sliceAt t (a.eval x) (lo.map a.eval) (hi.map a.eval) (mx.map a.eval)) f := by
  have hT := hP.ty _ _ ht
  have arr : ∀ (n : Nat) (e : Ty) (te : TypeId), P.underlying t = some (.array n te) → TyOk P e te → T.elem = some e → T.count = n →
      (match s.ope x with
        | .ptr p => bif p.t.beq T && Nat.ble n maxLen then (boundE s 0 lo).bind fun l => (boundE s (n : Int) hi).bind fun h => (boundE s (n : Int) mx).bind fun m =>
            bif boundsOk l h m (n : Int) && (mx.isNone || hi.isSome) then liveK s p (.ref p l.toNat h.toNat) some else none else none
        | _ => none) = some f → Tells P gh s w (Instr.sliceAt t (a.eval x) (lo.map a.eval) (hi.map a.eval) (mx.map a.eval)) f := by
    intro n e te h1 hE hel hcn hk
    split at hk
    · rename_i p hp
      have hv := h.ope x
      rw [hp] at hv
      obtain ⟨hb, hk⟩ := cond_some hk
      simp only [Bool.and_eq_true] at hb
      obtain ⟨l, hl, hk⟩ := bind_some hk
      obtain ⟨hh, hhh, hk⟩ := bind_some hk
      obtain ⟨m, hm, hk⟩ := bind_some hk
      obtain ⟨hok, hk⟩ := cond_some hk
      simp only [Bool.and_eq_true] at hok
      obtain ⟨b0, b1, b2, b3⟩ := boundsOk_iff hok.1
      obtain ⟨ob, hgen, hob, rfl⟩ := liveK_some hk
      have hpt := Ty.beq_eq _ _ hb.1
      have hnm := Nat.le_of_ble_eq_true hb.2
      obtain ⟨off, k1, k2⟩ := hv.2 hgen ob hob
      have hrun := run_bounds (P := P) (w := w) false n n (lo.map a.eval) (hi.map a.eval) (mx.map a.eval) l hh m
        ((boundE_some h hl).imp (fun q => ⟨q.1, q.2.2⟩) id)
        (by
          rcases boundE_some h hhh with ⟨q1, q2, q3⟩ | ⟨k, q⟩
          · refine .inl ⟨q1, q3, ?_⟩
            rcases boundE_some h hm with ⟨r1, r2, r3⟩ | ⟨k, r⟩
            · exact r1
            · subst q2; cases mx <;> simp at hok r
          · exact .inr ⟨k, q⟩)
        ((boundE_some h hm).imp (fun q => q.1) id) b0 b1 b2 b3 (Nat.le_refl _)
      refine .mk (v := .slice (some (if (if (mx.map a.eval).isNone then n else m.toNat) = l.toNat then (⟨gh.m p.id, off, none⟩ : Addr) else (⟨gh.m p.id, off, none⟩ : Addr).add (l.toNat * e.size))) (hh.toNat - l.toNat) ((if (mx.map a.eval).isNone then n else m.toNat) - l.toNat)) ?_ ?_
      · rw [k2]
        simp only [Instr.sliceAt, run_underlying h1, Instr.sureAddr, Sem.run_bind, Result.andThen_ok, Sem.run_pure, hrun, hE.size]
      · refine ⟨Nat.le_of_eq hgen, fun _ ob' hob' => ?_⟩
        rw [hob] at hob'
        cases hob'
        refine ⟨off, e, _, _, k1, by rw [hpt]; exact hel, by omega, by rw [hpt, hcn]; omega, rfl, ?_, ?_, fun hlt => ?_⟩
        · split <;> omega
        · split <;> omega
        · rw [if_neg (by split <;> omega)]
          unfold Addr.add
          by_cases hz : l.toNat * e.size = 0 <;> simp [hz]
    · cases hk
  unfold sliceK at hk
  split at hk
  · split at hk
    · obtain ⟨u, hu, hk⟩ := bind_some hk
      obtain ⟨n, hx, rfl, hlen⟩ := (h.opv hu).str
      obtain ⟨l, hl, hk⟩ := bind_some hk
      obtain ⟨hh, hhh, hk⟩ := bind_some hk
      obtain ⟨hok, hk⟩ := cond_some hk
      obtain ⟨b0, b1, b2, b3⟩ := boundsOk_iff hok
      simp only [AV.toStr] at *
      rw [tell_some hk]
      have hsz : (ByteArray.mk n.toArray).size = n.length := by simp [ByteArray.size]
      have hrun := run_bounds (P := P) (w := w) false n.length n.length (lo.map a.eval) (hi.map a.eval) none l hh hh
        ((boundE_some h hl).imp (fun q => ⟨q.1, q.2.2⟩) id) ((boundE_some h hhh).imp (fun q => ⟨q.1, q.2.2, rfl⟩) id) (.inl rfl) b0 b1 (Int.le_refl _) b2 (Nat.le_refl _)
      refine .mk (v := .string ⟨((n.take hh.toNat).drop l.toNat).toArray⟩) ?_ (.plain (.str_mk (by simp only [List.length_drop, List.length_take]; omega)))
      rw [hx]
      simp only [Instr.sliceAt, Instr.slice, Option.map_none, run_underlying hT.2, Sem.run_bind, Result.andThen_ok, Option.isSome_none, Bool.false_eq_true, if_false, Sem.run_pure]
      rw [hsz, hrun]
      simp only [Result.andThen_ok, bytes_extract]
    · cases hk
  · rename_i E
    obtain ⟨_, hpos, te, h1, hE⟩ := hT
    split at hk
    · rename_i p rl rh hr
      have hr := refOf_some hr
      have hv := h.ope x
      rw [hr] at hv
      obtain ⟨l, hl, hk⟩ := bind_some hk
      obtain ⟨hh, hhh, hk⟩ := bind_some hk
      obtain ⟨m, hm, hk⟩ := bind_some hk
      obtain ⟨hok, hk⟩ := cond_some hk
      rw [Bool.and_eq_true] at hok
      obtain ⟨hok, hel⟩ := hok
      simp only [Bool.and_eq_true] at hok
      obtain ⟨b0, b1, b2, b3⟩ := boundsOk_iff hok.1
      obtain ⟨ob, hgen, hob, rfl⟩ := liveK_some hk
      obtain ⟨off, e, ad, cap, k1, k2, k3, k4, k5, k6, k7, k8⟩ := hv.2 hgen ob hob
      rw [k2] at hel
      have hel := Ty.beq_eq _ _ hel
      subst hel
      have hrun := run_bounds (P := P) (w := w) true (rh - rl) cap (lo.map a.eval) (hi.map a.eval) (mx.map a.eval) l hh m
        ((boundE_some h hl).imp (fun q => ⟨q.1, q.2.2⟩) id)
        (by
          rcases boundE_some h hhh with ⟨q1, q2, q3⟩ | ⟨k, q⟩
          · refine .inl ⟨q1, q3, ?_⟩
            rcases boundE_some h hm with ⟨r1, r2, r3⟩ | ⟨k, r⟩
            · exact r1
            · subst q2; cases mx <;> simp at hok r
          · exact .inr ⟨k, q⟩)
        ((boundE_some h hm).imp (fun q => q.1) id) b0 b1 b2 b3 k6
      have hmm : hh.toNat ≤ (if (mx.map a.eval).isNone then cap else m.toNat) ∧ (if (mx.map a.eval).isNone then cap else m.toNat) ≤ cap := by split <;> omega
      refine .mk (v := .slice (if (if (mx.map a.eval).isNone then cap else m.toNat) = l.toNat then some ad else (some ad).map (·.add (l.toNat * e.size))) (hh.toNat - l.toNat) ((if (mx.map a.eval).isNone then cap else m.toNat) - l.toNat)) ?_ ?_
      · rw [k5]
        simp only [Instr.sliceAt, Instr.slice, run_underlying h1, Sem.run_bind, Result.andThen_ok, hrun, hE.size, Sem.run_pure]
      · have hs : ∃ ad', (if (if (mx.map a.eval).isNone then cap else m.toNat) = l.toNat then some ad else (some ad).map (·.add (l.toNat * e.size))) = some ad' ∧ (l.toNat < hh.toNat → ad' = ad.add (l.toNat * e.size)) := by
          by_cases hc : (if (mx.map a.eval).isNone then cap else m.toNat) = l.toNat
          · rw [if_pos hc]; exact ⟨ad, rfl, fun _ => by omega⟩
          · rw [if_neg hc]; exact ⟨_, rfl, fun _ => rfl⟩
        obtain ⟨ad', hs1, hs2⟩ := hs
        rw [hs1]
        refine ⟨Nat.le_of_eq hgen, fun _ ob' hob' => ?_⟩
        rw [hob] at hob'
        cases hob'
        have hcount : rl + hh.toNat ≤ p.t.count := by omega
        refine ⟨off, e, ad', _, k1, k2, by omega, hcount, by rw [show rl + hh.toNat - (rl + l.toNat) = hh.toNat - l.toNat by omega], by omega, by omega, fun hlt => ?_⟩
        rw [hs2 (by omega), k8 (by omega)]
        unfold Addr.add
        by_cases hz : l.toNat * e.size = 0
        · rw [if_pos hz, Nat.add_mul, hz]; rfl
        · rw [if_neg hz, Nat.add_mul, Nat.add_assoc]
    · obtain ⟨u, hu, hk⟩ := bind_some hk
      obtain ⟨ao, len, cap, es, hx, rfl, g1, g2, g3, g4, g5⟩ := (h.opv hu).slice
      obtain ⟨l, hl, hk⟩ := bind_some hk
      obtain ⟨hh, hhh, hk⟩ := bind_some hk
      obtain ⟨m, hm, hk⟩ := bind_some hk
      obtain ⟨hok, hk⟩ := cond_some hk
      simp only [Bool.and_eq_true] at hok
      obtain ⟨b0, b1, b2, b3⟩ := boundsOk_iff hok.1
      simp only [AV.toSlice] at *
      rw [tell_some hk]
      have hrun := run_bounds (P := P) (w := w) true len cap (lo.map a.eval) (hi.map a.eval) (mx.map a.eval) l hh m
        ((boundE_some h hl).imp (fun q => ⟨q.1, q.2.2⟩) id)
        (by
          rcases boundE_some h hhh with ⟨q1, q2, q3⟩ | ⟨k, q⟩
          · refine .inl ⟨q1, by omega, ?_⟩
            rcases boundE_some h hm with ⟨r1, r2, r3⟩ | ⟨k, r⟩
            · exact r1
            · subst q2; cases mx <;> simp at hok r
          · exact .inr ⟨k, q⟩)
        ((boundE_some h hm).imp (fun q => q.1) id) b0 b1 b2 (by omega) g2
      have hmm : hh.toNat ≤ (if (mx.map a.eval).isNone then cap else m.toNat) ∧ (if (mx.map a.eval).isNone then cap else m.toNat) ≤ cap := by split <;> omega
      refine .mk (v := .slice (if (if (mx.map a.eval).isNone then cap else m.toNat) = l.toNat then ao else ao.map (·.add (l.toNat * E.size))) (hh.toNat - l.toNat) ((if (mx.map a.eval).isNone then cap else m.toNat) - l.toNat)) ?_ ?_
      · rw [hx]
        simp only [Instr.sliceAt, Instr.slice, run_underlying h1, Sem.run_bind, Result.andThen_ok, hrun, hE.size, Sem.run_pure]
      · refine .plain ⟨[_], (val_one rfl _).symm, ?_⟩
        simp only [Rep]
        refine ⟨_, _, _, _, rfl, rfl, by simp only [List.length_drop, List.length_take]; omega, by omega, by omega, fun e0 => ?_, fun p hp i y hy => ?_⟩
        · have : ao = none := by
            cases ao with
            | none => rfl
            | some p => exfalso; revert e0; simp only [Option.map_some]; generalize (if (Option.map a.eval mx).isNone = true then cap else m.toNat) = M; split <;> simp
          have := g4 this
          omega
        · rw [List.getElem?_drop, List.getElem?_take] at hy
          split at hy
          · rename_i hlt
            rw [if_neg (by omega)] at hp
            obtain ⟨p0, rfl, rfl⟩ := Option.map_eq_some_iff.1 hp
            obtain ⟨ds, q1, q2, q3⟩ := g5 p0 rfl _ y hy
            refine ⟨ds, ?_, q2, q3⟩
            rw [Addr.add_add, ← Nat.add_mul]
            exact q1
          · cases hy
  · rename_i n
    obtain ⟨_, te, h1, h2, h3⟩ := hT
    exact arr n (.int .u8) te h1 ⟨h3, h2⟩ rfl rfl hk
  · rename_i n e
    obtain ⟨_, te, h1, h2⟩ := hT
    exact arr n e te h1 h2 rfl rfl hk
  · cases hk

/- indexes, fields -/
theorem inR_iff {i : Int} {n : Nat} (h : inR i n = true) : 0 ≤ i ∧ i < (n : Int) := by simpa [inR] using h

theorem indexAddrK_tells (hP : EnvOk P G) (h : Rel c gh s a w) {t : TypeId} {T : Ty} {x ix : Operand} {i : Int} {f : Eff} (ht : G.tyOf t = some T) (hi : s.opi ix = some i)
    (hk : indexAddrK s T x i some = some f) : Tells P gh s w (Instr.indexAt t (a.eval x) (a.eval ix)) f := by
  have hT := hP.ty _ _ ht
  obtain ⟨ki, hix⟩ := h.opi hi
  have arr : ∀ (n : Nat) (e : Ty) (te : TypeId), P.underlying t = some (.array n te) → TyOk P e te → (∀ (path : List Nat) (U : Ty) (off j : Nat), PathOk path U T off → j < n → PathOk (path ++ [j]) U e (off + j * e.size)) →
      indexPtrK s T e n x i some = some f → Tells P gh s w (Instr.indexAt t (a.eval x) (a.eval ix)) f := by
    intro n e te h1 hE hpath hk
    unfold indexPtrK at hk
    split at hk
    · rename_i p hp
      have hv := h.ope x
      rw [hp] at hv
      obtain ⟨hb, hk⟩ := cond_some hk
      obtain ⟨hr, hk⟩ := cond_some hk
      obtain ⟨r0, r1⟩ := inR_iff hr
      obtain ⟨ob, hgen, hob, rfl⟩ := liveK_some hk
      obtain ⟨off, k1, k2⟩ := hv.2 hgen ob hob
      rw [Ty.beq_eq _ _ hb] at k1
      refine .mk (v := .pointer (some ((⟨gh.m p.id, off, none⟩ : Addr).add (i.toNat * e.size)))) ?_ ?_
      · rw [k2, hix]
        simp [Instr.indexAt, asIntOf, run_underlying h1, Instr.sureAddr, r0, r1, hE.size]
      · refine ⟨Nat.le_of_eq hgen, fun _ ob' hob' => ?_⟩
        simp only at hob'
        rw [hob] at hob'
        cases hob'
        refine ⟨_, hpath _ _ _ i.toNat k1 (by omega), ?_⟩
        unfold Addr.add
        by_cases hz : i.toNat * e.size = 0 <;> simp [hz]
    · cases hk
  unfold indexAddrK at hk
  split at hk
  · rename_i E
    obtain ⟨_, hpos, te, h1, hE⟩ := hT
    split at hk
    · rename_i p rl rh hr
      have hr := refOf_some hr
      have hv := h.ope x
      rw [hr] at hv
      split at hk
      · rename_i e' hel
        obtain ⟨hb, hk⟩ := cond_some hk
        obtain ⟨hir, hk⟩ := cond_some hk
        obtain ⟨r0, r1⟩ := inR_iff hir
        obtain ⟨ob, hgen, hob, rfl⟩ := liveK_some hk
        obtain ⟨off, e, ad, cap, k1, k2, k3, k4, k5, k6, k7, k8⟩ := hv.2 hgen ob hob
        rw [hel] at k2
        simp only [Option.some.injEq] at k2
        subst k2
        have := Ty.beq_eq _ _ hb
        subst this
        refine .mk (v := .pointer (some (ad.add (i.toNat * e'.size)))) ?_ ?_
        · rw [k5, hix]
          simp [Instr.indexAt, asIntOf, run_underlying h1, r0, hE.size]
          intro h9
          omega
        · refine ⟨Nat.le_of_eq hgen, fun _ ob' hob' => ?_⟩
          simp only at hob'
          rw [hob] at hob'
          cases hob'
          rw [k8 (by omega)]
          refine ⟨off + (rl + i.toNat) * e'.size, elemPath hel k1 (by omega), ?_⟩
          unfold Addr.add
          by_cases hz : i.toNat * e'.size = 0
          · rw [if_pos hz, Nat.add_mul, hz]; rfl
          · rw [if_neg hz, Nat.add_mul, Nat.add_assoc]
      · cases hk
    · obtain ⟨u, hu, hk⟩ := bind_some hk
      obtain ⟨ao, len, cap, es, hx, rfl, g1, g2, g3, g4, g5⟩ := (h.opv hu).slice
      obtain ⟨hir, hk⟩ := cond_some hk
      obtain ⟨r0, r1⟩ := inR_iff hir
      simp only [AV.toSlice] at *
      rw [tell_some hk]
      cases ao with
      | none => have := g4 rfl; omega
      | some p =>
        obtain ⟨y, hy⟩ : ∃ y, es[i.toNat]? = some y := ⟨es[i.toNat]'(by omega), List.getElem?_eq_getElem (by omega)⟩
        obtain ⟨ds, q1, q2, q3⟩ := g5 p rfl _ y hy
        refine .mk (v := .pointer (some (p.add (i.toNat * E.size)))) ?_ ?_
        · rw [hx, hix]
          simp [Instr.indexAt, asIntOf, run_underlying h1, r0, hE.size]
          intro h9
          omega
        · rw [nth_of hy, Rep.co_eq _ _ _ q3]
          exact ⟨_, ds, rfl, q1, q3⟩
  · rename_i n
    obtain ⟨_, te, h1, h2, h3⟩ := hT
    exact arr n (.int .u8) te h1 ⟨h3, h2⟩ (fun path U off j k1 hj => by simpa [Ty.size] using PathOk.snocB path U n off j k1 hj) hk
  · rename_i n e
    obtain ⟨_, te, h1, h2⟩ := hT
    exact arr n e te h1 h2 (fun path U off j k1 hj => PathOk.snocA path U n e off j k1 hj) hk
  · cases hk
where
  elemPath {T e U : Ty} {path : List Nat} {off j : Nat} (he : T.elem = some e) (hp : PathOk path U T off) (hj : j < T.count) : PathOk (path ++ [j]) U e (off + j * e.size) := by
    cases T <;> simp [Ty.elem] at he
    case blob n => subst he; simpa [Ty.size] using PathOk.snocB path U n off j hp hj
    case arr n f => subst he; exact PathOk.snocA path U n f off j hp hj

theorem offset_eq {P : Program} : ∀ (Fs : List Ty) (fs : List Field) (off i : Nat) (F : Ty), TyOkL P Fs fs off → Fs[i]? = some F → ∃ f, fs[i]? = some f ∧ f.offset = off + Ty.sizeL (Fs.take i) ∧ TyOk P F f.type ∧ 0 < F.size
  | [], _, _, _, _, _, h => by simp at h
  | T :: Ts, fs, off, 0, F, h, hF => by
    simp at hF
    subst hF
    simp only [TyOkL] at h
    obtain ⟨f, r, rfl, h1, _, h2, h3, _⟩ := h
    exact ⟨f, rfl, by simp [Ty.sizeL, h1], h3, h2⟩
  | T :: Ts, fs, off, i + 1, F, h, hF => by
    simp only [TyOkL] at h
    obtain ⟨f, r, rfl, h1, _, h2, h3, h4⟩ := h
    obtain ⟨g, k1, k2, k3, k4⟩ := offset_eq Ts r _ i F h4 (by simpa using hF)
    exact ⟨g, by simpa using k1, by rw [k2]; simp only [List.take_succ_cons, Ty.sizeL]; omega, k3, k4⟩

theorem fieldAddrK_tells (hP : EnvOk P G) (h : Rel c gh s a w) {t : TypeId} {T : Ty} {x : Operand} {i : Nat} {f : Eff} (ht : G.tyOf t = some T)
    (hk : fieldAddrK s T x i some = some f) : Tells P gh s w (Instr.fieldAt t (a.eval x) i) f := by
  have hT := hP.ty _ _ ht
  unfold fieldAddrK at hk
  split at hk
  · rename_i Fs
    obtain ⟨_, _, fs, h1, h2⟩ := hT
    split at hk
    · rename_i F hF
      obtain ⟨fd, q1, q2, q3, q4⟩ := offset_eq Fs fs.toList 0 i F h2 hF
      have q1' : fs[i]? = some fd := by simpa using q1
      have hsz : (sizeOf fd.type).run P w = .ok F.size w := q3.size
      have run : ∀ p : Addr, (Instr.fieldAt t (.pointer (some p)) i).run P w = .ok (.pointer (some (p.add fd.offset))) w := fun p => by
        have h0 : ¬ F.size = 0 := by omega
        simp [Instr.fieldAt, run_underlying h1, q1', Instr.sureAddr, fieldPlace, hsz, h0]
      split at hk
      · rename_i T' y hp
        have hv := h.ope x
        rw [hp] at hv
        obtain ⟨hb, hk⟩ := cond_some hk
        rw [tell_some hk]
        obtain ⟨p, cs, r1, r2, r3⟩ := hv
        rw [Ty.beq_eq _ _ hb] at r3
        simp only [Rep] at r3
        obtain ⟨xs, rfl, r3⟩ := r3
        obtain ⟨z, z1, z2, z3⟩ := RepL.at Fs cs xs i F r3 hF
        refine .mk (by rw [r1]; exact run p) ?_
        rw [fld_agg, nth_of z1, Rep.co_eq _ _ _ z2]
        refine ⟨_, _, rfl, fun j v hj => ?_, z2⟩
        rw [List.getElem?_take] at hj
        split at hj
        · rw [List.getElem?_drop] at hj
          rw [Addr.add_add, q2, Nat.zero_add]
          exact r2 _ v hj
        · cases hj
      · rename_i p hp
        have hv := h.ope x
        rw [hp] at hv
        obtain ⟨hb, hk⟩ := cond_some hk
        obtain ⟨ob, hgen, hob, rfl⟩ := liveK_some hk
        obtain ⟨off, k1, k2⟩ := hv.2 hgen ob hob
        rw [Ty.beq_eq _ _ hb] at k1
        refine .mk (by rw [k2]; exact run _) ?_
        refine ⟨Nat.le_of_eq hgen, fun _ ob' hob' => ?_⟩
        simp only at hob'
        rw [hob] at hob'
        cases hob'
        refine ⟨_, PathOk.snocS _ _ _ _ i F k1 hF, ?_⟩
        rw [q2, Nat.zero_add]
        unfold Addr.add
        by_cases hz : Ty.sizeL (Fs.take i) = 0 <;> simp [hz]
      · cases hk
    · cases hk
  · cases hk

theorem fieldK_tells (hP : EnvOk P G) (h : Rel c gh s a w) {t : TypeId} {fs : List Ty} {F : Ty} {x : Operand} {i : Nat} {u : AV} (ht : G.tyOf t = some (.struct fs)) (hF : fs[i]? = some F) (hu : s.opv (.struct fs) x = some u) :
    Tells P gh s w (Instr.field t (a.eval x) i) ⟨.val F none (F.co (u.fld i)), [], [], [], []⟩ := by
  obtain ⟨_, _, fd, h1, h2⟩ := hP.ty _ _ ht
  obtain ⟨f, q1, q2, q3, q4⟩ := offset_eq fs fd.toList 0 i F h2 hF
  have q1' : fd[i]? = some f := by simpa using q1
  obtain ⟨cs, hx, r⟩ := (h.opv hu).agg rfl
  simp only [Rep] at r
  obtain ⟨xs, rfl, r⟩ := r
  obtain ⟨z, z1, z2, z3⟩ := RepL.at fs cs xs i F r hF
  have hpart := run_part (w := w) q3 cs f.offset (by rw [q2]; omega)
  refine .mk (v := F.val ((cs.drop f.offset).take F.size)) ?_ (.plain ?_)
  · rw [hx]
    simp [Instr.field, run_underlying h1, q1', asAgg, hpart]
  · rw [fld_agg, nth_of z1, Rep.co_eq _ _ _ z2]
    rw [q2, Nat.zero_add]
    exact ⟨_, rfl, z2⟩

theorem indexK_tells (hP : EnvOk P G) (h : Rel c gh s a w) {t : TypeId} {T : Ty} {x ix : Operand} {i : Int} {u : AV} {f : Eff} (ht : G.tyOf t = some T) (hi : s.opi ix = some i) (hu : s.opv T x = some u)
    (hk : indexK T u i some = some f) : Tells P gh s w (Instr.index t (a.eval x) (a.eval ix)) f := by
  have hT := hP.ty _ _ ht
  obtain ⟨ki, hix⟩ := h.opi hi
  unfold indexK at hk
  split at hk
  · obtain ⟨hir, hk⟩ := cond_some hk
    obtain ⟨r0, r1⟩ := inR_iff hir
    obtain ⟨n, hx, rfl, hl⟩ := (h.opv hu).str
    simp only [AV.toStr] at *
    rw [tell_some hk]
    have hb : (ByteArray.mk n.toArray)[i.toNat]? = some (n.getD i.toNat 0) := by
      have h2 : i.toNat < n.length := by omega
      show (if h : i.toNat < (ByteArray.mk n.toArray).size then some ((ByteArray.mk n.toArray)[i.toNat]) else none) = _
      have h3 : i.toNat < (ByteArray.mk n.toArray).size := by simpa [ByteArray.size] using h2
      rw [dif_pos h3]
      simp [List.getD, h2]
      rfl
    refine .mk (v := .int .u8 ((n.getD i.toNat 0).toNat : Int)) ?_ (.plain (.int_mk (u8_wf _)))
    rw [hx, hix]
    simp only [Instr.index, asIntOf, Sem.run_bind, Sem.run_pure, Result.andThen_ok, run_underlying hT.2, if_pos r0, hb]
  · rename_i n
    obtain ⟨hir, hk⟩ := cond_some hk
    obtain ⟨r0, r1⟩ := inR_iff hir
    rw [tell_some hk]
    obtain ⟨cs, hx, l, hl, rfl, rfl⟩ := (h.opv hu).agg rfl
    obtain ⟨_, te, h1, h2, h3⟩ := hT
    have hE : TyOk P (.int .u8) te := ⟨h3, h2⟩
    have hpart := run_part (w := w) hE (l.map byteV) (i.toNat * 1) (by simp [Ty.size]; omega)
    simp only [Ty.size, Nat.mul_one] at hpart
    rw [byte_at (by omega), val_one rfl] at hpart
    refine .mk (v := byteV (l.getD i.toNat 0)) ?_ (.plain (.int_mk (u8_wf _)))
    rw [hx, hix]
    have hsz : (sizeOf te).run P w = .ok 1 w := hE.size
    simp only [Instr.index, asIntOf, Sem.run_bind, Sem.run_pure, Result.andThen_ok, run_underlying h1, if_pos (⟨r0, r1⟩ : 0 ≤ i ∧ i < (n : Int)), hsz, Nat.mul_one, hpart]
  · rename_i n e
    obtain ⟨hir, hk⟩ := cond_some hk
    obtain ⟨r0, r1⟩ := inR_iff hir
    rw [tell_some hk]
    obtain ⟨cs, hx, r⟩ := (h.opv hu).agg rfl
    simp only [Rep] at r
    obtain ⟨xs, rfl, hn, hc, r⟩ := r
    obtain ⟨_, te, h1, hE⟩ := hT
    obtain ⟨y, hy⟩ : ∃ y, xs[i.toNat]? = some y := ⟨xs[i.toNat]'(by omega), List.getElem?_eq_getElem (by omega)⟩
    have ry := r _ y hy
    have hb : (i.toNat + 1) * e.size ≤ n * e.size := Nat.mul_le_mul_right _ (by omega)
    rw [Nat.succ_mul] at hb
    have hpart := run_part (w := w) hE cs (i.toNat * e.size) (by omega)
    refine .mk (v := e.val ((cs.drop (i.toNat * e.size)).take e.size)) ?_ (.plain ?_)
    · rw [hx, hix]
      simp only [Instr.index, asIntOf, Sem.run_bind, Sem.run_pure, Result.andThen_ok, run_underlying h1, if_pos (⟨r0, r1⟩ : 0 ≤ i ∧ i < (n : Int)), hE.size, hpart]
    · rw [fld_agg, nth_of hy, Rep.co_eq _ _ _ ry]
      exact ⟨_, rfl, ry⟩
  · cases hk

/- loads -/
theorem Rel.getPt (h : Rel c gh s a w) {p : Pt} {x : AV} {v : Value} (hv : PtRel gh s p v) (hx : s.getPt p = some x) :
    ∃ ob off cs, (s.slot p.id).ob = some ob ∧ p.gen = (s.slot p.id).gen ∧ PathOk p.path ob.t p.t off ∧ v = .pointer (some ⟨gh.m p.id, off, none⟩) ∧ Rep gh.S p.t cs x ∧
      (∀ j u, cs[j]? = some u → w.cell? ((⟨gh.m p.id, off, none⟩ : Addr).add j) = some u) ∧ x = getP ob.t ob.x p.path := by
  unfold St.getPt at hx
  obtain ⟨ob, hob, rfl⟩ := Option.map_eq_some_iff.1 hx
  obtain ⟨hgen, hob⟩ := obAt_some hob
  obtain ⟨off, k1, k2⟩ := hv.2 hgen ob hob
  obtain ⟨cs0, g1, g2, g3, g4⟩ := h.objs p.id ob hob
  have r := getP_rep p.path ob.t p.t off cs0 ob.x k1 g3
  refine ⟨ob, off, _, hob, hgen, k1, k2, r.1, fun j u hj => ?_, rfl⟩
  rw [List.getElem?_take] at hj
  split at hj
  · rw [List.getElem?_drop] at hj
    have : (⟨gh.m p.id, off, none⟩ : Addr).add j = ⟨gh.m p.id, off + j, none⟩ := by
      unfold Addr.add
      by_cases hj0 : j = 0 <;> simp [hj0]
    rw [this, g1.cell]
    exact hj
  · cases hj

theorem load_at (hP : EnvOk P G) (h : Rel c gh s a w) {t : TypeId} {T : Ty} {x : Operand} {y : AV} (ht : G.tyOf t = some T) (hx : s.ope x = .at T y) :
    Tells P gh s w (Instr.loadAt t (a.eval x)) ⟨.val T none y, [], [], [], []⟩ := by
  have hv := h.ope x
  rw [hx] at hv
  obtain ⟨p, cs, r1, r2, r3⟩ := hv
  refine .mk (v := T.val cs) ?_ (.plain ⟨_, rfl, r3⟩)
  rw [r1]
  simp only [Instr.loadAt, Instr.sureAddr, Sem.run_bind, Sem.run_pure, Result.andThen_ok]
  exact run_loadVar (hP.ty _ _ ht) p cs (Rep.len _ _ _ r3) (Snap.has_cells r2 h.agree)

theorem load_ptr (hP : EnvOk P G) (h : Rel c gh s a w) {t : TypeId} {x : Operand} {p : Pt} {y : AV} (ht : G.tyOf t = some p.t) (hx : s.ope x = .ptr p) (hy : s.getPt p = some y) :
    Tells P gh s w (Instr.loadAt t (a.eval x)) ⟨.val p.t none (p.t.co y), [], [], [p.id], []⟩ := by
  have hv := h.ope x
  rw [hx] at hv
  obtain ⟨ob, off, cs, k1, k2, k3, k4, k5, k6, _⟩ := h.getPt hv hy
  refine .mk (v := p.t.val cs) ?_ (.plain ⟨_, rfl, by rw [Rep.co_eq _ _ _ k5]; exact k5⟩)
  rw [k4]
  simp only [Instr.loadAt, Instr.sureAddr, Sem.run_bind, Sem.run_pure, Result.andThen_ok]
  exact run_loadVar (hP.ty _ _ ht) _ cs (Rep.len _ _ _ k5) k6

end Go.Proofs.Ytcpdiahbdmcdcaa.Ev
