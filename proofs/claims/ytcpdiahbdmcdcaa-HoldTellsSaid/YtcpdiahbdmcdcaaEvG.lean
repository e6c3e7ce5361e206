/- Operands; the operations that tell a value and turn no memory. -/
import Derived.Test.YtcpdiahbdmcdcaaEvF
import Derived.Laws.Concat
import Derived.Laws.StructEq
import Derived.Laws.BytesArg
import Derived.WalkKit
namespace Go.Proofs.Ytcpdiahbdmcdcaa.Ev
open Go Go.RowKit

variable {c : Ctx} {gh : Ghost} {s : St} {a : Act} {w : World} {P : Program} {G : Env}

structure EnvOk (P : Program) (G : Env) : Prop where
  ty : ∀ t T, G.tyOf t = some T → TyOk P T t
  bytes : ∀ t b, assoc G.bytes t = some b → ∃ e i, P.underlying t = some (.slice e) ∧ P.info? e = some i ∧ i.bytes = b ∧ 0 < b

theorem atTy_some {e : Ent} {T : Ty} {x : AV} (h : e.atTy T = some x) : ∃ g, e = .val T g x := by
  cases e <;> simp [Ent.atTy] at h
  rename_i t g y
  cases hb : t.beq T with
  | false => simp [hb] at h
  | true =>
    simp [hb] at h
    subst h
    exact ⟨g, by rw [Ty.beq_eq _ _ hb]⟩

theorem Rel.opv (h : Rel c gh s a w) {T : Ty} {x : Operand} {y : AV} (e : s.opv T x = some y) : VRep gh.S T (a.eval x) y := by
  cases x with
  | tmp i =>
    obtain ⟨g, hg⟩ := atTy_some e
    have := h.tmps i
    rw [hg] at this
    exact this.1
  | const v => exact const_rep gh.S e
  | func f =>
    cases T <;> simp [St.opv] at e
    subst e
    exact ⟨[.func (.func f) #[] #[]], rfl, f, rfl, rfl⟩
  | «global» g => simp [St.opv] at e

theorem VRep.int {S : Snap} {k : IntKind} {v : Value} {y : AV} (h : VRep S (.int k) v y) : ∃ n, v = .int k n ∧ y = .int n ∧ (Lit.int k n).wf = true := by
  obtain ⟨cs, rfl, n, rfl, rfl, wf⟩ := h
  exact ⟨n, rfl, rfl, wf⟩
theorem VRep.bool {S : Snap} {v : Value} {y : AV} (h : VRep S .bool v y) : ∃ b, v = .bool b ∧ y = .bool b := by
  obtain ⟨cs, rfl, n, rfl, rfl⟩ := h
  exact ⟨n, rfl, rfl⟩
theorem VRep.str {S : Snap} {v : Value} {y : AV} (h : VRep S .str v y) : ∃ s : List UInt8, v = .string ⟨s.toArray⟩ ∧ y = .str s ∧ s.length ≤ maxLen := by
  obtain ⟨cs, rfl, n, rfl, rfl, wf⟩ := h
  exact ⟨n, rfl, rfl, wf⟩
theorem VRep.fn {S : Snap} {v : Value} {y : AV} (h : VRep S .fn v y) : ∃ f, v = .func (.func f) #[] #[] ∧ y = .fn f := by
  obtain ⟨cs, rfl, n, rfl, rfl⟩ := h
  exact ⟨n, rfl, rfl⟩
theorem VRep.agg {S : Snap} {T : Ty} {v : Value} {y : AV} (ha : T.isAgg = true) (h : VRep S T v y) : ∃ cs, v = .agg cs.toArray ∧ Rep S T cs y := by
  obtain ⟨cs, rfl, r⟩ := h
  exact ⟨cs, by simp [Ty.val, ha], r⟩
theorem VRep.slice {S : Snap} {e : Ty} {v : Value} {y : AV} (h : VRep S (.slice e) v y) : ∃ a len cap es, v = .slice a len cap ∧ y = .slice es ∧ es.length = len ∧ len ≤ cap ∧ cap ≤ maxLen ∧ (a = none → cap = 0) ∧
      ∀ p, a = some p → ∀ i y, es[i]? = some y → ∃ ds, S.has (p.add (i * e.size)) ds ∧ ds.length = e.size ∧ Rep S e ds y := by
  obtain ⟨cs, rfl, r⟩ := h
  simp only [Rep] at r
  obtain ⟨a, len, cap, es, rfl, r⟩ := r
  exact ⟨a, len, cap, es, rfl, r⟩

theorem VRep.int_mk {S : Snap} {k : IntKind} {n : Int} (h : (Lit.int k n).wf = true) : VRep S (.int k) (.int k n) (.int n) := ⟨[.int k n], rfl, n, rfl, rfl, h⟩
theorem VRep.bool_mk {S : Snap} (b : Bool) : VRep S .bool (.bool b) (.bool b) := ⟨[.bool b], rfl, b, rfl, rfl⟩
theorem VRep.str_mk {S : Snap} {l : List UInt8} (h : l.length ≤ maxLen) : VRep S .str (.string ⟨l.toArray⟩) (.str l) := ⟨[.string ⟨l.toArray⟩], rfl, l, rfl, rfl, h⟩

/-- A value without a tag. -/
theorem EntRel.plain {T : Ty} {v : Value} {y : AV} (h : VRep gh.S T v y) : EntRel gh s (.val T none y) v := ⟨h, fun g' n e => by cases e⟩

theorem Rel.opi (h : Rel c gh s a w) {x : Operand} {n : Int} (e : s.opi x = some n) : ∃ k, a.eval x = .int k n := by
  cases x with
  | tmp i =>
    simp only [St.opi] at e
    have := h.tmps i
    cases hl : s.look i <;> rw [hl] at e this <;> simp [Ent.asInt] at e
    rename_i T g y
    cases T <;> simp at e
    subst e
    obtain ⟨n, h1, rfl, _⟩ := this.1.int
    exact ⟨_, h1⟩
  | const v => cases v <;> simp [St.opi] at e; subst e; exact ⟨_, rfl⟩
  | func f => simp [St.opi] at e
  | «global» g => simp [St.opi] at e

theorem Rel.ope (h : Rel c gh s a w) (x : Operand) : EntRel gh s (s.ope x) (a.eval x) := by
  cases x with
  | tmp i => exact h.tmps i
  | const v => trivial
  | func f => trivial
  | «global» g => trivial

/- telling -/
theorem wp_value {o : Oper} {f : Eff} {gh' : Ghost} {w' : World} {v : Value} {next : Act → World → Prop} {Q : Exit → Act → World → Prop}
    (hr : (execOp a.eval o).run P w = .ok (.value v) w') (h : Rel c gh' (s.mid f) a w') (he : EntRel gh' (s.mid f) f.e v) (hd : dstOk s o.dst = true)
    (hn : ∀ gh' a' w', Rel c gh' (f.apply o.dst s) a' w' → next a' w') : o.wp P a w next Q := by
  unfold Oper.wp
  rw [hr]
  exact hn gh' _ _ (h.put o.dst he hd)

theorem mid_pure (s : St) (e : Ent) (ro rw' : List Nat) : s.mid ⟨e, [], [], ro, rw'⟩ = s := rfl

/-- An operation that tells a value, and turns nothing. -/
theorem wp_tell {o : Oper} {e : Ent} {ro rw' : List Nat} {v : Value} {next : Act → World → Prop} {Q : Exit → Act → World → Prop} (h : Rel c gh s a w)
    (hr : (execOp a.eval o).run P w = .ok (.value v) w) (he : EntRel gh s e v) (hd : dstOk s o.dst = true)
    (hn : ∀ gh' a' w', Rel c gh' (Eff.apply ⟨e, [], [], ro, rw'⟩ o.dst s) a' w' → next a' w') : o.wp P a w next Q :=
  wp_value (f := ⟨e, [], [], ro, rw'⟩) hr h he hd hn

/- numbers -/
theorem wrap_wf (k : IntKind) (n : Int) : (Lit.int k (k.wrap n)).wf = true := by
  cases k <;> simp [Lit.wf, IntKind.wrap, IntKind.min, IntKind.max, IntKind.signed, IntKind.bits] <;> (try split) <;> omega

theorem wf_bounds {k : IntKind} {n : Int} (h : (Lit.int k n).wf = true) : k.min ≤ n ∧ n ≤ k.max := by
  simpa [Lit.wf] using h

theorem tmod_wf {k : IntKind} {x : Int} (y : Int) (hx : (Lit.int k x).wf = true) : (Lit.int k (x.tmod y)).wf = true := by
  have h1 := wf_bounds hx
  have h0 : k.min ≤ 0 ∧ 0 ≤ k.max := by cases k <;> decide
  have h2 := Int.natAbs_tmod x y
  have h3 := Nat.mod_le x.natAbs y.natAbs
  rw [← h2] at h3
  simp only [Lit.wf, Bool.and_eq_true, decide_eq_true_eq]
  rcases Int.le_total 0 x with hp | hp
  · have a1 := Int.tmod_nonneg y hp
    omega
  · have a1 : x.tmod y ≤ 0 := by
      have := Int.tmod_nonneg y (show 0 ≤ -x by omega)
      rw [Int.neg_tmod] at this
      omega
    omega

theorem fdiv_wf {k : IntKind} {x : Int} (n : Nat) (hx : (Lit.int k x).wf = true) : (Lit.int k (x.fdiv (2 ^ n))).wf = true := by
  have h1 := wf_bounds hx
  have h0 : k.min ≤ 0 ∧ 0 ≤ k.max := by cases k <;> decide
  have hp : (0 : Int) < 2 ^ n := Int.pow_pos (by decide)
  rw [Int.fdiv_eq_ediv_of_nonneg _ (by omega)]
  simp only [Lit.wf, Bool.and_eq_true, decide_eq_true_eq]
  generalize hd : (2 ^ n : Int) = d at *
  have a1 : x / d * d ≤ x := Int.ediv_mul_le x (by omega)
  have a2 : x < (x / d + 1) * d := Int.lt_ediv_add_one_mul_self x hp
  generalize x / d = q at *
  rcases Int.le_total 0 x with hx0 | hx0
  · have b1 : 0 ≤ q := by
      rcases Int.lt_or_le q 0 with hq | hq
      · have := Int.mul_nonneg (show 0 ≤ -(q + 1) by omega) (show 0 ≤ d by omega)
        rw [Int.neg_mul] at this
        omega
      · exact hq
    have b2 : q ≤ x := by
      have := Int.mul_nonneg b1 (show 0 ≤ d - 1 by omega)
      rw [Int.mul_sub] at this
      omega
    omega
  · have b1 : q ≤ 0 := by
      rcases Int.lt_or_le 0 q with hq | hq
      · have := Int.mul_pos hq hp
        omega
      · exact hq
    have b2 : x ≤ q := by
      rcases Int.lt_or_le q 0 with hq | hq
      · have := Int.mul_nonneg (show 0 ≤ -(q + 1) by omega) (show 0 ≤ d - 1 by omega)
        rw [Int.neg_mul, Int.mul_sub] at this
        omega
      · omega
    omega

end Go.Proofs.Ytcpdiahbdmcdcaa.Ev
