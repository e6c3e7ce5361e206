/- What the evaluator's types, constants and states stand for in a program and in memory. -/
import Derived.Test.YtcpdiahbdmcdcaaEvB
namespace Go.Proofs.Ytcpdiahbdmcdcaa.Ev
open Go Go.RowKit

/- constants -/
theorem absBytes_rep : ∀ (cs : List Value) (l : List UInt8), absBytes cs = some l → cs = l.map byteV
  | [], l, h => by simp [absBytes] at h; subst h; rfl
  | v :: cs, l, h => by
    simp only [absBytes] at h
    split at h
    · rename_i n
      cases hc : (decide (0 ≤ n) && decide (n < 256)) with
      | false => rw [hc] at h; simp at h
      | true =>
        rw [hc] at h
        simp only [cond_true] at h
        obtain ⟨l', hl, rfl⟩ := Option.map_eq_some_iff.1 h
        rw [absBytes_rep _ _ hl]
        simp only [Bool.and_eq_true, decide_eq_true_eq] at hc
        simp only [List.map_cons, byteV, List.cons.injEq, Value.int.injEq, and_true, true_and]
        rw [UInt8.toNat_ofNat_of_lt' (by show n.toNat < 256; omega)]
        omega
    · simp at h

theorem one_some {f : Value → Option AV} {cs : List Value} {x : AV} (h : one f cs = some x) : ∃ v, cs = [v] ∧ f v = some x := by
  rcases cs with _ | ⟨c, _ | ⟨c', cs⟩⟩
  · simp [one] at h
  · exact ⟨c, rfl, h⟩
  · simp [one] at h

mutual
theorem abs_rep (S : Snap) : ∀ (t : Ty) (cs : List Value) (x : AV), t.abs cs = some x → Rep S t cs x
  | .bool, cs, x, h => by
    simp only [Ty.abs] at h
    have h' := one_some h
    clear h
    obtain ⟨v, rfl, h⟩ := h'
    cases v <;> simp [absBool] at h
    subst h
    exact ⟨_, rfl, rfl⟩
  | .int k, cs, x, h => by
    simp only [Ty.abs] at h
    have h' := one_some h
    clear h
    obtain ⟨v, rfl, h⟩ := h'
    cases v <;> simp only [absInt] at h <;> try (simp at h; done)
    rename_i k' n
    cases hc : (Nat.beq (kindNo k) (kindNo k') && (Lit.int k n).wf) with
    | false => rw [hc] at h; simp at h
    | true =>
      rw [hc] at h
      simp only [cond_true, Option.some.injEq] at h
      subst h
      simp only [Bool.and_eq_true] at hc
      have := kindNo_inj (Nat.eq_of_beq_eq_true hc.1)
      subst this
      exact ⟨n, rfl, rfl, hc.2⟩
  | .str, cs, x, h => by
    simp only [Ty.abs] at h
    have h' := one_some h
    clear h
    obtain ⟨v, rfl, h⟩ := h'
    cases v <;> simp only [absStr] at h <;> try (simp at h; done)
    rename_i s
    cases hc : Nat.ble s.data.toList.length maxLen with
    | false => rw [hc] at h; simp at h
    | true =>
      rw [hc] at h
      simp only [cond_true, Option.some.injEq] at h
      subst h
      exact ⟨s.data.toList, by cases s; simp, rfl, Nat.le_of_ble_eq_true hc⟩
  | .slice e, cs, x, h => by
    simp only [Ty.abs] at h
    have h' := one_some h
    clear h
    obtain ⟨v, rfl, h⟩ := h'
    unfold absNil at h
    split at h
    · injection h with h
      subst h
      simp only [Rep]
      exact ⟨none, 0, 0, [], rfl, rfl, rfl, Nat.le_refl _, by simp [maxLen], fun _ => rfl, by simp⟩
    · cases h
  | .blob n, cs, x, h => by
    simp only [Ty.abs] at h
    obtain ⟨l, hl, h⟩ := Option.bind_eq_some_iff.1 h
    cases hc : Nat.beq l.length n with
    | false => rw [hc] at h; simp at h
    | true =>
      rw [hc] at h
      simp only [cond_true, Option.some.injEq] at h
      subst h
      exact ⟨l, Nat.eq_of_beq_eq_true hc, absBytes_rep _ _ hl, rfl⟩
  | .struct fs, cs, x, h => by
    simp only [Ty.abs] at h
    obtain ⟨l, hl, rfl⟩ := Option.map_eq_some_iff.1 h
    simp only [Rep]
    exact ⟨l, rfl, absL_rep S fs cs l hl⟩
  | .arr _ _, cs, x, h => by simp [Ty.abs] at h
  | .fn, cs, x, h => by simp [Ty.abs] at h
theorem absL_rep (S : Snap) : ∀ (ts : List Ty) (cs : List Value) (xs : List AV), Ty.absL ts cs = some xs → RepL S ts cs xs
  | [], cs, xs, h => by
    cases cs with
    | nil => simp [Ty.absL] at h; subst h; exact ⟨rfl, rfl⟩
    | cons c cs => simp [Ty.absL] at h
  | t :: ts, cs, xs, h => by
    simp only [Ty.absL] at h
    cases hc : Nat.ble t.size cs.length with
    | false => rw [hc] at h; simp at h
    | true =>
      rw [hc] at h
      simp only [cond_true] at h
      obtain ⟨y, hy, h⟩ := Option.bind_eq_some_iff.1 h
      obtain ⟨ys, hys, rfl⟩ := Option.map_eq_some_iff.1 h
      simp only [RepL]
      exact ⟨y, ys, rfl, Nat.le_of_ble_eq_true hc, abs_rep S t _ _ hy, absL_rep S ts _ _ hys⟩
end

theorem const_rep (S : Snap) {t : Ty} {v : Value} {x : AV} (h : t.const v = some x) : VRep S t v x := by
  unfold Ty.const at h
  cases ha : t.isAgg with
  | true =>
    simp only [ha, cond_true] at h
    split at h
    · rename_i cs
      exact ⟨cs.toList, by simp [Ty.val, ha], abs_rep S _ _ _ h⟩
    · simp at h
  | false =>
    simp only [ha, cond_false] at h
    cases hn : Value.notAgg v with
    | false => simp [hn] at h
    | true =>
      simp only [hn, cond_true] at h
      exact ⟨[v], by simp [Ty.val, ha], abs_rep S _ _ _ h⟩

/- zero values -/
theorem repCells_length (cs : List Value) (n : Nat) : (repCells cs n).length = n * cs.length := by
  induction n with
  | zero => simp [repCells]
  | succ n ih => simp [repCells, ih, Nat.succ_mul]; omega

theorem repCells_part (cs : List Value) : ∀ (n i : Nat), i < n → ((repCells cs n).drop (i * cs.length)).take cs.length = cs
  | 0, i, h => by omega
  | n + 1, 0, _ => by simp [repCells]
  | n + 1, i + 1, h => by
    have := repCells_part cs n i (by omega)
    simp only [repCells]
    rw [Nat.succ_mul, Nat.add_comm, ← List.drop_drop, List.drop_left]
    exact this

theorem byteV_zero : byteV 0 = .int .u8 0 := rfl

mutual
theorem zero_rep (S : Snap) : ∀ (t : Ty), t.noFn = true → Rep S t t.zeroCells t.zero
  | .bool, _ => ⟨false, rfl, rfl⟩
  | .int k, _ => ⟨0, rfl, rfl, by cases k <;> rfl⟩
  | .str, _ => ⟨[], rfl, rfl, by simp [maxLen]⟩
  | .blob n, _ => ⟨List.replicate n 0, by simp, by simp [Ty.zeroCells, byteV_zero], rfl⟩
  | .arr n e, h => by
    simp only [Ty.noFn] at h
    have he := zero_rep S e h
    have hl := Rep.len e _ _ he
    simp only [Rep, Ty.zeroCells, Ty.zero]
    refine ⟨_, rfl, by simp, by rw [repCells_length, hl], fun i y hy => ?_⟩
    rw [List.getElem?_replicate] at hy
    split at hy
    · rename_i hi
      simp at hy
      subst hy
      rw [← hl, repCells_part _ _ _ hi]
      exact he
    · simp at hy
  | .struct fs, h => by
    simp only [Ty.noFn] at h
    simp only [Rep, Ty.zeroCells, Ty.zero]
    exact ⟨_, rfl, zeroL_rep S fs h⟩
  | .slice e, _ => by
    simp only [Rep, Ty.zeroCells, Ty.zero]
    exact ⟨none, 0, 0, [], rfl, rfl, rfl, Nat.le_refl _, by simp [maxLen], fun _ => rfl, by simp⟩
  | .fn, h => by simp [Ty.noFn] at h
theorem zeroL_rep (S : Snap) : ∀ (ts : List Ty), Ty.noFnL ts = true → RepL S ts (Ty.zeroCellsL ts) (Ty.zeroL ts)
  | [], _ => ⟨rfl, rfl⟩
  | t :: ts, h => by
    simp only [Ty.noFnL, Bool.and_eq_true] at h
    have h1 := zero_rep S t h.1
    have hl := Rep.len t _ _ h1
    have h2 := zeroL_rep S ts h.2
    simp only [RepL, Ty.zeroCellsL, Ty.zeroL]
    refine ⟨_, _, rfl, by simp [hl], ?_, ?_⟩
    · rw [← hl]; simpa using h1
    · rw [← hl]; simpa using h2
end

/- a program's types -/
def TBase (P : Program) (T : Ty) (t : TypeId) : Prop := ∃ i, P.info? t = some i ∧ i.size = T.size ∧ i.zero = some (T.val T.zeroCells)

mutual
def TyOk (P : Program) : Ty → TypeId → Prop
  | .bool, t => TBase P .bool t ∧ P.underlying t = some .bool
  | .int k, t => TBase P (.int k) t ∧ P.underlying t = some (.int k)
  | .str, t => TBase P .str t ∧ P.underlying t = some .string
  | .blob n, t => TBase P (.blob n) t ∧ ∃ e, P.underlying t = some (.array n e) ∧ P.underlying e = some (.int .u8) ∧ TBase P (.int .u8) e
  | .arr n E, t => TBase P (.arr n E) t ∧ ∃ e, P.underlying t = some (.array n e) ∧ TyOk P E e
  | .struct Fs, t => TBase P (.struct Fs) t ∧ P.stoodInHeld t = false ∧ ∃ fs, P.underlying t = some (.struct fs) ∧ TyOkL P Fs fs.toList 0
  | .slice E, t => TBase P (.slice E) t ∧ 0 < E.size ∧ ∃ e, P.underlying t = some (.slice e) ∧ TyOk P E e
  | .fn, t => TBase P .fn t ∧ ∃ ps rs v, P.underlying t = some (.func ps rs v)
def TyOkL (P : Program) : List Ty → List Field → Nat → Prop
  | [], fs, _ => fs = []
  | T :: Ts, fs, off => ∃ f r, fs = f :: r ∧ f.offset = off ∧ (f.name == "_") = false ∧ 0 < T.size ∧ TyOk P T f.type ∧ TyOkL P Ts r (off + T.size)
end

theorem TyOk.base {P : Program} {T : Ty} {t : TypeId} (h : TyOk P T t) : TBase P T t := by
  cases T <;> simp only [TyOk] at h <;> first | exact h.1 | exact h

end Go.Proofs.Ytcpdiahbdmcdcaa.Ev
