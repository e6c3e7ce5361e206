/- Parts, loads and comparisons, by the type. -/
import Derived.Test.YtcpdiahbdmcdcaaEvG
import Derived.ChangeKeysEq
namespace Go.Proofs.Ytcpdiahbdmcdcaa.Ev
open Go Go.RowKit

variable {P : Program} {w : World}

theorem TyOk.size {T : Ty} {t : TypeId} (h : TyOk P T t) : (sizeOf t).run P w = .ok T.size w := by
  obtain ⟨i, h1, h2, _⟩ := h.base
  simp [sizeOf, typeInfo, h1, h2]
theorem TyOk.cellsOf {T : Ty} {t : TypeId} (h : TyOk P T t) : P.cellsOf t = T.size := by
  obtain ⟨i, h1, h2, _⟩ := h.base
  simp [Program.cellsOf, h1, h2]
theorem TyOk.zero {T : Ty} {t : TypeId} (h : TyOk P T t) : (zeroValue t).run P w = .ok (T.val T.zeroCells) w := by
  obtain ⟨i, h1, h2, h3⟩ := h.base
  simp [zeroValue, typeInfo, h1, h3]

theorem TyOk.isAgg {T : Ty} {t : TypeId} (h : TyOk P T t) : (Go.isAgg t).run P w = .ok T.isAgg w := by
  cases T <;> simp only [TyOk] at h
  case bool => simp [Go.isAgg, run_underlying h.2, Ty.isAgg]
  case int k => simp [Go.isAgg, run_underlying h.2, Ty.isAgg]
  case str => simp [Go.isAgg, run_underlying h.2, Ty.isAgg]
  case blob n => obtain ⟨_, e, h1, _⟩ := h; simp [Go.isAgg, run_underlying h1, Ty.isAgg]
  case arr n E => obtain ⟨_, e, h1, _⟩ := h; simp [Go.isAgg, run_underlying h1, Ty.isAgg]
  case struct fs => obtain ⟨_, _, fs, h1, _⟩ := h; simp [Go.isAgg, run_underlying h1, Ty.isAgg]
  case slice E => obtain ⟨_, _, e, h1, _⟩ := h; simp [Go.isAgg, run_underlying h1, Ty.isAgg]
  case fn => obtain ⟨_, ps, rs, v, h1⟩ := h; simp [Go.isAgg, run_underlying h1, Ty.isAgg]

theorem size_one {T : Ty} (h : T.isAgg = false) : T.size = 1 := by cases T <;> simp [Ty.isAgg, Ty.size] at h ⊢

theorem val_one {T : Ty} (h : T.isAgg = false) (v : Value) : T.val [v] = v := by simp [Ty.val, h]

theorem run_part {T : Ty} {t : TypeId} (h : TyOk P T t) (cs : List Value) (off : Nat) (hle : off + T.size ≤ cs.length) : (part t cs.toArray off).run P w = .ok (T.val ((cs.drop off).take T.size)) w := by
  cases ha : T.isAgg with
  | true => simp [part, h.isAgg, ha, h.size, Ty.val, List.extract]
  | false =>
    have h1 := size_one ha
    rw [h1] at hle
    have hg : cs[off]? = some cs[off] := List.getElem?_eq_getElem (by omega)
    have : (cs.drop off).take 1 = [cs[off]] := by
      rw [List.drop_eq_getElem_cons (by omega), List.take_succ_cons, List.take_zero]
    simp [part, h.isAgg, ha, hg, h1, this, Ty.val]

theorem run_loadVar {T : Ty} {t : TypeId} (h : TyOk P T t) (p : Addr) (cs : List Value) (hl : cs.length = T.size) (hc : ∀ j v, cs[j]? = some v → w.cell? (p.add j) = some v) :
    (loadVar t p).run P w = .ok (T.val cs) w := by
  cases ha : T.isAgg with
  | true =>
    have := run_loadCells_list (P := P) w p cs hc
    rw [hl] at this
    simp [loadVar, h.isAgg, ha, h.size, this, Ty.val]
  | false =>
    have h1 := size_one ha
    rw [h1] at hl
    match cs, hl with
    | [v], _ =>
      have := hc 0 v rfl
      simp only [Addr.add, if_true] at this
      simp [loadVar, h.isAgg, ha, load, Sem.run, this, Ty.val]

theorem Snap.has_cells {S : Snap} {p : Addr} {cs : List Value} (h : S.has p cs) (ag : ∀ p v, S p = some v → w.cell? p = some v) : ∀ j v, cs[j]? = some v → w.cell? (p.add j) = some v := fun j v e => ag _ _ (h j v e)

mutual
def Ty.deep : Ty → Nat
  | .struct fs => 1 + Ty.deepL fs
  | .blob _ => 1
  | .arr _ e => 1 + e.deep
  | .slice e => e.deep
  | _ => 0
def Ty.deepL : List Ty → Nat
  | [] => 0
  | t :: ts => t.deep + Ty.deepL ts
end

theorem toList_mk (l : List UInt8) : (ByteArray.mk l.toArray).toList = l := by rw [ByteArray.toList_eq]

/-- Bytes held against each other one by one. -/
theorem run_eqItems_bytes {e : TypeId} (he : P.underlying e = some (.int .u8)) (hb : TBase P (.int .u8) e) (d : Nat) (s u : List UInt8) (n : Nat) (hs : s.length = n) (hu : u.length = n) :
    ∀ m k, k + m = n → (Op.eqItems (d + 1) e 1 (s.map byteV).toArray (u.map byteV).toArray (List.range' k m)).run P w = .ok (decide (s.drop k = u.drop k)) w := by
  intro m
  induction m with
  | zero =>
    intro k hk
    rw [List.drop_eq_nil_of_le (by omega), List.drop_eq_nil_of_le (by omega)]
    simp [Op.eqItems]
  | succ m ih =>
    intro k hk
    have hT : TyOk P (.int .u8) e := ⟨hb, he⟩
    have h1 := run_part (w := w) hT (s.map byteV) (k * 1) (by simp [Ty.size]; omega)
    have h2 := run_part (w := w) hT (u.map byteV) (k * 1) (by simp [Ty.size]; omega)
    simp only [Ty.size, Nat.mul_one] at h1 h2
    rw [byte_at (by omega), val_one rfl] at h1 h2
    have ih' := ih (k + 1) (by omega)
    have hds : s.drop k = s.getD k 0 :: s.drop (k + 1) := by
      rw [List.drop_eq_getElem_cons (by omega)]; simp [List.getD, show k < s.length by omega]
    have hdu : u.drop k = u.getD k 0 :: u.drop (k + 1) := by
      rw [List.drop_eq_getElem_cons (by omega)]; simp [List.getD, show k < u.length by omega]
    simp only [List.range'_succ, Op.eqItems, Nat.mul_one, Sem.run_bind, h1, h2, Result.andThen_ok, byteV, run_equalIn_int w d e .u8 .u8 _ _ he]
    rw [hds, hdu]
    by_cases hc : s.getD k 0 = u.getD k 0
    · rw [hc]
      simp only [beq_self_eq_true, Bool.not_true, Bool.false_eq_true, if_false]
      rw [ih']
      simp
    · have : ((s.getD k 0).toNat : Int) ≠ ((u.getD k 0).toNat : Int) := fun e => hc (UInt8.toNat_inj.1 (by omega))
      have hb : (((s.getD k 0).toNat : Int) == ((u.getD k 0).toNat : Int)) = false := beq_eq_false_iff_ne.2 this
      simp only [hb, Bool.not_false, if_true, Sem.run_pure]
      simp only [List.cons.injEq, hc, false_and, decide_false]

mutual
theorem run_eqT {S : Snap} : ∀ (T : Ty) (t : TypeId) (cs ds : List Value) (x y : AV) (d : Nat), TyOk P T t → T.eqOk = true → T.deep ≤ d → Rep S T cs x → Rep S T ds y →
    (Op.equalIn (d + 1) t (T.val cs) (T.val ds)).run P w = .ok (eqT T x y) w
  | .bool, t, cs, ds, x, y, d, h, _, _, r, q => by
    obtain ⟨a, rfl, rfl⟩ := r
    obtain ⟨b, rfl, rfl⟩ := q
    rw [val_one rfl, val_one rfl, run_equalIn_bool' w d t a b h.2]
    simp only [eqT, AV.toBool]
    cases a <;> cases b <;> rfl
  | .int k, t, cs, ds, x, y, d, h, _, _, r, q => by
    obtain ⟨a, rfl, rfl, _⟩ := r
    obtain ⟨b, rfl, rfl, _⟩ := q
    rw [val_one rfl, val_one rfl, run_equalIn_int w d t k k a b h.2]
    simp only [eqT, AV.toInt]
    rfl
  | .str, t, cs, ds, x, y, d, h, _, _, r, q => by
    obtain ⟨a, rfl, rfl, _⟩ := r
    obtain ⟨b, rfl, rfl, _⟩ := q
    rw [val_one rfl, val_one rfl, run_equalIn_string w d t _ _ h.2]
    simp only [eqT, AV.toStr, toList_mk]
    congr 1
    by_cases e : a = b <;> simp [e]
  | .blob n, t, cs, ds, x, y, d, h, _, hd, r, q => by
    obtain ⟨a, ha, rfl, rfl⟩ := r
    obtain ⟨b, hb, rfl, rfl⟩ := q
    obtain ⟨hbase, e, h1, h2, h3⟩ := h
    have h3' := h3
    obtain ⟨i, hi, _⟩ := h3'
    simp only [Ty.deep] at hd
    obtain ⟨d, rfl⟩ : ∃ d', d = d' + 1 := ⟨d - 1, by omega⟩
    have hce : P.cellsOf e = 1 := TyOk.cellsOf (T := .int .u8) ⟨h3, h2⟩
    show (Op.equalIn (d + 1 + 1) t (.agg (a.map byteV).toArray) (.agg (b.map byteV).toArray)).run P w = _
    rw [run_equalIn_array w (d + 1) _ _ h1 hi, hce, List.range_eq_range', run_eqItems_bytes h2 h3 d a b n ha hb n 0 (by omega)]
    have he : eqT (.blob n) (.blob a) (.blob b) = decide (a = b) := rfl
    rw [he]
    simp only [List.drop_zero]
  | .struct Fs, t, cs, ds, x, y, d, h, ho, hd, r, q => by
    simp only [Rep] at r q
    obtain ⟨xs, rfl, r⟩ := r
    obtain ⟨ys, rfl, q⟩ := q
    obtain ⟨hbase, hst, fs, h1, h2⟩ := h
    have hf : P.fieldsOf t = fs := by simp [Program.fieldsOf, h1]
    simp only [Ty.deep] at hd
    obtain ⟨d, rfl⟩ : ∃ d', d = d' + 1 := ⟨d - 1, by omega⟩
    show (Op.equalIn (d + 1 + 1) t (.agg cs.toArray) (.agg ds.toArray)).run P w = _
    rw [run_equalIn_struct w (d + 1) t _ _ (by rw [hf]; exact h1) hst, hf]
    simp only [Ty.eqOk] at ho
    have := run_eqL Fs fs.toList 0 [] [] cs ds xs ys d h2 ho (by omega) (by simpa using r) (by simpa using q) cs ds (by simp) (by simp)
    simpa [eqT] using this
  | .arr _ _, _, _, _, _, _, _, _, h, _, _, _ => by simp [Ty.eqOk] at h
  | .slice _, _, _, _, _, _, _, _, h, _, _, _ => by simp [Ty.eqOk] at h
  | .fn, _, _, _, _, _, _, _, h, _, _, _ => by simp [Ty.eqOk] at h
theorem run_eqL {S : Snap} : ∀ (Ts : List Ty) (fs : List Field) (off : Nat) (px py : List AV) (cs ds : List Value) (xs ys : List AV) (d : Nat), TyOkL P Ts fs off → Ty.eqOkL Ts = true → Ty.deepL Ts ≤ d → RepL S Ts cs xs → RepL S Ts ds ys →
    ∀ (Cs Ds : List Value), Cs.drop off = cs → Ds.drop off = ds →
    (Op.eqFields (d + 1) Cs.toArray Ds.toArray fs).run P w = .ok (eqL Ts (.agg (px ++ xs)) (.agg (py ++ ys)) px.length) w ∨ px.length ≠ py.length
  | [], fs, off, px, py, cs, ds, xs, ys, d, h, _, _, r, q => by
    intro Cs Ds _ _
    simp only [TyOkL] at h
    subst h
    left
    simp [Op.eqFields, eqL]
  | T :: Ts, fs, off, px, py, cs, ds, xs, ys, d, h, ho, hd, r, q => by
    intro Cs Ds hC hD
    by_cases hpp : px.length = py.length
    case neg => exact .inr hpp
    left
    simp only [TyOkL] at h
    obtain ⟨f, rest, rfl, rfl, hn, hpos, hT, hrest⟩ := h
    simp only [RepL] at r q
    obtain ⟨x, xs, rfl, r1, r2, r3⟩ := r
    obtain ⟨y, ys, rfl, q1, q2, q3⟩ := q
    simp only [Ty.eqOkL, Bool.and_eq_true] at ho
    simp only [Ty.deepL] at hd
    have lc : f.offset + T.size ≤ Cs.length := by
      have := congrArg List.length hC
      simp only [List.length_drop] at this
      omega
    have ld : f.offset + T.size ≤ Ds.length := by
      have := congrArg List.length hD
      simp only [List.length_drop] at this
      omega
    have h1 := run_part (w := w) hT Cs f.offset lc
    have h2 := run_part (w := w) hT Ds f.offset ld
    rw [hC] at h1
    rw [hD] at h2
    have h3 := run_eqT T f.type _ _ x y d hT ho.1 (by omega) r2 q2
    have ih := run_eqL Ts rest (f.offset + T.size) (px ++ [x]) (py ++ [y]) _ _ xs ys d hrest ho.2 (by omega) r3 q3 Cs Ds (by rw [← hC, List.drop_drop]) (by rw [← hD, List.drop_drop])
    have ih := ih.resolve_right (by simp [hpp])
    have hn' : f.name ≠ "_" := by simpa using hn
    have fx : AV.fld (.agg (px ++ x :: xs)) px.length = x := by simp [AV.fld, nth, AV.toAgg]
    have fy : AV.fld (.agg (py ++ y :: ys)) px.length = y := by rw [hpp]; simp [AV.fld, nth, AV.toAgg]
    simp only [Op.eqFields, if_pos hn', Sem.run_bind, h1, h2, h3, Result.andThen_ok, eqL, fx, fy]
    cases hb : eqT T x y
    · simp
    · simp only [Bool.not_true, Bool.false_eq_true, if_false, Bool.true_and]
      rw [ih]
      simp
end

end Go.Proofs.Ytcpdiahbdmcdcaa.Ev
