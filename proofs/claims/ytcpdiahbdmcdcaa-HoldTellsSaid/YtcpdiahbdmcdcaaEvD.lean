/- Places in values: what stands at a place, what a store there leaves. -/
import Derived.Test.YtcpdiahbdmcdcaaEvC
namespace Go.Proofs.Ytcpdiahbdmcdcaa.Ev
open Go Go.RowKit

/-- A path from a type to another one, and how many cells stand ahead. -/
def PathOk : List Nat → Ty → Ty → Nat → Prop
  | [], t, u, off => t = u ∧ off = 0
  | i :: r, t, u, off => match t with
    | .struct fs => ∃ f o, fs[i]? = some f ∧ off = Ty.sizeL (fs.take i) + o ∧ PathOk r f u o
    | .arr n e => i < n ∧ ∃ o, off = i * e.size + o ∧ PathOk r e u o
    | .blob n => i < n ∧ r = [] ∧ u = .int .u8 ∧ off = i
    | _ => False

theorem RepL.at {S : Snap} : ∀ (fs : List Ty) (cs : List Value) (xs : List AV) (i : Nat) (f : Ty), RepL S fs cs xs → fs[i]? = some f →
    ∃ y, xs[i]? = some y ∧ Rep S f ((cs.drop (Ty.sizeL (fs.take i))).take f.size) y ∧ Ty.sizeL (fs.take i) + f.size ≤ cs.length
  | [], _, _, i, f, _, h => by simp at h
  | t :: ts, cs, xs, 0, f, r, h => by
    simp only [RepL] at r
    obtain ⟨y, ys, rfl, h2, h3, h4⟩ := r
    simp at h
    subst h
    exact ⟨y, rfl, by simpa [Ty.sizeL] using h3, by simpa [Ty.sizeL] using h2⟩
  | t :: ts, cs, xs, i + 1, f, r, h => by
    simp only [RepL] at r
    obtain ⟨y, ys, rfl, h2, h3, h4⟩ := r
    obtain ⟨z, h5, h6, h7⟩ := RepL.at ts _ ys i f h4 (by simpa using h)
    refine ⟨z, by simpa using h5, ?_, ?_⟩
    · simpa [Ty.sizeL, List.drop_drop] using h6
    · simp only [List.take_succ_cons, Ty.sizeL]
      simp only [List.length_drop] at h7
      omega

theorem nth_of {xs : List AV} {i : Nat} {y : AV} (h : xs[i]? = some y) : nth xs i = y := by simp [nth, List.getD, h]

theorem fld_agg (xs : List AV) (i : Nat) : AV.fld (.agg xs) i = nth xs i := rfl

theorem slot_take {α : Type} (l : List α) (a b c : Nat) (h : b + c ≤ a) : ((l.take a).drop b).take c = (l.drop b).take c := by
  rw [List.drop_take, List.take_take]
  congr 1
  omega

theorem u8_wf (b : UInt8) : (Lit.int .u8 (b.toNat : Int)).wf = true := by
  have := b.toNat_lt
  simp only [Lit.wf, IntKind.min, IntKind.max, IntKind.signed, IntKind.bits, Bool.and_eq_true, decide_eq_true_eq, Bool.false_eq_true, if_false]
  omega

theorem u8_of_wf {n : Int} (h : (Lit.int .u8 n).wf = true) : byteV (UInt8.ofNat n.toNat) = .int .u8 n := by
  simp only [Lit.wf, IntKind.min, IntKind.max, IntKind.signed, IntKind.bits, Bool.and_eq_true, decide_eq_true_eq, Bool.false_eq_true, if_false] at h
  simp only [byteV, Value.int.injEq, true_and]
  rw [UInt8.toNat_ofNat_of_lt' (by show n.toNat < 256; omega)]
  omega

theorem byte_at {s : List UInt8} {i : Nat} (h : i < s.length) : ((s.map byteV).drop i).take 1 = [byteV (s.getD i 0)] := by
  rw [← List.map_drop, List.drop_eq_getElem_cons h, List.map_cons, List.take_succ_cons, List.take_zero]
  simp [List.getD, h]

/-- What stands at the end of a path. -/
theorem getP_rep {S : Snap} : ∀ (path : List Nat) (T U : Ty) (off : Nat) (cs : List Value) (x : AV), PathOk path T U off → Rep S T cs x →
    Rep S U ((cs.drop off).take U.size) (getP T x path) ∧ off + U.size ≤ T.size
  | [], T, U, off, cs, x, h, r => by
    obtain ⟨rfl, rfl⟩ := h
    have := Rep.len _ _ _ r
    refine ⟨?_, by omega⟩
    simp only [getP, List.drop_zero]
    rw [List.take_of_length_le (by omega)]
    exact r
  | i :: p, T, U, off, cs, x, h, r => by
    have hl := Rep.len _ _ _ r
    cases T with
    | struct fs =>
      simp only [PathOk] at h
      obtain ⟨f, o, hf, rfl, h⟩ := h
      simp only [Rep] at r
      obtain ⟨xs, rfl, r⟩ := r
      obtain ⟨y, hy, ry, hle⟩ := RepL.at fs cs xs i f r hf
      obtain ⟨h1, h2⟩ := getP_rep p f U o _ y h ry
      simp only [getP, hf, fld_agg, nth_of hy]
      refine ⟨?_, by omega⟩
      rw [slot_take _ _ _ _ (by omega), List.drop_drop] at h1
      exact h1
    | arr n e =>
      simp only [PathOk] at h
      obtain ⟨hi, o, rfl, h⟩ := h
      simp only [Rep] at r
      obtain ⟨xs, rfl, hn, hc, r⟩ := r
      obtain ⟨y, hy⟩ : ∃ y, xs[i]? = some y := ⟨xs[i], by simp [hn, hi]⟩
      obtain ⟨h1, h2⟩ := getP_rep p e U o _ y h (r i y hy)
      simp only [getP, fld_agg, nth_of hy]
      have hb : (i + 1) * e.size ≤ n * e.size := Nat.mul_le_mul_right _ hi
      rw [Nat.succ_mul] at hb
      refine ⟨?_, by simp only [Ty.size]; omega⟩
      rw [slot_take _ _ _ _ (by omega), List.drop_drop] at h1
      exact h1
    | blob n =>
      simp only [PathOk] at h
      obtain ⟨hi, rfl, rfl, rfl⟩ := h
      obtain ⟨s, hn, rfl, rfl⟩ := r
      simp only [getP, AV.toBlob, Ty.size]
      refine ⟨?_, by omega⟩
      exact ⟨_, byte_at (by omega), rfl, u8_wf _⟩
    | _ => simp [PathOk] at h
theorem RepL.set {S : Snap} : ∀ (fs : List Ty) (cs : List Value) (xs : List AV) (i : Nat) (f : Ty) (ds : List Value) (y : AV), RepL S fs cs xs → fs[i]? = some f → Rep S f ds y →
    RepL S fs (cs.take (Ty.sizeL (fs.take i)) ++ ds ++ cs.drop (Ty.sizeL (fs.take i) + f.size)) (xs.set i y)
  | [], _, _, i, f, _, _, _, h, _ => by simp at h
  | t :: ts, cs, xs, 0, f, ds, y, r, h, ry => by
    simp only [RepL] at r
    obtain ⟨z, ys, rfl, h2, h3, h4⟩ := r
    simp at h
    subst h
    have hl := Rep.len _ _ _ ry
    simp only [RepL, List.take_zero, Ty.sizeL, Nat.zero_add, List.nil_append, List.set_cons_zero]
    exact ⟨y, ys, rfl, by simp; omega, by rw [← hl, List.take_left]; exact ry, by rw [← hl, List.drop_left, hl]; exact h4⟩
  | t :: ts, cs, xs, i + 1, f, ds, y, r, h, ry => by
    simp only [RepL] at r
    obtain ⟨z, ys, rfl, h2, h3, h4⟩ := r
    have ih := RepL.set ts _ ys i f ds y h4 (by simpa using h) ry
    simp only [List.take_succ_cons, Ty.sizeL, List.set_cons_succ]
    simp only [RepL]
    have hs : cs.take (t.size + Ty.sizeL (ts.take i)) = cs.take t.size ++ (cs.drop t.size).take (Ty.sizeL (ts.take i)) := List.take_add
    have hlen : (cs.take t.size).length = t.size := by simp; omega
    refine ⟨z, _, rfl, by simp; omega, ?_, ?_⟩
    · rw [hs, List.append_assoc, List.append_assoc]
      rw [List.take_append_of_le_length (by omega), List.take_of_length_le (by omega)]
      exact h3
    · rw [hs, List.append_assoc, List.append_assoc, List.drop_append_of_le_length (by omega)]
      rw [List.drop_eq_nil_of_le (by omega), List.nil_append, ← List.append_assoc]
      rw [Nat.add_assoc, ← List.drop_drop]
      exact ih

theorem splice_two {α : Type} (l ds : List α) (a b c : Nat) (hb : b + ds.length ≤ c) :
    l.take a ++ (((l.drop a).take c).take b ++ ds ++ ((l.drop a).take c).drop (b + ds.length)) ++ l.drop (a + c) = l.take (a + b) ++ ds ++ l.drop (a + b + ds.length) := by
  have h1 : ((l.drop a).take c).take b = (l.drop a).take b := by rw [List.take_take]; congr 1; omega
  have h2 : ((l.drop a).take c).drop (b + ds.length) ++ l.drop (a + c) = l.drop (a + b + ds.length) := by
    rw [List.drop_take, List.drop_drop]
    have : l.drop (a + c) = (l.drop (a + (b + ds.length))).drop (c - (b + ds.length)) := by rw [List.drop_drop]; congr 1; omega
    rw [this, List.take_append_drop]
    congr 1
    omega
  rw [h1, List.append_assoc, List.append_assoc, h2, List.take_add, List.append_assoc]
  simp only [List.append_assoc]

/-- A store at the end of a path. -/
theorem setP_rep {S : Snap} : ∀ (path : List Nat) (T U : Ty) (off : Nat) (cs ds : List Value) (x y : AV), PathOk path T U off → Rep S T cs x → Rep S U ds y →
    Rep S T (cs.take off ++ ds ++ cs.drop (off + U.size)) (setP T x path y)
  | [], T, U, off, cs, ds, x, y, h, r, ry => by
    obtain ⟨rfl, rfl⟩ := h
    have := Rep.len _ _ _ r
    simp only [setP, List.take_zero, List.nil_append, Nat.zero_add]
    rw [List.drop_eq_nil_of_le (by omega), List.append_nil]
    exact ry
  | i :: p, T, U, off, cs, ds, x, y, h, r, ry => by
    have hl := Rep.len _ _ _ r
    have hd := Rep.len _ _ _ ry
    cases T with
    | struct fs =>
      simp only [PathOk] at h
      obtain ⟨f, o, hf, rfl, h⟩ := h
      simp only [Rep] at r
      obtain ⟨xs, rfl, r⟩ := r
      obtain ⟨z, hz, rz, hle⟩ := RepL.at fs cs xs i f r hf
      have h1 := setP_rep p f U o _ ds z y h rz ry
      have h2 := (getP_rep p f U o _ z h rz).2
      have h3 := RepL.set fs cs xs i f _ _ r hf h1
      simp only [setP, hf, fld_agg, nth_of hz, Rep, AV.toAgg]
      refine ⟨_, rfl, ?_⟩
      rw [← hd] at h3 ⊢
      rw [splice_two cs ds _ _ _ (by omega)] at h3
      exact h3
    | arr n e =>
      simp only [PathOk] at h
      obtain ⟨hi, o, rfl, h⟩ := h
      simp only [Rep] at r
      obtain ⟨xs, rfl, hn, hc, r⟩ := r
      obtain ⟨z, hz⟩ : ∃ z, xs[i]? = some z := ⟨xs[i], by simp [hn, hi]⟩
      have hb : (i + 1) * e.size ≤ n * e.size := Nat.mul_le_mul_right _ hi
      rw [Nat.succ_mul] at hb
      have rz := r i z hz
      have h1 := setP_rep p e U o _ ds z y h rz ry
      have h2 := (getP_rep p e U o _ z h rz).2
      have hlen := Rep.len _ _ _ h1
      simp only [setP, fld_agg, nth_of hz, Rep, AV.toAgg]
      have hsp : cs.take (i * e.size + o) ++ ds ++ cs.drop (i * e.size + o + U.size) =
          cs.take (i * e.size) ++ (((cs.drop (i * e.size)).take e.size).take o ++ ds ++ ((cs.drop (i * e.size)).take e.size).drop (o + U.size)) ++ cs.drop (i * e.size + e.size) := by
        rw [← hd, splice_two cs ds _ _ _ (by omega)]
      rw [hsp]
      generalize hm : (((cs.drop (i * e.size)).take e.size).take o ++ ds ++ ((cs.drop (i * e.size)).take e.size).drop (o + U.size)) = mid at h1 hlen ⊢
      have hpre : (cs.take (i * e.size)).length = i * e.size := by simp; omega
      refine ⟨_, rfl, by simp [hn], by simp only [List.length_append, List.length_take, List.length_drop]; omega, fun j w hj => ?_⟩
      rw [List.getElem?_set] at hj
      by_cases hij : i = j
      · subst hij
        simp [hn, hi] at hj
        subst hj
        rw [List.append_assoc]
        have : (List.drop (i * e.size) (List.take (i * e.size) cs ++ (mid ++ List.drop (i * e.size + e.size) cs))) = mid ++ List.drop (i * e.size + e.size) cs := by
          rw [List.drop_append_of_le_length (by omega), List.drop_eq_nil_of_le (by omega), List.nil_append]
        rw [this, ← hlen, List.take_left]
        exact h1
      · rw [if_neg hij] at hj
        have rj := r j w hj
        have hjn : j < n := by rw [← hn]; exact (List.getElem?_eq_some_iff.1 hj).1
        rcases Nat.lt_or_gt_of_ne hij with hlt | hgt
        · have hb2 : (i + 1) * e.size ≤ j * e.size := Nat.mul_le_mul_right _ hlt
          rw [Nat.succ_mul] at hb2
          have : List.drop (j * e.size) (List.take (i * e.size) cs ++ mid ++ List.drop (i * e.size + e.size) cs) = List.drop (j * e.size) cs := by
            rw [List.drop_append, List.drop_eq_nil_of_le (by simp only [List.length_append]; omega), List.nil_append, List.drop_drop]
            congr 1
            simp only [List.length_append]
            omega
          rw [this]
          exact rj
        · have hb2 : (j + 1) * e.size ≤ i * e.size := Nat.mul_le_mul_right _ hgt
          rw [Nat.succ_mul] at hb2
          have : List.take e.size (List.drop (j * e.size) (List.take (i * e.size) cs ++ mid ++ List.drop (i * e.size + e.size) cs)) = List.take e.size (List.drop (j * e.size) cs) := by
            rw [List.append_assoc, List.drop_append_of_le_length (by omega), List.take_append_of_le_length (by simp; omega), List.drop_take, List.take_take]
            congr 1
            omega
          rw [this]
          exact rj
    | blob n =>
      simp only [PathOk] at h
      obtain ⟨hi, rfl, rfl, rfl⟩ := h
      obtain ⟨s, hn, rfl, rfl⟩ := r
      obtain ⟨v, rfl, rfl, wf⟩ := ry
      simp only [setP, AV.toBlob, AV.toInt, Ty.size]
      refine ⟨s.set off (UInt8.ofNat v.toNat), by simp [hn], ?_, rfl⟩
      rw [List.set_eq_take_append_cons_drop, if_pos (by omega)]
      simp only [List.map_append, List.map_cons, List.map_take, List.map_drop, u8_of_wf wf]
      simp
    | _ => simp [PathOk] at h

theorem PathOk.snocS : ∀ (path : List Nat) (T : Ty) (fs : List Ty) (off i : Nat) (f : Ty), PathOk path T (.struct fs) off → fs[i]? = some f → PathOk (path ++ [i]) T f (off + Ty.sizeL (fs.take i))
  | [], T, fs, off, i, f, h, hf => by
    obtain ⟨rfl, rfl⟩ := h
    simp only [List.nil_append, PathOk]
    exact ⟨f, 0, hf, by omega, rfl, rfl⟩
  | j :: p, T, fs, off, i, f, h, hf => by
    cases T with
    | struct gs =>
      simp only [PathOk, List.cons_append] at h ⊢
      obtain ⟨g, o, hg, rfl, h⟩ := h
      exact ⟨g, _, hg, by rw [Nat.add_assoc], PathOk.snocS p g fs o i f h hf⟩
    | arr n e =>
      simp only [PathOk, List.cons_append] at h ⊢
      obtain ⟨hi, o, rfl, h⟩ := h
      exact ⟨hi, _, by rw [Nat.add_assoc], PathOk.snocS p e fs o i f h hf⟩
    | blob n => simp [PathOk] at h
    | _ => simp [PathOk] at h

theorem PathOk.snocA : ∀ (path : List Nat) (T : Ty) (n : Nat) (e : Ty) (off i : Nat), PathOk path T (.arr n e) off → i < n → PathOk (path ++ [i]) T e (off + i * e.size)
  | [], T, n, e, off, i, h, hi => by
    obtain ⟨rfl, rfl⟩ := h
    simp only [List.nil_append, PathOk]
    exact ⟨hi, 0, by omega, trivial, rfl⟩
  | j :: p, T, n, e, off, i, h, hi => by
    cases T with
    | struct gs =>
      simp only [PathOk, List.cons_append] at h ⊢
      obtain ⟨g, o, hg, rfl, h⟩ := h
      exact ⟨g, _, hg, by rw [Nat.add_assoc], PathOk.snocA p g n e o i h hi⟩
    | arr m f =>
      simp only [PathOk, List.cons_append] at h ⊢
      obtain ⟨hj, o, rfl, h⟩ := h
      exact ⟨hj, _, by rw [Nat.add_assoc], PathOk.snocA p f n e o i h hi⟩
    | blob n => simp [PathOk] at h
    | _ => simp [PathOk] at h

theorem PathOk.snocB : ∀ (path : List Nat) (T : Ty) (n : Nat) (off i : Nat), PathOk path T (.blob n) off → i < n → PathOk (path ++ [i]) T (.int .u8) (off + i)
  | [], T, n, off, i, h, hi => by
    obtain ⟨rfl, rfl⟩ := h
    simp only [List.nil_append, PathOk]
    exact ⟨hi, trivial, trivial, by omega⟩
  | j :: p, T, n, off, i, h, hi => by
    cases T with
    | struct gs =>
      simp only [PathOk, List.cons_append] at h ⊢
      obtain ⟨g, o, hg, rfl, h⟩ := h
      exact ⟨g, _, hg, by rw [Nat.add_assoc], PathOk.snocB p g n o i h hi⟩
    | arr m f =>
      simp only [PathOk, List.cons_append] at h ⊢
      obtain ⟨hj, o, rfl, h⟩ := h
      exact ⟨hj, _, by rw [Nat.add_assoc], PathOk.snocB p f n o i h hi⟩
    | blob n => simp [PathOk] at h
    | _ => simp [PathOk] at h

/-- From one variable to another of the same type. -/
theorem PathOk.le : ∀ (path : List Nat) (T U : Ty) (off : Nat), PathOk path T U off → off + U.size ≤ T.size
  | [], T, U, off, h => by obtain ⟨rfl, rfl⟩ := h; omega
  | i :: p, T, U, off, h => by
    cases T with
    | struct fs =>
      simp only [PathOk] at h
      obtain ⟨f, o, hf, rfl, h⟩ := h
      have h1 := PathOk.le p f U o h
      have h2 := sizeL_take fs i f hf
      simp only [Ty.size]
      omega
    | arr n e =>
      simp only [PathOk] at h
      obtain ⟨hi, o, rfl, h⟩ := h
      have h1 := PathOk.le p e U o h
      have hb : (i + 1) * e.size ≤ n * e.size := Nat.mul_le_mul_right _ hi
      rw [Nat.succ_mul] at hb
      simp only [Ty.size]
      omega
    | blob n =>
      simp only [PathOk] at h
      obtain ⟨hi, rfl, rfl, rfl⟩ := h
      simp only [Ty.size]
      omega
    | _ => simp [PathOk] at h
where
  sizeL_take : ∀ (fs : List Ty) (i : Nat) (f : Ty), fs[i]? = some f → Ty.sizeL (fs.take i) + f.size ≤ Ty.sizeL fs
    | [], i, f, h => by simp at h
    | t :: ts, 0, f, h => by simp at h; subst h; simp [Ty.sizeL]
    | t :: ts, i + 1, f, h => by
      have := sizeL_take ts i f (by simpa using h)
      simp only [List.take_succ_cons, Ty.sizeL]
      omega

end Go.Proofs.Ytcpdiahbdmcdcaa.Ev
