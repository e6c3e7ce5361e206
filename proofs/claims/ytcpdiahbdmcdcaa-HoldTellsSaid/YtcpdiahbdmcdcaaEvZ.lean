/- A row's arguments, as plain values. -/
import Derived.Test.YtcpdiahbdmcdcaaEvY
import Derived.WalkKit
import Derived.ProofKit
import Derived.OpenShut
import Derived.ShutString
import Derived.ChangeOld
import Derived.SizedLaws
namespace Go.Proofs.Ytcpdiahbdmcdcaa.Ev
open Go Go.RowKit Go.WideShapes

mutual
/-- Bytes of a variable of this type, at least. -/
def Ty.bytesLo : Ty → Nat
  | .bool => 1
  | .int k => k.bits / 8
  | .str => 16
  | .blob n => n
  | .arr n e => n * e.bytesLo
  | .struct fs => Ty.bytesLoL fs
  | .slice _ => 24
  | .fn => 8
def Ty.bytesLoL : List Ty → Nat
  | [] => 0
  | t :: ts => t.bytesLo + Ty.bytesLoL ts
end

mutual
/-- A plain value of this type that a row's input can bring. -/
def Ty.Has : Ty → AV → Prop
  | .bool, x => ∃ b, x = .bool b
  | .int k, x => ∃ n, x = .int n ∧ (Lit.int k n).wf = true
  | .str, x => ∃ s, x = .str s ∧ s.length ≤ reachBytes
  | .blob n, x => ∃ l, x = .blob l ∧ l.length = n
  | .arr n e, x => ∃ l, x = .agg l ∧ l.length = n ∧ ∀ (i : Nat) y, l[i]? = some y → e.Has y
  | .struct fs, x => ∃ l, x = .agg l ∧ Ty.HasL fs l
  | .slice e, x => ∃ l, x = .slice l ∧ l.length ≤ maxLen ∧ l.length * e.bytesLo ≤ reachBytes ∧ ∀ (i : Nat) y, l[i]? = some y → e.Has y
  | .fn, _ => False
def Ty.HasL : List Ty → List AV → Prop
  | [], xs => xs = []
  | t :: ts, xs => ∃ x r, xs = x :: r ∧ t.Has x ∧ Ty.HasL ts r
end

mutual
/-- No slice of this type's has elements that are larger in memory than reckoned. -/
def chkLo (P : Program) : Ty → TypeId → Bool
  | .bool, _ => true
  | .int _, _ => true
  | .str, _ => true
  | .blob _, _ => true
  | .arr _ E, t => match P.underlying t with | some (.array _ e) => chkLo P E e | _ => false
  | .struct Fs, t => match P.underlying t with | some (.struct fs) => chkLoL P Fs fs.toList | _ => false
  | .slice E, t => match P.underlying t with | some (.slice e) => Nat.ble E.bytesLo (P.bytesOf e) && chkLo P E e | _ => false
  | .fn, _ => false
def chkLoL (P : Program) : List Ty → List Field → Bool
  | [], _ => true
  | T :: Ts, fs => match fs with
    | [] => false
    | f :: r => chkLo P T f.type && chkLoL P Ts r
end

variable {H : Type} {enc : TypeId × Value → H} {P : Program} {w : World}

def all_ (w : World) : Snap := fun p => w.cell? p

theorem cellsOf_base {T : Ty} {t : TypeId} (h : TBase P T t) : P.cellsOf t = T.size := by
  obtain ⟨i, h1, h2, _⟩ := h
  simp [Program.cellsOf, h1, h2]

theorem weights_all {e : TypeId} : ∀ {l : List (DataW H)}, (DataW.weightsAll P e l).all (· ≤ reachBytes) = true → ∀ d ∈ l, (d.weights P e).all (· ≤ reachBytes) = true
  | [], _, d, hd => by simp at hd
  | x :: l, h, d, hd => by
    simp only [DataW.weightsAll, List.all_append, Bool.and_eq_true] at h
    rcases List.mem_cons.1 hd with rfl | hd
    · exact h.1
    · exact weights_all h.2 d hd

theorem byte_open {fuel : Nat} {e : TypeId} (he : P.underlying e = some (.int .u8)) {cs : List Value} {x : DataW H × List MemPlace} (h : DataW.trod enc P w 0 (fun _ => true) true fuel e cs = some x) : ∃ b : UInt8, cs = [byteV b] := by
  obtain ⟨n, rfl, _, hw⟩ := DataW.trod_int he h
  have h2 := wf_bounds hw
  simp only [IntKind.min, IntKind.max, IntKind.signed, IntKind.bits] at h2
  refine ⟨UInt8.ofNat n.toNat, ?_⟩
  have h3 : (UInt8.ofNat n.toNat).toNat = n.toNat % 256 := rfl
  have h4 : n < 256 := by have := h2.2; simp at this; omega
  have h5 : 0 ≤ n := by have := h2.1; simpa using this
  unfold byteV
  rw [h3]
  congr 2
  omega

theorem blob_cells {e : TypeId} {fuel : Nat} (he : P.underlying e = some (.int .u8)) : ∀ (n : Nat) (cs : List Value), cs.length = n → (∀ i, i < n → ∃ x, DataW.trod enc P w 0 (fun _ => true) true fuel e ((cs.drop i).take 1) = some x) → ∃ l : List UInt8, l.length = n ∧ cs = l.map byteV
  | 0, cs, hl, _ => ⟨[], rfl, by simpa using hl⟩
  | n + 1, [], hl, _ => by simp at hl
  | n + 1, c :: cs, hl, h => by
    obtain ⟨x, hx⟩ := h 0 (by omega)
    obtain ⟨b, hb⟩ := byte_open he hx
    simp at hb
    obtain ⟨l, h1, h2⟩ := blob_cells he n cs (by simpa using hl) fun i hi => by simpa using h (i + 1) (by omega)
    exact ⟨b :: l, by simp [h1], by simp [hb, h2]⟩

/-- Where each part has its plain value, the whole list has. -/
theorem choose_list {R : Nat → AV → Prop} : ∀ (n : Nat), (∀ i, i < n → ∃ y, R i y) → ∃ l : List AV, l.length = n ∧ ∀ (i : Nat) y, l[i]? = some y → R i y
  | 0, _ => ⟨[], rfl, by simp⟩
  | n + 1, h => by
    obtain ⟨l, h1, h2⟩ := choose_list n fun i hi => h i (by omega)
    obtain ⟨y, hy⟩ := h n (by omega)
    refine ⟨l ++ [y], by simp [h1], fun i z hz => ?_⟩
    rcases Nat.lt_or_ge i n with hi | hi
    · exact h2 i z (by rw [List.getElem?_append_left (by omega)] at hz; exact hz)
    · rw [List.getElem?_append_right (by omega), h1] at hz
      have : i - n = 0 := by
        have := (List.getElem?_eq_some_iff.1 hz).1
        simp at this
        omega
      rw [this] at hz
      simp at hz
      subst hz
      rw [show i = n by omega]
      exact hy

mutual
theorem trod_open : ∀ (T : Ty) (fuel : Nat) (t : TypeId) (cs : List Value) (x : DataW H × List MemPlace), TyOk P T t → chkLo P T t = true → DataW.trod enc P w 0 (fun _ => true) true fuel t cs = some x → (x.1.weights P t).all (· ≤ reachBytes) = true →
    ∃ y, Rep (all_ w) T cs y ∧ T.Has y
  | .bool, fuel, t, cs, x, hT, _, h, _ => by
    obtain ⟨b, rfl, _⟩ := DataW.trod_bool hT.2 h
    exact ⟨.bool b, ⟨b, rfl, rfl⟩, b, rfl⟩
  | .int k, fuel, t, cs, x, hT, _, h, _ => by
    obtain ⟨n, rfl, _, hw⟩ := DataW.trod_int hT.2 h
    exact ⟨.int n, ⟨n, rfl, rfl, hw⟩, n, rfl, hw⟩
  | .str, fuel, t, cs, x, hT, _, h, hwt => by
    obtain ⟨s, rfl, rfl, hw⟩ := DataW.trod_string hT.2 h
    have hs : s.data.toList.length ≤ maxLen := hw
    have hr : s.data.toList.length ≤ reachBytes := by simpa [DataW.weights] using hwt
    exact ⟨.str s.data.toList, ⟨s.data.toList, by simp, rfl, hs⟩, _, rfl, hr⟩
  | .blob n, fuel, t, cs, x, hT, _, h, _ => by
    obtain ⟨hb, e, hu, hue, hbe⟩ := hT
    obtain ⟨xs, m, rfl, _, hlen, hxl, hx⟩ := DataW.trod_array hu h
    have hce : P.cellsOf e = 1 := cellsOf_base hbe
    have hct : P.cellsOf t = n := by rw [cellsOf_base hb]; rfl
    obtain ⟨l, h1, h2⟩ := blob_cells (enc := enc) (w := w) (fuel := m) hue n cs (by rw [hlen, hct]) fun i hi => by
      have := hx i hi
      rw [hce, Nat.mul_one] at this
      rw [this]
      exact ⟨_, List.getElem?_eq_getElem (by omega)⟩
    exact ⟨.blob l, ⟨l, h1, h2, rfl⟩, l, rfl, h1⟩
  | .arr n E, fuel, t, cs, x, hT, hlo, h, hw => by
    obtain ⟨hb, e, hu, hE⟩ := hT
    simp only [chkLo, hu] at hlo
    obtain ⟨xs, m, rfl, rfl, hlen, hxl, hx⟩ := DataW.trod_array hu h
    have hce : P.cellsOf e = E.size := cellsOf_base hE.base
    have hct : P.cellsOf t = n * E.size := by rw [cellsOf_base hb]; rfl
    simp only [DataW.weights, hu] at hw
    obtain ⟨l, h1, h2⟩ := choose_list (R := fun i y => Rep (all_ w) E ((cs.drop (i * E.size)).take E.size) y ∧ E.Has y) n fun i hi => by
      have h3 := hx i hi
      rw [hce, List.getElem?_eq_getElem (by omega)] at h3
      exact trod_open E m e _ _ hE hlo h3 (weights_all hw _ (List.mem_map_of_mem (List.getElem_mem _)))
    refine ⟨.agg l, ?_, l, rfl, h1, fun i y hy => (h2 i y hy).2⟩
    simp only [Rep]
    exact ⟨l, rfl, h1, by rw [hlen, hct], fun i y hy => (h2 i y hy).1⟩
  | .struct Fs, fuel, t, cs, x, hT, hlo, h, hw => by
    obtain ⟨hb, _, fs, hu, hF⟩ := hT
    simp only [chkLo, hu] at hlo
    obtain ⟨xs, m, rfl, rfl, hlen, hxl, hx⟩ := DataW.trod_struct hu h
    have hct : P.cellsOf t = Ty.sizeL Fs := by rw [cellsOf_base hb]; rfl
    simp only [DataW.weights, hu] at hw
    obtain ⟨l, h1, h2⟩ := struct_open Fs m fs.toList 0 cs xs hF hlo (by rw [hlen, hct]; omega) (by simpa using hxl) (fun i f hf => hx i f (by simpa using hf)) hw
    refine ⟨.agg l, ?_, l, rfl, h2⟩
    simp only [Rep]
    exact ⟨l, rfl, by simpa using h1⟩
  | .slice E, fuel, t, cs, x, hT, hlo, h, hw => by
    obtain ⟨hb, hpos, e, hu, hE⟩ := hT
    simp only [chkLo, hu, Bool.and_eq_true] at hlo
    have hce : P.cellsOf e = E.size := cellsOf_base hE.base
    rcases DataW.trod_slice hu h with ⟨rfl, _⟩ | ⟨a, len, cap, elems, rest, m, rfl, rfl, rfl, _, h1, h2, h3, h4, _⟩
    · refine ⟨.slice [], ?_, [], rfl, by simp, by simp, by simp⟩
      simp only [Rep]
      exact ⟨none, 0, 0, [], rfl, rfl, rfl, Nat.le_refl _, by simp [maxLen], fun _ => rfl, by simp⟩
    · simp only [DataW.weights, hu, List.all_cons, List.all_append, Bool.and_eq_true, decide_eq_true_eq] at hw
      obtain ⟨hw1, hw2, _⟩ := hw
      obtain ⟨l, q1, q2⟩ := choose_list (R := fun i y => ∃ ds, (all_ w).has (a.add (i * E.size)) ds ∧ ds.length = E.size ∧ Rep (all_ w) E ds y ∧ E.Has y) len fun i hi => by
        have h5 := h4 i hi
        rw [hce, List.getElem?_eq_getElem (by omega)] at h5
        obtain ⟨ds, hds, h5⟩ := bind_some h5
        obtain ⟨y, y1, y2⟩ := trod_open E m e ds _ hE hlo.2 h5 (weights_all hw2 _ (List.mem_map_of_mem (List.getElem_mem _)))
        obtain ⟨_, c1, c2⟩ := World.cells?_some hds
        refine ⟨y, ds, fun j v hj => ?_, c1, y1, y2⟩
        have := (List.getElem?_eq_some_iff.1 hj).1
        show w.cell? _ = _
        rw [c2 j (by omega), hj]
      refine ⟨.slice l, ?_, l, rfl, by omega, ?_, fun i y hy => ?_⟩
      · simp only [Rep]
        refine ⟨some a, len, cap, l, rfl, rfl, q1, h1, h2, (fun e => by cases e), fun p hp i y hy => ?_⟩
        cases hp
        obtain ⟨ds, k1, k2, k3, _⟩ := q2 i y hy
        exact ⟨ds, k1, k2, k3⟩
      · refine Nat.le_trans (Nat.mul_le_mul ?_ (Nat.le_of_ble_eq_true hlo.1)) hw1
        simp
        omega
      · obtain ⟨ds, _, _, _, k4⟩ := q2 i y hy
        exact k4
  | .fn, fuel, t, cs, x, _, hlo, _, _ => by cases hlo
theorem struct_open : ∀ (Ts : List Ty) (fuel : Nat) (fs : List Field) (off : Nat) (cs : List Value) (xs : List (DataW H × List MemPlace)), TyOkL P Ts fs off → chkLoL P Ts fs = true → cs.length = off + Ty.sizeL Ts → xs.length = fs.length →
      (∀ (i : Nat) (f : Field), fs[i]? = some f → DataW.trod enc P w 0 (fun _ => true) true fuel f.type ((cs.drop f.offset).take (P.cellsOf f.type)) = xs[i]?) → (DataW.weightsEach P (fs.map (·.type)) (xs.map (·.1))).all (· ≤ reachBytes) = true →
      ∃ l, RepL (all_ w) Ts (cs.drop off) l ∧ Ty.HasL Ts l
  | [], fuel, fs, off, cs, xs, h, _, hl, _, _, _ => ⟨[], by simp only [RepL]; exact ⟨by simp [Ty.sizeL] at hl; simp; omega, trivial⟩, rfl⟩
  | T :: Ts, fuel, fs, off, cs, xs, h, hlo, hl, hxl, hm, hw => by
    simp only [TyOkL] at h
    obtain ⟨f, r, rfl, rfl, _, hpos, hT, hr⟩ := h
    simp only [chkLoL, Bool.and_eq_true] at hlo
    match xs, hxl with
    | x :: xs, hxl =>
      have hx := hm 0 f rfl
      simp only [List.map_cons, DataW.weightsEach, List.all_append, Bool.and_eq_true] at hw
      have hc : P.cellsOf f.type = T.size := cellsOf_base hT.base
      obtain ⟨y, hy1, hy2⟩ := trod_open T fuel f.type _ x hT hlo.1 hx hw.1
      obtain ⟨l, hl1, hl2⟩ := struct_open Ts fuel r (f.offset + T.size) cs xs hr hlo.2 (by simp only [Ty.sizeL] at hl; omega) (by simpa using hxl) (fun i g hg => hm (i + 1) g hg) hw.2
      rw [hc] at hy1
      refine ⟨y :: l, ?_, y, l, rfl, hy2, hl2⟩
      simp only [RepL]
      simp only [Ty.sizeL] at hl
      exact ⟨y, l, rfl, by simp; omega, hy1, by rw [List.drop_drop]; exact hl1⟩
end

/-- A row's argument as a plain value. -/
theorem arg_open {T : Ty} {t : TypeId} {v : Value} {d : DataW H} {ps : List MemPlace} {base : Nat} (hT : TyOk P T t) (hlo : chkLo P T t = true) (ho : Value.okWide P w .any base t v) (h : DataW.Trod enc P w 0 (fun _ => true) true t v d ps) (hw : (d.weights P t).all (· ≤ reachBytes) = true) :
    ∃ y, VRep (all_ w) T v y ∧ T.Has y := by
  obtain ⟨fuel, h⟩ := h
  obtain ⟨y, h1, h2⟩ := trod_open T fuel t _ _ hT hlo h hw
  refine ⟨y, ⟨v.cells.toList, ?_, h1⟩, h2⟩
  have agg : T.isAgg = true → (∃ cs, v = .agg cs) → v = T.val v.cells.toList := fun ha ⟨cs, e⟩ => by
    subst e
    simp [Ty.val, ha, Value.cells]
  cases T with
  | bool => obtain ⟨b, rfl⟩ := okWide_bool hT.2 ho; rfl
  | int k => obtain ⟨b, rfl⟩ := okWide_int hT.2 ho; rfl
  | str => obtain ⟨b, rfl⟩ := okWide_string hT.2 ho; rfl
  | blob n =>
    obtain ⟨_, e, hu, _⟩ := hT
    simp only [Value.okWide, hu] at ho
    exact agg rfl ⟨_, ho.choose_spec.1⟩
  | arr n E =>
    obtain ⟨_, e, hu, _⟩ := hT
    simp only [Value.okWide, hu] at ho
    exact agg rfl ⟨_, ho.choose_spec.1⟩
  | struct fs =>
    obtain ⟨_, _, e, hu, _⟩ := hT
    simp only [Value.okWide, hu] at ho
    exact agg rfl ⟨_, ho.choose_spec.1⟩
  | slice E =>
    obtain ⟨_, _, e, hu, _⟩ := hT
    obtain ⟨a, l, c, rfl⟩ := okWide_slice hu ho
    rfl
  | fn => cases hlo

def chkArgs (P : Program) : List Ty → List TypeId → Bool
  | [], ts => ts.isEmpty
  | T :: Ts, ts => match ts with
    | [] => false
    | t :: r => chkTy P T t && (chkLo P T t && (P.readableRec t && (decide (t < P.types.size) && chkArgs P Ts r)))

theorem args_open : ∀ (Ts : List Ty) (ts : List TypeId) (vs : List Value) (ds : List (DataW H)) (ps : List MemPlace) (base : Nat), chkArgs P Ts ts = true → DataW.TrodAll enc P w 0 (fun _ => true) true ts vs ds ps →
    (∀ (j : Nat) t v, ts[j]? = some t → vs[j]? = some v → Value.okWide P w .any base t v) → (DataW.weightsEach P ts ds).all (· ≤ reachBytes) = true → ∃ xs, ArgsRel (all_ w) w (Ts.map .val) vs xs [] ∧ Ty.HasL Ts xs
  | [], ts, vs, ds, ps, base, hc, h, _, _ => by
    cases ts with
    | cons t ts => cases hc
    | nil =>
      cases vs <;> cases ds <;> first | exact h.elim | exact ⟨[], ⟨rfl, rfl, rfl⟩, rfl⟩
  | T :: Ts, ts, vs, ds, ps, base, hc, h, ho, hw => by
    cases ts with
    | nil => cases hc
    | cons t ts =>
      simp only [chkArgs, Bool.and_eq_true] at hc
      cases vs with
      | nil => cases ds <;> exact h.elim
      | cons v vs =>
        cases ds with
        | nil => exact h.elim
        | cons d ds =>
          obtain ⟨p, q, h1, h2, rfl⟩ := h
          simp only [DataW.weightsEach, List.all_append, Bool.and_eq_true] at hw
          obtain ⟨x, k1, k2⟩ := arg_open (chkTy_ok _ _ hc.1) hc.2.1 (ho 0 t v rfl rfl) h1 hw.1
          obtain ⟨xs, k3, k4⟩ := args_open Ts ts vs ds q base hc.2.2.2.2 h2 (fun j t' v' a b => ho (j + 1) t' v' a b) hw.2
          exact ⟨x :: xs, ⟨v, vs, x, xs, rfl, rfl, k1, k3⟩, x, xs, rfl, k2, k4⟩

theorem args_below {W' : World} (hl : laidOutB P = true) (hb : Below w.heap.size w W') : ∀ (Ts : List Ty) (ts : List TypeId) (vs : List Value) (ds : List (DataW H)) (ps : List MemPlace), chkArgs P Ts ts = true → DataW.TrodAll enc P w 0 (fun _ => true) true ts vs ds ps →
    DataW.TrodAll enc P W' 0 (fun b => decide (b < w.heap.size)) true ts vs ds ps
  | [], ts, vs, ds, ps, hc, h => by
    cases ts with
    | cons t ts => cases hc
    | nil => cases vs <;> cases ds <;> first | exact h.elim | exact h
  | T :: Ts, ts, vs, ds, ps, hc, h => by
    cases ts with
    | nil => cases hc
    | cons t ts =>
      simp only [chkArgs, Bool.and_eq_true, decide_eq_true_eq] at hc
      cases vs with
      | nil => cases ds <;> exact h.elim
      | cons v vs =>
        cases ds with
        | nil => exact h.elim
        | cons d ds =>
          obtain ⟨p, q, h1, h2, rfl⟩ := h
          refine ⟨p, q, Below.trod hl hc.2.2.1 hc.2.2.2.1 h1 hb ?_, args_below hl hb Ts ts vs ds q hc.2.2.2.2 h2, rfl⟩
          obtain ⟨m, hm⟩ := h1
          exact DataW.trod_lt m _ _ _ hm

/-- A law's function, called with a row's arguments, answers true and lets memory be. -/
theorem law_calls {f : FuncId} {i : FnInfo} {Ts : List Ty} {ts : List TypeId} {vs : List Value} {ds : List (DataW H)} {ps : List MemPlace} {base : Nat} (hp : i.params = Ts.map .val) (hr : i.results = [.val .bool]) (hc : chkArgs P Ts ts = true)
    (hs : ∀ xs, Ty.HasL Ts xs → ∃ r, r.vals = [.bool true] ∧ Sat P i f xs r) (h : DataW.TrodAll enc P w 0 (fun _ => true) true ts vs ds ps)
    (ho : ∀ (j : Nat) t v, ts[j]? = some t → vs[j]? = some v → Value.okWide P w .any base t v) (hw : (DataW.weightsEach P ts ds).all (· ≤ reachBytes) = true) :
    Calls P f vs.toArray w fun e w' => e = .returned (.bool true) ∧ Below w.heap.size w w' := by
  obtain ⟨xs, h1, h2⟩ := args_open Ts ts vs ds ps base hc h ho hw
  obtain ⟨r, hv, hsat⟩ := hs xs h2
  refine (hsat (all_ w) w vs [] (fun p v e => e) (by rw [hp]; exact h1) List.nodup_nil).mono ?_
  rintro e w' ⟨S, v, rfl, _, _, _, hk, hres, _⟩
  refine ⟨?_, hk.below⟩
  rw [hr] at hres
  obtain ⟨x, e1, e2, _⟩ := hres
  rw [hv] at e1
  cases e1
  obtain ⟨b, rfl, e3⟩ := e2.bool
  cases e3
  rfl

end Go.Proofs.Ytcpdiahbdmcdcaa.Ev
