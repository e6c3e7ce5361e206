/- The plain side of an evaluator for translated Go code: types, plain values, what plain values stand for in memory. Nothing here is trusted: the soundness of the evaluator is proved over it. -/
import Derived.Calls
import Derived.Below
import Derived.Tactics
import Derived.Laws.AppendOwn
namespace Go.Proofs.Ytcpdiahbdmcdcaa.Ev
open Go Go.RowKit

/-- The shape of a type. -/
inductive Ty where
  | bool
  | int (k : IntKind)
  | str
  | blob (n : Nat)
  | arr (n : Nat) (e : Ty)
  | struct (fs : List Ty)
  | slice (e : Ty)
  | fn

/-- A plain value. -/
inductive AV where
  | bot
  | bool (b : Bool)
  | int (n : Int)
  | str (s : List UInt8)
  | blob (s : List UInt8)
  | agg (fs : List AV)
  | slice (es : List AV)
  | fn (f : Nat)

mutual
def Ty.size : Ty → Nat
  | .bool => 1
  | .int _ => 1
  | .str => 1
  | .slice _ => 1
  | .fn => 1
  | .blob n => n
  | .arr n e => n * e.size
  | .struct fs => Ty.sizeL fs
def Ty.sizeL : List Ty → Nat
  | [] => 0
  | t :: ts => t.size + Ty.sizeL ts
end

def Ty.isAgg : Ty → Bool
  | .blob _ => true
  | .arr _ _ => true
  | .struct _ => true
  | _ => false

def kindNo : IntKind → Nat
  | .i8 => 0 | .i16 => 1 | .i32 => 2 | .i64 => 3 | .u8 => 4 | .u16 => 5 | .u32 => 6 | .u64 => 7

mutual
def Ty.beq : Ty → Ty → Bool
  | .bool, .bool => true
  | .int k, .int k' => Nat.beq (kindNo k) (kindNo k')
  | .str, .str => true
  | .blob n, .blob m => Nat.beq n m
  | .arr n e, .arr m f => Nat.beq n m && e.beq f
  | .struct fs, .struct gs => Ty.beqL fs gs
  | .slice e, .slice f => e.beq f
  | .fn, .fn => true
  | _, _ => false
def Ty.beqL : List Ty → List Ty → Bool
  | [], [] => true
  | t :: ts, u :: us => t.beq u && Ty.beqL ts us
  | _, _ => false
end

theorem kindNo_inj {a b : IntKind} (h : kindNo a = kindNo b) : a = b := by
  cases a <;> cases b <;> first | rfl | (simp [kindNo] at h)

mutual
theorem Ty.beq_eq : ∀ (t u : Ty), t.beq u = true → t = u
  | .bool, u, h => by cases u <;> simp_all [Ty.beq]
  | .int k, u, h => by
    cases u <;> simp_all [Ty.beq]
    exact kindNo_inj h
  | .str, u, h => by cases u <;> simp_all [Ty.beq]
  | .blob n, u, h => by cases u <;> simp_all [Ty.beq]
  | .arr n e, u, h => by
    cases u <;> simp [Ty.beq] at h
    rename_i m f
    have := Ty.beq_eq e f h.2
    simp [h.1, this]
  | .struct fs, u, h => by
    cases u <;> simp [Ty.beq] at h
    rename_i gs
    rw [Ty.beqL_eq fs gs h]
  | .slice e, u, h => by
    cases u <;> simp [Ty.beq] at h
    rename_i f
    rw [Ty.beq_eq e f h]
  | .fn, u, h => by cases u <;> simp_all [Ty.beq]
theorem Ty.beqL_eq : ∀ (ts us : List Ty), Ty.beqL ts us = true → ts = us
  | [], us, h => by cases us <;> simp_all [Ty.beqL]
  | t :: ts, us, h => by
    cases us <;> simp [Ty.beqL] at h
    rename_i u us
    rw [Ty.beq_eq t u h.1, Ty.beqL_eq ts us h.2]
end

def AV.toBool : AV → Bool
  | .bool b => b
  | _ => false
def AV.toInt : AV → Int
  | .int n => n
  | _ => 0
def AV.toStr : AV → List UInt8
  | .str s => s
  | _ => []
def AV.toBlob : AV → List UInt8
  | .blob s => s
  | _ => []
def AV.toAgg : AV → List AV
  | .agg s => s
  | _ => []
def AV.toSlice : AV → List AV
  | .slice s => s
  | _ => []
def AV.toFn : AV → Nat
  | .fn f => f
  | _ => 0

/-- The i-th part. -/
def nth (l : List AV) (i : Nat) : AV := l.getD i .bot
def AV.fld (x : AV) (i : Nat) : AV := nth x.toAgg i

mutual
def Ty.co : Ty → AV → AV
  | .bool, x => .bool x.toBool
  | .int _, x => .int x.toInt
  | .str, x => .str x.toStr
  | .blob _, x => .blob x.toBlob
  | .arr _ _, x => .agg x.toAgg
  | .struct fs, x => .agg (Ty.coL fs x 0)
  | .slice _, x => .slice x.toSlice
  | .fn, x => .fn x.toFn
def Ty.coL : List Ty → AV → Nat → List AV
  | [], _, _ => []
  | t :: ts, x, i => t.co (x.fld i) :: Ty.coL ts x (i + 1)
end

mutual
def Ty.zero : Ty → AV
  | .bool => .bool false
  | .int _ => .int 0
  | .str => .str []
  | .blob n => .blob (List.replicate n 0)
  | .arr n e => .agg (List.replicate n e.zero)
  | .struct fs => .agg (Ty.zeroL fs)
  | .slice _ => .slice []
  | .fn => .bot
def Ty.zeroL : List Ty → List AV
  | [] => []
  | t :: ts => t.zero :: Ty.zeroL ts
end

mutual
/-- No function value stands in it. -/
def Ty.noFn : Ty → Bool
  | .fn => false
  | .arr _ e => e.noFn
  | .struct fs => Ty.noFnL fs
  | .slice e => e.noFn
  | _ => true
def Ty.noFnL : List Ty → Bool
  | [] => true
  | t :: ts => t.noFn && Ty.noFnL ts
end

def Ty.isFn : Ty → Bool
  | .fn => true
  | _ => false

def byteV (b : UInt8) : Value := .int .u8 b.toNat

def repCells (cs : List Value) : Nat → List Value
  | 0 => []
  | n + 1 => cs ++ repCells cs n

mutual
def Ty.zeroCells : Ty → List Value
  | .bool => [.bool false]
  | .int k => [.int k 0]
  | .str => [.string ⟨#[]⟩]
  | .blob n => List.replicate n (.int .u8 0)
  | .arr n e => repCells e.zeroCells n
  | .struct fs => Ty.zeroCellsL fs
  | .slice _ => [.slice none 0 0]
  | .fn => [.nilFunc]
def Ty.zeroCellsL : List Ty → List Value
  | [] => []
  | t :: ts => t.zeroCells ++ Ty.zeroCellsL ts
end

/-- The value of a variable whose cells are these. -/
def Ty.val (t : Ty) (cs : List Value) : Value := if t.isAgg then .agg cs.toArray else cs.headD (.tuple #[])

/-- What is known of memory and never turns. -/
def Snap := Addr → Option Value
def Snap.has (S : Snap) (p : Addr) (cs : List Value) : Prop := ∀ j v, cs[j]? = some v → S (p.add j) = some v
def Snap.le (S S' : Snap) : Prop := ∀ p v, S p = some v → S' p = some v

mutual
def Rep (S : Snap) : Ty → List Value → AV → Prop
  | .bool, cs, x => ∃ b, cs = [.bool b] ∧ x = .bool b
  | .int k, cs, x => ∃ n, cs = [.int k n] ∧ x = .int n ∧ (Lit.int k n).wf = true
  | .str, cs, x => ∃ s : List UInt8, cs = [.string ⟨s.toArray⟩] ∧ x = .str s ∧ s.length ≤ maxLen
  | .blob n, cs, x => ∃ s : List UInt8, s.length = n ∧ cs = s.map byteV ∧ x = .blob s
  | .arr n e, cs, x => ∃ xs, x = .agg xs ∧ xs.length = n ∧ cs.length = n * e.size ∧ ∀ i y, xs[i]? = some y → Rep S e ((cs.drop (i * e.size)).take e.size) y
  | .struct fs, cs, x => ∃ xs, x = .agg xs ∧ RepL S fs cs xs
  | .slice e, cs, x => ∃ a len cap es, cs = [.slice a len cap] ∧ x = .slice es ∧ es.length = len ∧ len ≤ cap ∧ cap ≤ maxLen ∧ (a = none → cap = 0) ∧
      ∀ p, a = some p → ∀ i y, es[i]? = some y → ∃ ds, S.has (p.add (i * e.size)) ds ∧ ds.length = e.size ∧ Rep S e ds y
  | .fn, cs, x => ∃ f, cs = [.func (.func f) #[] #[]] ∧ x = .fn f
def RepL (S : Snap) : List Ty → List Value → List AV → Prop
  | [], cs, xs => cs = [] ∧ xs = []
  | t :: ts, cs, xs => ∃ y ys, xs = y :: ys ∧ t.size ≤ cs.length ∧ Rep S t (cs.take t.size) y ∧ RepL S ts (cs.drop t.size) ys
end

def VRep (S : Snap) (t : Ty) (v : Value) (x : AV) : Prop := ∃ cs, v = t.val cs ∧ Rep S t cs x

theorem Snap.le_refl (S : Snap) : S.le S := fun _ _ h => h
theorem Snap.le_trans {A B C : Snap} (h : A.le B) (k : B.le C) : A.le C := fun p v e => k p v (h p v e)
theorem Snap.has_mono {S S' : Snap} (h : S.le S') {p : Addr} {cs : List Value} (k : S.has p cs) : S'.has p cs := fun j v e => h _ _ (k j v e)

mutual
theorem Rep.mono {S S' : Snap} (h : S.le S') : ∀ (t : Ty) (cs : List Value) (x : AV), Rep S t cs x → Rep S' t cs x
  | .bool, _, _, r => r
  | .int _, _, _, r => r
  | .str, _, _, r => r
  | .blob _, _, _, r => r
  | .arr n e, cs, x, r => by
    simp only [Rep] at r ⊢
    obtain ⟨xs, h1, h2, h3, h4⟩ := r
    exact ⟨xs, h1, h2, h3, fun i y hy => Rep.mono h e _ _ (h4 i y hy)⟩
  | .struct fs, cs, x, r => by
    simp only [Rep] at r ⊢
    obtain ⟨xs, h1, h2⟩ := r
    exact ⟨xs, h1, RepL.mono h fs _ _ h2⟩
  | .slice e, cs, x, r => by
    simp only [Rep] at r ⊢
    obtain ⟨a, len, cap, es, h1, h2, h3, h4, h5, h6, h7⟩ := r
    refine ⟨a, len, cap, es, h1, h2, h3, h4, h5, h6, fun p hp i y hy => ?_⟩
    obtain ⟨ds, k1, k2, k3⟩ := h7 p hp i y hy
    exact ⟨ds, Snap.has_mono h k1, k2, Rep.mono h e _ _ k3⟩
  | .fn, _, _, r => r
theorem RepL.mono {S S' : Snap} (h : S.le S') : ∀ (ts : List Ty) (cs : List Value) (xs : List AV), RepL S ts cs xs → RepL S' ts cs xs
  | [], _, _, r => r
  | t :: ts, cs, xs, r => by
    simp only [RepL] at r ⊢
    obtain ⟨y, ys, h1, h2, h3, h4⟩ := r
    exact ⟨y, ys, h1, h2, Rep.mono h t _ _ h3, RepL.mono h ts _ _ h4⟩
end

mutual
theorem Rep.len {S : Snap} : ∀ (t : Ty) (cs : List Value) (x : AV), Rep S t cs x → cs.length = t.size
  | .bool, _, _, r => by obtain ⟨b, rfl, _⟩ := r; simp [Ty.size]
  | .int _, _, _, r => by obtain ⟨b, rfl, _⟩ := r; simp [Ty.size]
  | .str, _, _, r => by obtain ⟨b, rfl, _⟩ := r; simp [Ty.size]
  | .blob _, _, _, r => by obtain ⟨b, h, rfl, _⟩ := r; simp [Ty.size, h]
  | .arr n e, cs, x, r => by
    simp only [Rep] at r
    obtain ⟨xs, h1, h2, h3, h4⟩ := r
    simp [Ty.size, h3]
  | .struct fs, cs, x, r => by
    simp only [Rep] at r
    obtain ⟨xs, h1, h2⟩ := r
    simp [Ty.size, RepL.len fs _ _ h2]
  | .slice e, cs, x, r => by
    simp only [Rep] at r
    obtain ⟨a, len, cap, es, rfl, _⟩ := r
    simp [Ty.size]
  | .fn, _, _, r => by obtain ⟨b, rfl, _⟩ := r; simp [Ty.size]
theorem RepL.len {S : Snap} : ∀ (ts : List Ty) (cs : List Value) (xs : List AV), RepL S ts cs xs → cs.length = Ty.sizeL ts
  | [], _, _, r => by obtain ⟨rfl, _⟩ := r; simp [Ty.sizeL]
  | t :: ts, cs, xs, r => by
    simp only [RepL] at r
    obtain ⟨y, ys, h1, h2, h3, h4⟩ := r
    have := RepL.len ts _ _ h4
    simp only [List.length_drop] at this
    simp only [Ty.sizeL]
    omega
end

/-- A part of a plain value is as the value itself tells it. -/
theorem RepL.get {S : Snap} : ∀ (ts : List Ty) (cs : List Value) (xs : List AV), RepL S ts cs xs → xs.length = ts.length
  | [], _, _, r => by obtain ⟨_, rfl⟩ := r; rfl
  | t :: ts, cs, xs, r => by
    simp only [RepL] at r
    obtain ⟨y, ys, rfl, h2, h3, h4⟩ := r
    simp [RepL.get ts _ _ h4]

mutual
theorem Rep.co_eq {S : Snap} : ∀ (t : Ty) (cs : List Value) (x : AV), Rep S t cs x → t.co x = x
  | .bool, _, _, r => by obtain ⟨b, _, rfl⟩ := r; rfl
  | .int _, _, _, r => by obtain ⟨b, _, rfl, _⟩ := r; rfl
  | .str, _, _, r => by obtain ⟨b, _, rfl, _⟩ := r; rfl
  | .blob _, _, _, r => by obtain ⟨b, _, _, rfl⟩ := r; rfl
  | .arr n e, cs, x, r => by
    simp only [Rep] at r
    obtain ⟨xs, rfl, _⟩ := r
    rfl
  | .struct fs, cs, x, r => by
    simp only [Rep] at r
    obtain ⟨xs, rfl, h2⟩ := r
    simp only [Ty.co]
    exact congrArg AV.agg (RepL.co_eq fs cs xs [] h2)
  | .slice e, cs, x, r => by
    simp only [Rep] at r
    obtain ⟨a, len, cap, es, _, rfl, _⟩ := r
    rfl
  | .fn, _, _, r => by obtain ⟨b, _, rfl⟩ := r; rfl
theorem RepL.co_eq {S : Snap} : ∀ (ts : List Ty) (cs : List Value) (xs pre : List AV), RepL S ts cs xs → Ty.coL ts (.agg (pre ++ xs)) pre.length = xs
  | [], _, _, _, r => by obtain ⟨_, rfl⟩ := r; rfl
  | t :: ts, cs, xs, pre, r => by
    simp only [RepL] at r
    obtain ⟨y, ys, rfl, h2, h3, h4⟩ := r
    have h := RepL.co_eq ts _ ys (pre ++ [y]) h4
    have h0 := Rep.co_eq t _ y h3
    have hf : AV.fld (.agg (pre ++ y :: ys)) pre.length = y := by simp [AV.fld, nth, AV.toAgg]
    simp only [Ty.coL, hf, h0]
    simp only [List.append_assoc, List.singleton_append, List.length_append, List.length_cons, List.length_nil, Nat.zero_add] at h
    rw [h]
end

theorem VRep.mono {S S' : Snap} (h : S.le S') {t : Ty} {v : Value} {x : AV} (r : VRep S t v x) : VRep S' t v x := by
  obtain ⟨cs, h1, h2⟩ := r
  exact ⟨cs, h1, Rep.mono h t cs x h2⟩

end Go.Proofs.Ytcpdiahbdmcdcaa.Ev
