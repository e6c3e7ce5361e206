/- The evaluator: a function that runs translated Go code over plain values. Nothing here is trusted: that a run of the code ends as the evaluator tells is proved in the texts that follow. -/
import Derived.Test.YtcpdiahbdmcdcaaEvA
namespace Go.Proofs.Ytcpdiahbdmcdcaa.Ev
open Go Go.RowKit

/-- A place in a variable of the call's own: which variable, its generation, the way into it, the type at its end. -/
structure Pt where
  t : Ty
  id : Nat
  gen : Nat
  path : List Nat

/-- What a slot holds. -/
inductive Ent where
  | any
  | undef
  | val (t : Ty) (g : Option (Nat × Nat)) (x : AV)
  | at (t : Ty) (x : AV)
  | ptr (p : Pt)
  | ref (p : Pt) (lo hi : Nat)
  | clo (f : Nat) (caps : List Pt)
  | tup (l : List (Ty × AV))

/-- A variable of the call's own. -/
structure Ob where
  t : Ty
  x : AV

structure OSlot where
  gen : Nat
  ob : Option Ob

structure St where
  tmps : List Ent
  objs : List OSlot
  owns : List Nat

/-- What an operation does. -/
structure Eff where
  e : Ent
  ob : List (Nat × OSlot)
  ow : List (Nat × Nat)
  ro : List Nat
  rw : List Nat

structure Res where
  vals : List AV
  outs : List AV
  fresh : Bool

abbrev Run := FuncId → List AV → Option Res

inductive Ex where
  | normal
  | exit (id : Nat)
  | ret

inductive PTy where
  | val (t : Ty)
  | ptr (t : Ty)

structure FnInfo where
  params : List PTy
  results : List PTy
  ntmps : Nat
  rvars : List ResultVar
  body : Code
  keep : List (Nat × (List Nat × List Nat))
  fresh : Bool
  ext : Bool

structure Env where
  ty : List (TypeId × Ty)
  bytes : List (TypeId × Nat)
  fns : List (FuncId × FnInfo)
  ptrs : List TypeId := []

def assoc {α : Type} : List (Nat × α) → Nat → Option α
  | [], _ => none
  | (k, e) :: r, t => bif Nat.beq k t then some e else assoc r t

def memN (n : Nat) : List Nat → Bool
  | [] => false
  | k :: r => bif Nat.beq k n then true else memN n r

def St.look (s : St) (t : Nat) : Ent := s.tmps.getD t .any
def St.slot (s : St) (t : Nat) : OSlot := s.objs.getD t ⟨0, none⟩
def St.own (s : St) (t : Nat) : Nat := s.owns.getD t 0

def setAll {α : Type} : List (Nat × α) → List α → List α
  | [], l => l
  | (i, x) :: r, l => setAll r (l.set i x)

def Eff.apply (f : Eff) (d : Option Nat) (s : St) : St :=
  ⟨match d with | some d => s.tmps.set d f.e | none => s.tmps, setAll f.ob s.objs, setAll f.ow s.owns⟩

def absBytes : List Value → Option (List UInt8)
  | [] => some []
  | v :: r => match v with
    | .int .u8 n => bif decide (0 ≤ n) && decide (n < 256) then (absBytes r).map (UInt8.ofNat n.toNat :: ·) else none
    | _ => none

/-- A constant of one cell. -/
def absBool : Value → Option AV
  | .bool b => some (.bool b)
  | _ => none
def absInt (k : IntKind) : Value → Option AV
  | .int k' n => bif Nat.beq (kindNo k) (kindNo k') && (Lit.int k n).wf then some (.int n) else none
  | _ => none
def absStr : Value → Option AV
  | .string s => bif Nat.ble s.data.toList.length maxLen then some (.str s.data.toList) else none
  | _ => none
def absNil : Value → Option AV
  | .slice none 0 0 => some (.slice [])
  | _ => none
def one (f : Value → Option AV) : List Value → Option AV
  | [] => none
  | v :: r => match r with
    | [] => f v
    | _ :: _ => none

mutual
/-- A constant's plain value. -/
def Ty.abs : Ty → List Value → Option AV
  | .bool, cs => one absBool cs
  | .int k, cs => one (absInt k) cs
  | .str, cs => one absStr cs
  | .slice _, cs => one absNil cs
  | .blob n, cs => (absBytes cs).bind fun l => bif Nat.beq l.length n then some (.blob l) else none
  | .struct fs, cs => (Ty.absL fs cs).map .agg
  | .arr _ _, _ => none
  | .fn, _ => none
def Ty.absL : List Ty → List Value → Option (List AV)
  | [], cs => match cs with
    | [] => some []
    | _ :: _ => none
  | t :: ts, cs => bif Nat.ble t.size cs.length then (t.abs (cs.take t.size)).bind fun x => (Ty.absL ts (cs.drop t.size)).map (x :: ·) else none
end

def Value.notAgg : Value → Bool
  | .agg _ => false
  | _ => true

def Ty.const (t : Ty) (v : Value) : Option AV :=
  bif t.isAgg then (match v with | .agg cs => t.abs cs.toList | _ => none) else (bif Value.notAgg v then t.abs [v] else none)

def Ent.atTy (t : Ty) : Ent → Option AV
  | .val t' _ x => bif t'.beq t then some x else none
  | _ => none

/-- An operand that is wanted at a type. -/
def St.opv (s : St) (t : Ty) : Operand → Option AV
  | .tmp i => (s.look i).atTy t
  | .const v => t.const v
  | .func f => match t with
    | .fn => some (.fn f)
    | _ => none
  | _ => none

def St.opvs (s : St) : List Ty → List Operand → Option (List AV)
  | [], [] => some []
  | t :: ts, o :: os => (s.opv t o).bind fun x => (s.opvs ts os).map (x :: ·)
  | _, _ => none

def Ent.asInt : Ent → Option Int
  | .val (.int _) _ x => some x.toInt
  | _ => none

/-- An operand that is an integer of whatever kind. -/
def St.opi (s : St) : Operand → Option Int
  | .tmp i => (s.look i).asInt
  | .const (.int _ n) => some n
  | _ => none

def St.ope (s : St) : Operand → Ent
  | .tmp i => s.look i
  | _ => .any

/- parts of values -/
mutual
def eqT : Ty → AV → AV → Bool
  | .bool, x, y => decide (x.toBool = y.toBool)
  | .int _, x, y => decide (x.toInt = y.toInt)
  | .str, x, y => decide (x.toStr = y.toStr)
  | .blob _, x, y => decide (x.toBlob = y.toBlob)
  | .struct fs, x, y => eqL fs x y 0
  | .arr _ _, _, _ => false
  | .slice _, _, _ => false
  | .fn, _, _ => false
def eqL : List Ty → AV → AV → Nat → Bool
  | [], _, _, _ => true
  | t :: ts, x, y, i => eqT t (x.fld i) (y.fld i) && eqL ts x y (i + 1)
end

mutual
/-- Can values of this type be held against each other by the evaluator? -/
def Ty.eqOk : Ty → Bool
  | .bool => true
  | .int _ => true
  | .str => true
  | .blob _ => true
  | .struct fs => Ty.eqOkL fs
  | .arr _ _ => false
  | .slice _ => false
  | .fn => false
def Ty.eqOkL : List Ty → Bool
  | [] => true
  | t :: ts => t.eqOk && Ty.eqOkL ts
end

/-- What stands at the end of a path. -/
def getP : Ty → AV → List Nat → AV
  | _, x, [] => x
  | .blob _, x, i :: _ => .int ((x.toBlob.getD i 0).toNat : Int)
  | .struct fs, x, i :: r => match fs[i]? with
    | some t => getP t (x.fld i) r
    | none => .bot
  | .arr _ e, x, i :: r => getP e (x.fld i) r
  | _, _, _ => .bot

def setP : Ty → AV → List Nat → AV → AV
  | _, _, [], y => y
  | .blob _, x, i :: _, y => .blob (x.toBlob.set i (UInt8.ofNat y.toInt.toNat))
  | .struct fs, x, i :: r, y => match fs[i]? with
    | some t => .agg (x.toAgg.set i (setP t (x.fld i) r y))
    | none => .bot
  | .arr _ e, x, i :: r, y => .agg (x.toAgg.set i (setP e (x.fld i) r y))
  | _, _, _, _ => .bot

def bytesOf (es : List AV) : List UInt8 := es.map fun x => UInt8.ofNat x.toInt.toNat
def ofBytes (l : List UInt8) : List AV := l.map fun b => .int (b.toNat : Int)

/-- The elements of an array's value, and back. -/
def elemsOf : Ty → AV → List AV
  | .blob _, x => ofBytes x.toBlob
  | _, x => x.toAgg
def ofElems : Ty → List AV → AV
  | .blob _, l => .blob (bytesOf l)
  | _, l => .agg l
def Ty.elem : Ty → Option Ty
  | .blob _ => some (.int .u8)
  | .arr _ e => some e
  | _ => none
def splice (l : List AV) (k : Nat) (src : List AV) : List AV := l.take k ++ (src ++ l.drop (k + src.length))

def inR (i : Int) (n : Nat) : Bool := decide (0 ≤ i) && decide (i < (n : Int))

/- operations on numbers, strings -/
def intOp (k : IntKind) : BinOp → Int → Int → Option Int
  | .add, x, y => some (k.wrap (x + y))
  | .sub, x, y => some (k.wrap (x - y))
  | .mul, x, y => some (k.wrap (x * y))
  | .and, x, y => some (k.wrap (BitVec.ofInt k.bits x &&& BitVec.ofInt k.bits y).toNat)
  | .or, x, y => some (k.wrap (BitVec.ofInt k.bits x ||| BitVec.ofInt k.bits y).toNat)
  | .xor, x, y => some (k.wrap (BitVec.ofInt k.bits x ^^^ BitVec.ofInt k.bits y).toNat)
  | .andNot, x, y => some (k.wrap (BitVec.ofInt k.bits x &&& ~~~ BitVec.ofInt k.bits y).toNat)
  | _, _, _ => none

def cmpOp : BinOp → Int → Int → Option Bool
  | .eql, x, y => some (decide (x = y))
  | .neq, x, y => some (!decide (x = y))
  | .lss, x, y => some (decide (x < y))
  | .leq, x, y => some (decide (x ≤ y))
  | .gtr, x, y => some (decide (y < x))
  | .geq, x, y => some (decide (y ≤ x))
  | _, _, _ => none

def strCmp : BinOp → List UInt8 → List UInt8 → Option Bool
  | .eql, x, y => some (decide (x = y))
  | .neq, x, y => some (!decide (x = y))
  | _, _, _ => none

def mx2 (a b : Int) : Int := if b > a then b else a
def mn2 (a b : Int) : Int := if b < a then b else a
def minMax (mx : Bool) : List AV → Option Int
  | [] => none
  | a :: r => some (r.foldl (fun m b => bif mx then mx2 m b.toInt else mn2 m b.toInt) a.toInt)

def Env.tyOf (G : Env) (t : TypeId) : Option Ty := assoc G.ty t

section
variable {α : Type}

def tell (e : Ent) (k : Eff → Option α) : Option α := k ⟨e, [], [], [], []⟩
def tellR (e : Ent) (ro : List Nat) (k : Eff → Option α) : Option α := k ⟨e, [], [], ro, []⟩
/-- A slice that is the call's own: it may grow in place. -/
def tellOwn (s : St) (d : Option Nat) (t : Ty) (x : AV) (k : Eff → Option α) : Option α :=
  match d with
  | none => none
  | some d => k ⟨.val t (some (d, s.own d + 1)) x, [], [(d, s.own d + 1)], [], [d]⟩
/-- A new variable. -/
def tellNew (s : St) (d : Option Nat) (t : Ty) (x : AV) (k : Eff → Option α) : Option α :=
  match d with
  | none => none
  | some d => k ⟨.ptr ⟨t, d, (s.slot d).gen + 1, []⟩, [(d, ⟨(s.slot d).gen + 1, some ⟨t, x⟩⟩)], [], [d], []⟩

/-- The variable behind a place. -/
def St.obAt (s : St) (p : Pt) : Option Ob := bif Nat.beq (s.slot p.id).gen p.gen then (s.slot p.id).ob else none

/-- What is told of a place, if its variable is there. -/
def liveK (s : St) (p : Pt) (e : Ent) (k : Eff → Option α) : Option α := (s.obAt p).bind fun _ => tellR e [p.id] k

/-- What a place holds. -/
def St.getPt (s : St) (p : Pt) : Option AV := (s.obAt p).map fun ob => getP ob.t ob.x p.path
def St.setPt (s : St) (p : Pt) (y : AV) : Option (Nat × OSlot) := (s.obAt p).map fun ob => (p.id, ⟨p.gen, some ⟨ob.t, setP ob.t ob.x p.path y⟩⟩)

/-- 'x == y', 'x != y' of whole values. -/
def eqK (s : St) (op : BinOp) (t : Ty) (x y : Operand) (k : Eff → Option α) : Option α :=
  bif t.eqOk then
    (s.opv t x).bind fun a => (s.opv t y).bind fun b =>
      match op with
      | .eql => tell (.val .bool none (.bool (eqT t a b))) k
      | .neq => tell (.val .bool none (.bool (!eqT t a b))) k
      | _ => none
  else none

/-- 'x op y'. -/
def binK (s : St) (op : BinOp) (t : Ty) (x y : Operand) (k : Eff → Option α) : Option α :=
  match t with
  | .int kd => match op with
    | .shl => (s.opv t x).bind fun a => (s.opi y).bind fun b =>
        bif decide (0 ≤ b) then tell (.val t none (.int (kd.wrap (a.toInt * 2 ^ (min b.toNat kd.bits))))) k else none
    | .shr => (s.opv t x).bind fun a => (s.opi y).bind fun b =>
        bif decide (0 ≤ b) then tell (.val t none (.int (a.toInt.fdiv (2 ^ (min b.toNat kd.bits))))) k else none
    | .quo => (s.opv t x).bind fun a => (s.opv t y).bind fun b =>
        bif !decide (b.toInt = 0) then tell (.val t none (.int (kd.wrap (a.toInt.tdiv b.toInt)))) k else none
    | .rem => (s.opv t x).bind fun a => (s.opv t y).bind fun b =>
        bif !decide (b.toInt = 0) then tell (.val t none (.int (a.toInt.tmod b.toInt))) k else none
    | _ => (s.opv t x).bind fun a => (s.opv t y).bind fun b =>
        match intOp kd op a.toInt b.toInt with
        | some r => tell (.val t none (.int r)) k
        | none => match cmpOp op a.toInt b.toInt with
          | some r => tell (.val .bool none (.bool r)) k
          | none => none
  | .str => (s.opv t x).bind fun a => (s.opv t y).bind fun b =>
      match op with
      | .add => bif Nat.ble (a.toStr.length + b.toStr.length) maxLen then tell (.val t none (.str (a.toStr ++ b.toStr))) k else none
      | _ => match strCmp op a.toStr b.toStr with
        | some r => tell (.val .bool none (.bool r)) k
        | none => none
  | _ => eqK s op t x y k

def unK (s : St) (op : UnOp) (t : Ty) (x : Operand) (k : Eff → Option α) : Option α :=
  (s.opv t x).bind fun a =>
    match op, t with
    | .not, .bool => tell (.val .bool none (.bool (!a.toBool))) k
    | .neg, .int kd => tell (.val t none (.int (kd.wrap (0 - a.toInt)))) k
    | .xor, .int kd => tell (.val t none (.int (kd.wrap (BitVec.ofInt kd.bits (if kd.signed then -1 else kd.max) ^^^ BitVec.ofInt kd.bits a.toInt).toNat))) k
    | _, _ => none

def Ent.refOf : Ent → Option (Pt × (Nat × Nat))
  | .ref p lo hi => some (p, (lo, hi))
  | _ => none

/-- What a slice of an own array holds. -/
def St.refList (s : St) (p : Pt) (lo hi : Nat) : Option (List AV) :=
  (s.getPt p).map fun x => ((elemsOf p.t x).take hi).drop lo

/-- What is appended, or copied. -/
def srcE (s : St) (T : Ty) (x : Operand) : Option (List AV × List Nat) :=
  match (s.ope x).refOf with
  | some (p, (lo, hi)) => match T, p.t.elem with
    | .slice e, some e' => bif e'.beq e then (s.refList p lo hi).map fun l => (l, [p.id]) else none
    | _, _ => none
  | none => (s.opv T x).map fun a => (a.toSlice, [])

def convK (s : St) (src dst : Ty) (x : Operand) (k : Eff → Option α) : Option α :=
  match src, dst with
  | .int _, .int kd => (s.opv src x).bind fun a => tell (.val dst none (.int (kd.wrap a.toInt))) k
  | .str, .str => (s.opv src x).bind fun a => tell (.val dst none a) k
  | .slice (.int .u8), .str => (srcE s src x).bind fun b => tellR (.val dst none (.str (bytesOf b.1))) b.2 k
  | _, _ => none

def partsE (s : St) : List (Nat × Operand) → List Ty → List AV → Option (List AV)
  | [], _, l => some l
  | (i, x) :: r, fs, l => match fs[i]? with
    | some t => (s.opv t x).bind fun a => partsE s r fs (l.set i a)
    | none => none
def elemsE (s : St) (t : Ty) : List (Nat × Operand) → List AV → Option (List AV)
  | [], l => some l
  | (i, x) :: r, l => bif Nat.blt i l.length then (s.opv t x).bind fun a => elemsE s t r (l.set i a) else none

/-- A bound of a slice expression. -/
def boundE (s : St) (dflt : Int) : Option Operand → Option Int
  | none => some dflt
  | some x => s.opi x

/-- The three bounds hold: 0 ≤ l ≤ h ≤ m ≤ n. -/
def boundsOk (l h m n : Int) : Bool := decide (0 ≤ l) && decide (l ≤ h) && decide (h ≤ m) && decide (m ≤ n)

def sliceK (s : St) (T : Ty) (x : Operand) (lo hi mx : Option Operand) (k : Eff → Option α) : Option α :=
  match T with
  | .str => match mx with
    | none => (s.opv T x).bind fun a => (boundE s 0 lo).bind fun l => (boundE s (a.toStr.length : Int) hi).bind fun h =>
        bif boundsOk l h (a.toStr.length : Int) (a.toStr.length : Int) then tell (.val T none (.str ((a.toStr.take h.toNat).drop l.toNat))) k else none
    | some _ => none
  | .slice E => match (s.ope x).refOf with
    | some (p, (rl, rh)) => (boundE s 0 lo).bind fun l => (boundE s ((rh - rl : Nat) : Int) hi).bind fun h => (boundE s ((rh - rl : Nat) : Int) mx).bind fun m =>
        bif boundsOk l h m ((rh - rl : Nat) : Int) && (mx.isNone || hi.isSome) && (match p.t.elem with | some e => e.beq E | none => false) then liveK s p (.ref p (rl + l.toNat) (rl + h.toNat)) k else none
    | none => (s.opv T x).bind fun a => (boundE s 0 lo).bind fun l => (boundE s (a.toSlice.length : Int) hi).bind fun h => (boundE s (a.toSlice.length : Int) mx).bind fun m =>
        bif boundsOk l h m (a.toSlice.length : Int) && (mx.isNone || hi.isSome) then tell (.val T none (.slice ((a.toSlice.take h.toNat).drop l.toNat))) k else none
  | .blob n | .arr n _ => match s.ope x with
    | .ptr p => bif p.t.beq T && Nat.ble n maxLen then (boundE s 0 lo).bind fun l => (boundE s (n : Int) hi).bind fun h => (boundE s (n : Int) mx).bind fun m =>
        bif boundsOk l h m (n : Int) && (mx.isNone || hi.isSome) then liveK s p (.ref p l.toNat h.toNat) k else none else none
    | _ => none
  | _ => none

def lenK (s : St) (T : Ty) (x : Operand) (k : Eff → Option α) : Option α :=
  match T with
  | .slice _ => match (s.ope x).refOf with
    | some (p, (lo, hi)) => liveK s p (.val (.int .i64) none (.int ((hi - lo : Nat) : Int))) k
    | none => (s.opv T x).bind fun a => tell (.val (.int .i64) none (.int (a.toSlice.length : Int))) k
  | .str => (s.opv T x).bind fun a => tell (.val (.int .i64) none (.int (a.toStr.length : Int))) k
  | .blob n | .arr n _ => bif Nat.ble n maxLen then tell (.val (.int .i64) none (.int (n : Int))) k else none
  | _ => none

def appendK (s : St) (d : Option Nat) (e : Ty) (by_ : Nat) (x y : Operand) (k : Eff → Option α) : Option α :=
  match d with
  | none => none
  | some d => (srcE s (.slice e) y).bind fun (b, ro) =>
    match x, s.ope x with
    | .const (.slice none 0 0), _ =>
        bif Nat.ble (b.length * by_) 140737488355328 then k ⟨.val (.slice e) (some (d, s.own d + 1)) (.slice b), [], [(d, s.own d + 1)], ro, [d]⟩ else none
    | _, .val T' (some (g, n)) a => bif T'.beq (.slice e) && Nat.beq (s.own g) n && Nat.blt g s.owns.length then
          bif Nat.ble ((a.toSlice.length + b.length) * by_) 140737488355328 then
            k ⟨.val (.slice e) (some (d, (bif Nat.beq g d then n + 1 else s.own d) + 1)) (.slice (a.toSlice ++ b)), [], [(g, n + 1), (d, (bif Nat.beq g d then n + 1 else s.own d) + 1)], ro, [g, d]⟩
          else none else none
    | _, _ => none

def copySrc (s : St) (E S : Ty) (y : Operand) : Option (List AV × List Nat) :=
  match S with
  | .str => bif E.beq (.int .u8) then (s.opv .str y).map fun a => (ofBytes a.toStr, []) else none
  | .slice F => bif F.beq E then srcE s (.slice F) y else none
  | _ => none

def copyK (s : St) (T S : Ty) (x y : Operand) (k : Eff → Option α) : Option α :=
  match s.ope x with
  | .ref p lo hi => match T, p.t.elem with
    | .slice e, some e' => bif e'.beq e then
        (copySrc s e S y).bind fun b =>
          (s.getPt p).bind fun a => (s.setPt p (ofElems p.t (splice (elemsOf p.t a) lo (b.1.take (hi - lo))))).bind fun w =>
            k ⟨.val (.int .i64) none (.int ((min b.1.length (hi - lo) : Nat) : Int)), [w], [], p.id :: b.2, []⟩
        else none
    | _, _ => none
  | _ => none

def makeK (s : St) (d : Option Nat) (T : Ty) (by_ : Nat) (x y : Operand) (k : Eff → Option α) : Option α :=
  match T, d with
  | .slice e, some d => (s.opv (.int .i64) x).bind fun a => (s.opv (.int .i64) y).bind fun b =>
      bif decide (b.toInt = a.toInt) && decide (0 ≤ a.toInt) && Nat.ble (a.toInt.toNat * by_) 140737488355328 then
        k ⟨.ref ⟨.arr a.toInt.toNat e, d, (s.slot d).gen + 1, []⟩ 0 a.toInt.toNat, [(d, ⟨(s.slot d).gen + 1, some ⟨.arr a.toInt.toNat e, .agg (List.replicate a.toInt.toNat e.zero)⟩⟩)], [], [d], []⟩
      else none
  | _, _ => none

def builtinK (G : Env) (s : St) (d : Option Nat) (b : Builtin) (ts : List TypeId) (xs : List Operand) (rt : TypeId) (k : Eff → Option α) : Option α :=
  match b, ts, xs with
  | .len, [t], [x] => (G.tyOf t).bind fun T => lenK s T x k
  | .max, _, _ => (G.tyOf rt).bind fun T => match T with
      | .int _ => (s.opvs (xs.map fun _ => T) xs).bind fun l => (minMax true l).bind fun r => tell (.val T none (.int r)) k
      | _ => none
  | .min, _, _ => (G.tyOf rt).bind fun T => match T with
      | .int _ => (s.opvs (xs.map fun _ => T) xs).bind fun l => (minMax false l).bind fun r => tell (.val T none (.int r)) k
      | _ => none
  | .append, [t, t'], [x, y] => (G.tyOf t).bind fun T => (assoc G.bytes t).bind fun by_ => bif Nat.beq t t' then (match T with | .slice e => appendK s d e by_ x y k | _ => none) else none
  | .copy, [t, t'], [x, y] => (G.tyOf t).bind fun T => (G.tyOf t').bind fun S => copyK s T S x y k
  | _, _, _ => none

/-- The arguments of a call: plain values, and what pointers point to. -/
def argsE (s : St) : List PTy → List Operand → List Pt → Option (List AV × List Pt)
  | [], os, ps => match os, ps with
    | [], [] => some ([], [])
    | _, _ => none
  | .val t :: ts, os, ps => match os with
    | o :: os => (s.opv t o).bind fun x => (argsE s ts os ps).map fun r => (x :: r.1, r.2)
    | [] => none
  | .ptr t :: ts, os, ps => match os with
    | o :: os => match s.ope o with
      | .ptr p => bif p.t.beq t && p.path.isEmpty then (s.getPt p).bind fun x => (argsE s ts os ps).map fun r => (t.co x :: r.1, p :: r.2) else none
      | _ => none
    | [] => match ps with
      | p :: ps => bif p.t.beq t && p.path.isEmpty then (s.getPt p).bind fun x => (argsE s ts [] ps).map fun r => (t.co x :: r.1, p :: r.2) else none
      | [] => none

/-- The first of a list that is not empty; a list that is. -/
def consV {β : Type} (l : List β) (k : β → List β → Option α) : Option α := match l with
  | [] => none
  | v :: r => k v r
def nilV {β : Type} (l : List β) (k : Option α) : Option α := match l with
  | [] => k
  | _ :: _ => none

/-- What pointers point to, behind a call. -/
def outsK (s : St) : List Pt → List AV → (List (Nat × OSlot) → Option α) → Option α
  | [], ys, k => nilV ys (k [])
  | p :: ps, ys, k => consV ys fun y ys => (s.setPt p (p.t.co y)).bind fun w => outsK s ps ys fun l => k (w :: l)

def apartN : List Nat → Bool
  | [] => true
  | a :: r => !memN a r && apartN r

def tupK : List PTy → List AV → (List (Ty × AV) → Option α) → Option α
  | [], vs, k => nilV vs (k [])
  | .val T :: Ts, vs, k => consV vs fun v vs => tupK Ts vs fun l => k ((T, T.co v) :: l)
  | .ptr _ :: _, _, _ => none

/-- One result that is a value. -/
def oneK (s : St) (d : Option Nat) (T : Ty) (fresh : Bool) (v : AV) (ob : List (Nat × OSlot)) (ro : List Nat) (k : Eff → Option α) : Option α :=
  match fresh, T, d with
  | true, .slice E, some d => k ⟨.val (.slice E) (some (d, s.own d + 1)) (Ty.co (.slice E) v), ob, [(d, s.own d + 1)], ro, [d]⟩
  | _, _, _ => k ⟨.val T none (T.co v), ob, [], ro, []⟩

def resultK (s : St) (d : Option Nat) (ts : List PTy) (fresh : Bool) (r : Res) (ob : List (Nat × OSlot)) (ro : List Nat) (k : Eff → Option α) : Option α :=
  match ts with
  | [.val T] => consV r.vals fun v vs => nilV vs (oneK s d T fresh v ob ro k)
  | [.ptr T] => consV r.vals fun v vs => nilV vs (match d with
    | some d => k ⟨.ptr ⟨T, d, (s.slot d).gen + 1, []⟩, ob ++ [(d, ⟨(s.slot d).gen + 1, some ⟨T, T.co v⟩⟩)], [], d :: ro, []⟩
    | none => none)
  | Ts => tupK Ts r.vals fun l => k ⟨.tup l, ob, [], ro, []⟩

def callK (G : Env) (run : Run) (s : St) (d : Option Nat) (f : FuncId) (caps : List Pt) (xs : List Operand) (k : Eff → Option α) : Option α :=
  (assoc G.fns f).bind fun i => (argsE s i.params xs caps).bind fun l => bif apartN (l.2.map Pt.id) then
    (run f l.1).bind fun r => bif !i.fresh || r.fresh then outsK s l.2 r.outs fun ob => resultK s d i.results i.fresh r ob (l.2.map Pt.id) k else none
    else none

def capsE (s : St) : List Operand → Option (List Pt)
  | [] => some []
  | o :: os => match s.ope o with
    | .ptr p => (capsE s os).map (p :: ·)
    | _ => none

def fieldAddrK (s : St) (T : Ty) (x : Operand) (i : Nat) (k : Eff → Option α) : Option α :=
  match T with
  | .struct fs => (match fs[i]? with
    | some F => (match s.ope x with
      | .at T' y => bif T'.beq (.struct fs) then tell (.at F (F.co (y.fld i))) k else none
      | .ptr p => bif p.t.beq (.struct fs) then liveK s p (.ptr ⟨F, p.id, p.gen, p.path ++ [i]⟩) k else none
      | _ => none)
    | none => none)
  | _ => none

def indexPtrK (s : St) (T e : Ty) (n : Nat) (x : Operand) (i : Int) (k : Eff → Option α) : Option α :=
  match s.ope x with
  | .ptr p => bif p.t.beq T then (bif inR i n then liveK s p (.ptr ⟨e, p.id, p.gen, p.path ++ [i.toNat]⟩) k else none) else none
  | _ => none

def indexAddrK (s : St) (T : Ty) (x : Operand) (i : Int) (k : Eff → Option α) : Option α :=
  match T with
  | .slice e => (match (s.ope x).refOf with
    | some (p, (lo, hi)) => (match p.t.elem with
      | some e' => bif e'.beq e then (bif inR i (hi - lo) then liveK s p (.ptr ⟨e, p.id, p.gen, p.path ++ [lo + i.toNat]⟩) k else none) else none
      | none => none)
    | none => (s.opv (.slice e) x).bind fun a => bif inR i a.toSlice.length then tell (.at e (e.co (nth a.toSlice i.toNat))) k else none)
  | .blob n => indexPtrK s (.blob n) (.int .u8) n x i k
  | .arr n e => indexPtrK s (.arr n e) e n x i k
  | _ => none

def indexK (T : Ty) (a : AV) (i : Int) (k : Eff → Option α) : Option α :=
  match T with
  | .str => bif inR i a.toStr.length then tell (.val (.int .u8) none (.int ((a.toStr.getD i.toNat 0).toNat : Int))) k else none
  | .blob n => bif inR i n then tell (.val (.int .u8) none (.int ((a.toBlob.getD i.toNat 0).toNat : Int))) k else none
  | .arr n e => bif inR i n then tell (.val e none (e.co (a.fld i.toNat))) k else none
  | _ => none

def constK (s : St) (d : Option Nat) (T : Ty) (v : Value) (a : AV) (k : Eff → Option α) : Option α :=
  match T, v with
  | .slice E, .slice none 0 0 => tellOwn s d (.slice E) (.slice []) k
  | _, _ => tell (.val T none a) k

def buildK (s : St) (T : Ty) (ps : List (Nat × Operand)) (k : Eff → Option α) : Option α :=
  match T with
  | .struct fs => (partsE s ps fs (Ty.zeroL fs)).bind fun l => tell (.val (.struct fs) none (.agg l)) k
  | .arr n e => (elemsE s e ps (List.replicate n e.zero)).bind fun l => tell (.val (.arr n e) none (.agg l)) k
  | .blob n => (elemsE s (.int .u8) ps (List.replicate n (.int 0))).bind fun l => tell (.val (.blob n) none (.blob (bytesOf l))) k
  | _ => none

def buildSliceK (s : St) (d : Option Nat) (T : Ty) (n : Nat) (ps : List (Nat × Operand)) (k : Eff → Option α) : Option α :=
  match T with
  | .slice e => (elemsE s e ps (List.replicate n e.zero)).bind fun l => bif Nat.ble (n * e.size) 16777216 && e.noFn then tellOwn s d (.slice e) (.slice l) k else none
  | _ => none

def loadK (s : St) (T : Ty) (a : Operand) (k : Eff → Option α) : Option α :=
  match s.ope a with
  | .at T' x => bif T'.beq T then tell (.val T none x) k else none
  | .ptr p => bif p.t.beq T then (s.getPt p).bind fun x => tellR (.val T none (T.co x)) [p.id] k else none
  | _ => none

def storeK (s : St) (T : Ty) (a x : Operand) (k : Eff → Option α) : Option α :=
  match s.ope a with
  | .ptr p => bif p.t.beq T then (s.opv T x).bind fun y => (s.setPt p y).bind fun w => k ⟨.undef, [w], [], [p.id], []⟩ else none
  | _ => none

def fieldK (s : St) (T : Ty) (x : Operand) (i : Nat) (k : Eff → Option α) : Option α :=
  match T with
  | .struct fs => (match fs[i]? with
    | some F => (s.opv (.struct fs) x).bind fun a => tell (.val F none (F.co (a.fld i))) k
    | none => none)
  | _ => none

def extractK (s : St) (x : Operand) (i : Nat) (k : Eff → Option α) : Option α :=
  match s.ope x with
  | .tup l => (match l[i]? with
    | some b => tell (.val b.1 none b.2) k
    | none => none)
  | _ => none

def isNilPtr : Value → Bool
  | .pointer none => true
  | _ => false

/-- Whether a pointer into a variable of the call's own is nil: it is not. -/
def ptrTest (G : Env) (s : St) (op : BinOp) (t : TypeId) (x y : Operand) : Option (Pt × Bool) :=
  bif memN t G.ptrs then
    match op, s.ope x, y with
    | .eql, .ptr p, .const (.pointer none) => some (p, false)
    | .neq, .ptr p, .const (.pointer none) => some (p, true)
    | _, _, _ => none
  else none

def opK (G : Env) (run : Run) (o : Oper) (s : St) (k : Eff → Option α) : Option α :=
  match o.op with
  | .move x | .assign x => match x with
    | .tmp i => tell (s.look i) k
    | .const v => bif isNilPtr v then tell .any k else (G.tyOf o.type).bind fun T => (T.const v).bind fun a =>
        constK s o.dst T v a k
    | .func f => tell (.val .fn none (.fn f)) k
    | _ => none
  | .pick c a b => (s.opv .bool c).bind fun c => (bif c.toBool then s.opv .bool a else s.opv .bool b).bind fun z =>
      tell (.val .bool none (.bool z.toBool)) k
  | .alloc t => (G.tyOf t).bind fun T => bif T.noFn then tellNew s o.dst T T.zero k else none
  | .box t x => (G.tyOf t).bind fun T => (s.opv T x).bind fun a => tellNew s o.dst T a k
  | .build t ps => (G.tyOf t).bind fun T => bif T.noFn then
      buildK s T ps.toList k else none
  | .buildSlice t n ps => (G.tyOf t).bind fun T => buildSliceK s o.dst T n ps.toList k
  | .load t a => (G.tyOf t).bind fun T => loadK s T a k
  | .store t a x => (G.tyOf t).bind fun T => storeK s T a x k
  | .nilCheck x => match s.ope x with
    | .at T y => tell (.at T y) k
    | .ptr p => liveK s p (.ptr p) k
    | _ => none
  | .binOp op t x y _ => match ptrTest G s op t x y with
    | some (p, b) => liveK s p (.val .bool none (.bool b)) k
    | none => (G.tyOf t).bind fun T => binK s op T x y k
  | .unOp op t x => (G.tyOf t).bind fun T => unK s op T x k
  | .convert src dst x => (G.tyOf src).bind fun A => (G.tyOf dst).bind fun B => convK s A B x k
  | .makeFunc (.func f) first caps => bif first.isEmpty then
      (bif caps.isEmpty then tell (.val .fn none (.fn f)) k else (capsE s caps.toList).bind fun l => tell (.clo f l) k) else none
  | .makeSlice t x y => (G.tyOf t).bind fun T => (assoc G.bytes t).bind fun by_ => bif T.noFn then makeK s o.dst T by_ x y k else none
  | .slice t x lo hi mx => (G.tyOf t).bind fun T => sliceK s T x lo hi mx k
  | .fieldAddr t x i => (G.tyOf t).bind fun T => fieldAddrK s T x i k
  | .field t x i => (G.tyOf t).bind fun T => fieldK s T x i k
  | .indexAddr t x ix => (G.tyOf t).bind fun T => (s.opi ix).bind fun i => indexAddrK s T x i k
  | .index t x ix => (G.tyOf t).bind fun T => (s.opi ix).bind fun i => (s.opv T x).bind fun a => indexK T a i k
  | .extract x i => extractK s x i k
  | .call c => match c.callee with
    | .builtin b => builtinK G s o.dst b c.argTypes.toList c.args.toList o.type k
    | .value (.func f) => callK G run s o.dst f [] c.args.toList k
    | .value (.tmp t) => (match s.look t with
      | .val .fn _ (.fn f) => callK G run s o.dst f [] c.args.toList k
      | .clo f caps => callK G run s o.dst f caps c.args.toList k
      | _ => none)
    | _ => none
  | _ => none

/-- The slot that decides whether an operation under a guard is carried out. -/
def guardTmp (ops : List Oper) (o : Oper) : Option (Nat × Bool) :=
  o.guard.bind fun g => (ops[g.1]?).bind fun oj => oj.dst.map fun d => (d, g.2)

def Ent.yes (want : Bool) : Ent → Option Bool
  | .undef => some false
  | .val .bool _ x => some (bif want then x.toBool else !x.toBool)
  | _ => none

/-- One operation, under its guard. -/
def stepK (G : Env) (run : Run) (ops : List Oper) (o : Oper) (s : St) (k : Eff → Option α) : Option α :=
  match o.guard with
  | none => opK G run o s k
  | some _ => (guardTmp ops o).bind fun g => ((s.look g.1).yes g.2).bind fun b => bif b then opK G run o s k else tell .undef k

def dstOk (s : St) (d : Option Nat) : Bool := match d with
  | none => true
  | some d => Nat.blt d s.tmps.length

/-- From here on it is known what an operation's guard says. -/
def refineK (ops : List Oper) (o : Oper) (s : St) (k : St → Option α) : Option α :=
  match guardTmp ops o with
  | none => k s
  | some g => match s.look g.1 with
    | .val .bool w (.bool b) => bif b then k ⟨s.tmps.set g.1 (.val .bool w (.bool true)), s.objs, s.owns⟩ else k ⟨s.tmps.set g.1 (.val .bool w (.bool false)), s.objs, s.owns⟩
    | _ => k s

def opsK (G : Env) (run : Run) (all : List Oper) : List Oper → (St → Option α) → St → Option α
  | [], K, s => K s
  | o :: r, K, s => bif dstOk s o.dst then refineK all o s fun s => stepK G run all o s fun f => opsK G run all r K (f.apply o.dst s) else none

/- regions that draw their order: what each operation touches is noted, and operations between which the order is open must touch nothing in common -/
structure Foot where
  rt : List Nat
  wt : List Nat
  ro : List Nat
  wo : List Nat
  rw : List Nat
  ww : List Nat

def tmpsOf : List Operand → List Nat
  | [] => []
  | .tmp t :: r => t :: tmpsOf r
  | _ :: r => tmpsOf r

def readsOf (ops : List Oper) (o : Oper) : List Nat :=
  (match guardTmp ops o with | some g => [g.1] | none => []) ++ tmpsOf o.op.operands.toList

def footOf (ops : List Oper) (o : Oper) (f : Eff) : Foot :=
  ⟨readsOf ops o, o.dst.toList, f.ro, f.ob.map Prod.fst, f.rw, f.ow.map Prod.fst⟩

def disjN : List Nat → List Nat → Bool
  | [], _ => true
  | a :: r, l => !memN a l && disjN r l

/-- Two operations that may change places. -/
def Foot.apart (a b : Foot) : Bool :=
  disjN a.wt b.rt && disjN a.rt b.wt && disjN a.wt b.wt && disjN a.wo b.ro && disjN a.ro b.wo && disjN a.wo b.wo &&
  disjN a.rw b.ww && disjN a.ww b.rw && disjN a.ww b.ww

def befStep (acc : List (List Nat)) (o : Oper) : List Nat :=
  o.after.toList.foldl (fun l e => bif Region.binds .any e then e.on :: (acc.getD e.on [] ++ l) else l) []
/-- Of each operation: which ones stand ahead of it in every order. -/
def befores : List Oper → List (List Nat) → List (List Nat)
  | [], acc => acc
  | o :: r, acc => befores r (acc ++ [befStep acc o])

/-- No operation waits for a later one. -/
def edgesOk : Nat → List Oper → Bool
  | _, [] => true
  | i, o :: r => o.after.toList.all (fun e => !Region.binds .any e || Nat.blt e.on i) && edgesOk (i + 1) r

def againstAll (f : Foot) (bef : List Nat) : List Foot → Nat → Bool
  | [], _ => true
  | g :: r, i => (memN i bef || g.apart f) && againstAll f bef r (i + 1)

/-- The operations in the order of the text, each held against those ahead of it. -/
def drawnK (G : Env) (run : Run) (all : List Oper) : List Oper → List (List Nat) → List Foot → (St → Option α) → St → Option α
  | [], _, _, K, s => K s
  | o :: r, bs, fs, K, s => bif dstOk s o.dst then refineK all o s fun s => stepK G run all o s fun f =>
      bif againstAll (footOf all o f) (bs.headD []) fs 0 then drawnK G run all r bs.tail (fs ++ [footOf all o f]) K (f.apply o.dst s) else none else none

end

/- what is kept at a loop's head -/
def Ent.fit (s : St) (ko : List Nat) : Ent → Ent
  | .val t _ x => .val t none x
  | .ptr p => bif Nat.beq (s.slot p.id).gen p.gen && memN p.id ko then .ptr p else .any
  | .ref p lo hi => bif Nat.beq (s.slot p.id).gen p.gen && memN p.id ko then .ref p lo hi else .any
  | .clo f caps => bif caps.all (fun p => Nat.beq (s.slot p.id).gen p.gen && memN p.id ko) then .clo f caps else .any
  | e => e

/-- Whose own slice a slot holds, if nobody has been given it yet. -/
def Ent.owned (s : St) (used : List Nat) : Ent → Option (Ty × Nat × AV)
  | .val t (some (g, n)) x => bif Nat.beq (s.own g) n && (Nat.blt g s.owns.length && !memN g used) then some (t, g, x) else none
  | _ => none

def clearT (s : St) (ks ko : List Nat) : List Nat → Nat → List Ent → List Ent
  | _, _, [] => []
  | used, i, e :: r => bif memN i ks then (match e.owned s used with
      | some (t, g, x) => .val t (some (i, 0)) x :: clearT s ks ko (g :: used) (i + 1) r
      | none => e.fit s ko :: clearT s ks ko used (i + 1) r)
    else (bif memN (i + 1000000) ks then e.fit s ko else .any) :: clearT s ks ko used (i + 1) r
def clearO (ko : List Nat) : Nat → List OSlot → List OSlot
  | _, [] => []
  | i, o :: r => (bif memN i ko then o else ⟨0, none⟩) :: clearO ko (i + 1) r

def St.clear (s : St) (ks ko : List Nat) : St := ⟨clearT s ks ko [] 0 s.tmps, clearO ko 0 s.objs, s.owns.map fun _ => 0⟩

section
variable {α : Type}

def seqK (f : St → Option α) (K : Ex → St → Option α) : Ex → St → Option α
  | .normal, s => f s
  | .exit id, s => K (.exit id) s
  | .ret, s => K .ret s
def blockK (id : Nat) (K : Ex → St → Option α) : Ex → St → Option α
  | .normal, s => K .normal s
  | .exit id', s => bif Nat.beq id' id then K .normal s else K (.exit id') s
  | .ret, s => K .ret s

def iterK (step : (Ex → St → Option α) → St → Option α) (ks ko : List Nat) (K : Ex → St → Option α) : Nat → St → Option α
  | 0, _ => none
  | n + 1, s => step (seqK (fun s' => iterK step ks ko K n (s'.clear ks ko)) K) s

def evalK (G : Env) (run : Run) (n : Nat) (keep : List (Nat × (List Nat × List Nat))) : Nat → Code → (Ex → St → Option α) → St → Option α
  | _, .skip, K, s => K .normal s
  | _, .region _ ops draw, K, s => bif draw then (bif edgesOk 0 ops.toList then drawnK G run ops.toList ops.toList (befores ops.toList []) [] (K .normal) s else none) else opsK G run ops.toList ops.toList (K .normal) s
  | b, .seq x y, K, s => evalK G run n keep b x (seqK (evalK G run n keep b y K) K) s
  | b, .cond c x y, K, s => (s.opv .bool c).bind fun a => bif a.toBool then evalK G run n keep b x K s else evalK G run n keep b y K s
  | _, .block id c, K, s => evalK G run n keep id c (blockK id K) s
  | b, .loop c, K, s => (assoc keep b).bind fun ks => iterK (evalK G run n keep b c) ks.1 ks.2 K n (s.clear ks.1 ks.2)
  | _, .exit id, K, s => K (.exit id) s
  | _, .ret, K, s => K .ret s
  | _, _, _, _ => none
end

/-- What a result is: its value, and the variable whose cells it names. -/
def valE (s : St) (np : Nat) (t : Ty) (i : Nat) : Option (AV × List Nat) :=
  match (s.look i).refOf with
  | some (p, (lo, hi)) => (match t, p.t.elem with
    | .slice e, some e' => bif e'.beq e && Nat.ble np p.id then (s.refList p lo hi).map fun l => (AV.slice l, [p.id]) else none
    | _, _ => none)
  | none => (s.opv t (.tmp i)).map fun x => (x, [])

def cellE (G : Env) (s : St) (t : Ty) (i : Nat) (u : TypeId) : Option AV :=
  match s.look i with
  | .ptr p => bif p.t.beq t && (match G.tyOf u with | some U => U.beq t | none => false) then (s.getPt p).map fun x => t.co x else none
  | _ => none

def varE (G : Env) (s : St) (np : Nat) (t : Ty) : ResultVar → Option (AV × List Nat)
  | .tmp i => valE s np t i
  | .cell i u => (cellE G s t i u).map fun x => (x, [])

def varsE (G : Env) (s : St) (np : Nat) : List PTy → List ResultVar → Option (List AV × List Nat)
  | [], [] => some ([], [])
  | .val t :: ts, v :: r => (varE G s np t v).bind fun x => (varsE G s np ts r).map fun l => (x.1 :: l.1, x.2 ++ l.2)
  | _, _ => none

/-- The results; a pointer to a variable of the call's own stands alone. -/
def resE (G : Env) (s : St) (np : Nat) (ts : List PTy) (rs : List ResultVar) : Option (List AV × List Nat) :=
  match ts, rs with
  | [.ptr t], [.tmp i] => (match s.look i with
    | .ptr p => bif p.t.beq t && p.path.isEmpty && Nat.ble np p.id then (s.getPt p).map fun x => ([t.co x], []) else none
    | _ => none)
  | ts, rs => varsE G s np ts rs

def freshE (s : St) : List ResultVar → Bool
  | [.tmp i] => match s.look i with
    | .val _ (some (g, n)) _ => Nat.beq (s.own g) n && Nat.blt g s.owns.length
    | _ => false
  | _ => false

def outsOf (s : St) : Nat → List PTy → Option (List AV)
  | _, [] => some []
  | k, .val _ :: ts => outsOf s (k + 1) ts
  | k, .ptr t :: ts => (s.obAt ⟨t, k, 0, []⟩).bind fun ob => bif ob.t.beq t then (outsOf s (k + 1) ts).map (t.co ob.x :: ·) else none

def retE (G : Env) (i : FnInfo) : Ex → St → Option Res
  | .exit _, _ => none
  | _, s => (resE G s i.params.length i.results i.rvars).bind fun l => (outsOf s 0 i.params).bind fun os => bif !i.fresh || freshE s i.rvars then some ⟨l.1, os, i.fresh⟩ else none

def inT : Nat → List PTy → List AV → List Ent
  | k, .val t :: ts, x :: xs => .val t none (t.co x) :: inT (k + 1) ts xs
  | k, .ptr t :: ts, _ :: xs => .ptr ⟨t, k, 0, []⟩ :: inT (k + 1) ts xs
  | _, _, _ => []
def inO : List PTy → List AV → List OSlot
  | .val _ :: ts, _ :: xs => ⟨0, none⟩ :: inO ts xs
  | .ptr t :: ts, x :: xs => ⟨0, some ⟨t, t.co x⟩⟩ :: inO ts xs
  | _, _ => []

def FnInfo.start (i : FnInfo) (xs : List AV) : St :=
  ⟨inT 0 i.params xs ++ List.replicate (i.ntmps - i.params.length) .any, inO i.params xs ++ List.replicate (i.ntmps - i.params.length) ⟨0, none⟩, List.replicate i.ntmps 0⟩

/-- The function's answer, n rounds deep. -/
def runE (G : Env) (ext : Run) : Nat → Run
  | 0 => ext
  | n + 1 => fun f xs => match assoc G.fns f with
    | none => ext f xs
    | some i => bif i.ext then ext f xs else evalK G (runE G ext n) n i.keep 0 i.body (retE G i) (i.start xs)

end Go.Proofs.Ytcpdiahbdmcdcaa.Ev
