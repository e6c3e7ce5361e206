/- What the evaluator does with the functions, as programs over plain values: printed by gen.py, checked by the kernel. -/

import Derived.Test.YtgfplmaehbhapaaEvZA

import Derived.Test.YtgfplmaehbhapaaProg

import Derived.KernelRfl

namespace Go.Proofs.Ytgfplmaehbhapaa.Ev

open Go Go.RowKit

set_option maxRecDepth 100000



noncomputable def bodyOf (f : Func) : Code := f.body.getD .skip

def sub : List Nat → Code → Code
  | [], c => c
  | i :: r, .seq x y => sub r (bif Nat.beq i 0 then x else y)
  | i :: r, .cond _ x y => sub r (bif Nat.beq i 0 then x else y)
  | _ :: r, .block _ c => sub r c
  | _ :: r, .loop c => sub r c
  | _, c => c

theorem runE_succ {G : Env} {ext : Run} {n : Nat} {f : FuncId} {i : FnInfo} {xs : List AV} (h : assoc G.fns f = some i) (hx : i.ext = false) : runE G ext (n + 1) f xs = evalK G (runE G ext n) n i.keep 0 i.body (retE G i) (i.start xs) := by
  simp only [runE, h, hx, cond_false]

/- milepost/near.Near -/
noncomputable def f24_body : Code := bodyOf Try.f24
def f24_fresh : Bool := false
def f24_t0 : List Nat := [0, 2, 7]
def f24_o0 : List Nat := []
def f24_keep : List (Nat × (List Nat × List Nat)) := [(0, (f24_t0, f24_o0))]
noncomputable def f24_info : FnInfo := ⟨[.val (.slice (.int .i64)), .val (.int .i64), .val (.int .i64)], [.val (.int .i64)], 24, [.tmp 6], f24_body, f24_keep, f24_fresh, false⟩

/- milepost/near.All -/
noncomputable def f20_body : Code := bodyOf Try.f20
def f20_fresh : Bool := true
def f20_t0 : List Nat := [0, 1, 5, 17]
def f20_o0 : List Nat := []
def f20_keep : List (Nat × (List Nat × List Nat)) := [(0, (f20_t0, f20_o0))]
noncomputable def f20_info : FnInfo := ⟨[.val (.slice (.int .i64)), .val (.int .i64)], [.val (.slice (.int .i64))], 34, [.tmp 4], f20_body, f20_keep, f20_fresh, false⟩

/- milepost/milepostref22.Same -/
noncomputable def f19_body : Code := bodyOf Try.f19
def f19_fresh : Bool := false
def f19_t0 : List Nat := [0, 1, 5]
def f19_o0 : List Nat := []
def f19_keep : List (Nat × (List Nat × List Nat)) := [(0, (f19_t0, f19_o0))]
noncomputable def f19_info : FnInfo := ⟨[.val (.slice (.int .i64)), .val (.slice (.int .i64))], [.val .bool], 26, [.tmp 4], f19_body, f19_keep, f19_fresh, false⟩

/- milepost/milepostlaw26.awake -/
noncomputable def f22_body : Code := bodyOf Try.f22
def f22_fresh : Bool := false
def f22_keep : List (Nat × (List Nat × List Nat)) := []
noncomputable def f22_info : FnInfo := ⟨[], [.val .bool], 5, [.tmp 0], f22_body, f22_keep, f22_fresh, false⟩

/- milepost/milepostref22.Near -/
noncomputable def f25_body : Code := bodyOf Try.f25
def f25_fresh : Bool := false
def f25_t0 : List Nat := [0, 1, 2, 7, 8]
def f25_o0 : List Nat := []
def f25_keep : List (Nat × (List Nat × List Nat)) := [(0, (f25_t0, f25_o0))]
noncomputable def f25_info : FnInfo := ⟨[.val (.slice (.int .i64)), .val (.int .i64), .val (.int .i64)], [.val (.int .i64)], 28, [.tmp 6], f25_body, f25_keep, f25_fresh, false⟩

/- milepost/milepostref22.All -/
noncomputable def f21_body : Code := bodyOf Try.f21
def f21_fresh : Bool := true
def f21_t0 : List Nat := [0, 1, 5, 6]
def f21_o0 : List Nat := []
def f21_keep : List (Nat × (List Nat × List Nat)) := [(0, (f21_t0, f21_o0))]
noncomputable def f21_info : FnInfo := ⟨[.val (.slice (.int .i64)), .val (.int .i64)], [.val (.slice (.int .i64))], 35, [.tmp 4], f21_body, f21_keep, f21_fresh, false⟩

/- milepost/milepostlaw26.NearAll -/
noncomputable def f8_body : Code := bodyOf Try.f8
def f8_fresh : Bool := false
def f8_keep : List (Nat × (List Nat × List Nat)) := []
noncomputable def f8_info : FnInfo := ⟨[.val (.slice (.int .i64)), .val (.int .i64)], [.val .bool], 20, [.tmp 4], f8_body, f8_keep, f8_fresh, false⟩

noncomputable def G : Env := {
  ty := [(3, (.int .i64)), (4, .bool), (42, (.slice (.int .i64)))]
  bytes := [(42, 8)]
  fns := [(24, f24_info), (20, f20_info), (19, f19_info), (22, f22_info), (25, f25_info), (21, f21_info), (8, f8_info)] }

noncomputable def f24_l0 (run : Run) (n : Nat) (k0 : Nat) (x0_1 : List AV) (x2_1 : Int) (x7_1 : Int) : Option Res :=
  iterK (evalK G run n f24_keep 0 (sub [1, 0, 1, 0, 0] f24_body)) f24_t0 f24_o0 (blockK 0 (seqK (evalK G run n f24_keep 0 (sub [1, 1] f24_body) (retE G f24_info)) (retE G f24_info))) k0
    ⟨[.val (.slice (.int .i64)) none (.slice x0_1), .any, .val (.int .i64) none (.int x2_1), .any, .any, .any, .any, .val (.int .i64) none (.int x7_1), .any, .any, .any, .any, .any, .any, .any, .any, .any, .any, .any, .any, .any, .any, .any, .any], [⟨0, none⟩, ⟨0, none⟩, ⟨0, none⟩, ⟨0, none⟩, ⟨0, none⟩, ⟨0, none⟩, ⟨0, none⟩, ⟨0, none⟩, ⟨0, none⟩, ⟨0, none⟩, ⟨0, none⟩, ⟨0, none⟩, ⟨0, none⟩, ⟨0, none⟩, ⟨0, none⟩, ⟨0, none⟩, ⟨0, none⟩, ⟨0, none⟩, ⟨0, none⟩, ⟨0, none⟩, ⟨0, none⟩, ⟨0, none⟩, ⟨0, none⟩, ⟨0, none⟩], List.replicate 24 0⟩
theorem f24_l0_eq (run : Run) (n : Nat) (k0 : Nat) (x0_1 : List AV) (x2_1 : Int) (x7_1 : Int) : f24_l0 run n (k0 + 1) x0_1 x2_1 x7_1 =
  bif leI 0 x7_1 then
    bif inR x7_1 x0_1.length then
    bif leI x2_1 ((nth x0_1 (Int.toNat x7_1)).toInt) then
    some ⟨[.int x7_1], [], f24_fresh⟩
  else
    f24_l0 run n k0 x0_1 x2_1 (IntKind.wrap .i64 (x7_1 - 1))
  else none
  else
    some ⟨[.int (-1)], [], f24_fresh⟩ := by kernel_rfl
noncomputable def f24 (run : Run) (n : Nat) (a0_1 : List AV) (a1_1 : Int) (a2_1 : Int) : Option Res := evalK G run n f24_info.keep 0 f24_info.body (retE G f24_info) (f24_info.start [.slice a0_1, .int a1_1, .int a2_1])
theorem f24_eq (run : Run) (n : Nat) (a0_1 : List AV) (a1_1 : Int) (a2_1 : Int) : f24 run n a0_1 a1_1 a2_1 =
  f24_l0 run n n a0_1 a2_1 (IntKind.wrap .i64 (mn2 a1_1 (a0_1.length : Int) - 1)) := by kernel_rfl
theorem f24_at : assoc G.fns 24 = some f24_info := by kernel_rfl
theorem f24_in : f24_info.ext = false := rfl
theorem f24_run (ext : Run) (n : Nat) (a0_1 : List AV) (a1_1 : Int) (a2_1 : Int) : runE G ext (n + 1) 24 [.slice a0_1, .int a1_1, .int a2_1] = f24 (runE G ext n) n a0_1 a1_1 a2_1 := runE_succ f24_at f24_in

noncomputable def f20_l0 (run : Run) (n : Nat) (k0 : Nat) (x0_1 : List AV) (x1_1 : Int) (x5_1 : List AV) (x17_1 : Int) : Option Res :=
  iterK (evalK G run n f20_keep 0 (sub [1, 1, 1, 0, 1, 0, 0] f20_body)) f20_t0 f20_o0 (blockK 0 (seqK (evalK G run n f20_keep 0 (sub [1, 1, 1, 1] f20_body) (retE G f20_info)) (retE G f20_info))) k0
    ⟨[.val (.slice (.int .i64)) none (.slice x0_1), .val (.int .i64) none (.int x1_1), .any, .any, .any, .val (.slice (.int .i64)) (some (5, 0)) (.slice x5_1), .any, .any, .any, .any, .any, .any, .any, .any, .any, .any, .any, .val (.int .i64) none (.int x17_1), .any, .any, .any, .any, .any, .any, .any, .any, .any, .any, .any, .any, .any, .any, .any, .any], [⟨0, none⟩, ⟨0, none⟩, ⟨0, none⟩, ⟨0, none⟩, ⟨0, none⟩, ⟨0, none⟩, ⟨0, none⟩, ⟨0, none⟩, ⟨0, none⟩, ⟨0, none⟩, ⟨0, none⟩, ⟨0, none⟩, ⟨0, none⟩, ⟨0, none⟩, ⟨0, none⟩, ⟨0, none⟩, ⟨0, none⟩, ⟨0, none⟩, ⟨0, none⟩, ⟨0, none⟩, ⟨0, none⟩, ⟨0, none⟩, ⟨0, none⟩, ⟨0, none⟩, ⟨0, none⟩, ⟨0, none⟩, ⟨0, none⟩, ⟨0, none⟩, ⟨0, none⟩, ⟨0, none⟩, ⟨0, none⟩, ⟨0, none⟩, ⟨0, none⟩, ⟨0, none⟩], List.replicate 34 0⟩
theorem f20_l0_eq (run : Run) (n : Nat) (k0 : Nat) (x0_1 : List AV) (x1_1 : Int) (x5_1 : List AV) (x17_1 : Int) : f20_l0 run n (k0 + 1) x0_1 x1_1 x5_1 x17_1 =
  bif ltI x17_1 257 then
    (run 24 [.slice x0_1, .int x1_1, .int x17_1]).bind fun r1 =>
    nilV r1.outs (consV r1.vals fun v1 vs1 =>
    nilV vs1 (bif ltI v1.toInt 0 then
    some ⟨[.slice x5_1], [], f20_fresh⟩
  else
    bif Nat.ble ((x5_1.length + 1) * 8) 140737488355328 then
    bif eqI v1.toInt 0 then
    some ⟨[.slice (x5_1 ++ [.int v1.toInt])], [], f20_fresh⟩
  else
    f20_l0 run n k0 x0_1 x1_1 (x5_1 ++ [.int v1.toInt]) (IntKind.wrap .i64 (x17_1 + 1))
  else none))
  else
    some ⟨[.slice x5_1], [], f20_fresh⟩ := by kernel_rfl
noncomputable def f20 (run : Run) (n : Nat) (a0_1 : List AV) (a1_1 : Int) : Option Res := evalK G run n f20_info.keep 0 f20_info.body (retE G f20_info) (f20_info.start [.slice a0_1, .int a1_1])
theorem f20_eq (run : Run) (n : Nat) (a0_1 : List AV) (a1_1 : Int) : f20 run n a0_1 a1_1 =
  bif ltI a1_1 1 then
    some ⟨[.slice []], [], f20_fresh⟩
  else
    bif ltI (a0_1.length : Int) a1_1 then
    some ⟨[.slice []], [], f20_fresh⟩
  else
    f20_l0 run n n a0_1 a1_1 [] 0 := by kernel_rfl
theorem f20_at : assoc G.fns 20 = some f20_info := by kernel_rfl
theorem f20_in : f20_info.ext = false := rfl
theorem f20_run (ext : Run) (n : Nat) (a0_1 : List AV) (a1_1 : Int) : runE G ext (n + 1) 20 [.slice a0_1, .int a1_1] = f20 (runE G ext n) n a0_1 a1_1 := runE_succ f20_at f20_in

noncomputable def f19_l0 (run : Run) (n : Nat) (k0 : Nat) (x0_1 : List AV) (x1_1 : List AV) (x5_1 : Int) : Option Res :=
  iterK (evalK G run n f19_keep 0 (sub [1, 1, 0, 1, 0, 0] f19_body)) f19_t0 f19_o0 (blockK 0 (seqK (evalK G run n f19_keep 0 (sub [1, 1, 1] f19_body) (retE G f19_info)) (retE G f19_info))) k0
    ⟨[.val (.slice (.int .i64)) none (.slice x0_1), .val (.slice (.int .i64)) none (.slice x1_1), .any, .any, .any, .val (.int .i64) none (.int x5_1), .any, .any, .any, .any, .any, .any, .any, .any, .any, .any, .any, .any, .any, .any, .any, .any, .any, .any, .any, .any], [⟨0, none⟩, ⟨0, none⟩, ⟨0, none⟩, ⟨0, none⟩, ⟨0, none⟩, ⟨0, none⟩, ⟨0, none⟩, ⟨0, none⟩, ⟨0, none⟩, ⟨0, none⟩, ⟨0, none⟩, ⟨0, none⟩, ⟨0, none⟩, ⟨0, none⟩, ⟨0, none⟩, ⟨0, none⟩, ⟨0, none⟩, ⟨0, none⟩, ⟨0, none⟩, ⟨0, none⟩, ⟨0, none⟩, ⟨0, none⟩, ⟨0, none⟩, ⟨0, none⟩, ⟨0, none⟩, ⟨0, none⟩], List.replicate 26 0⟩
theorem f19_l0_eq (run : Run) (n : Nat) (k0 : Nat) (x0_1 : List AV) (x1_1 : List AV) (x5_1 : Int) : f19_l0 run n (k0 + 1) x0_1 x1_1 x5_1 =
  bif ltI x5_1 (x0_1.length : Int) then
    bif inR x5_1 x0_1.length then
    bif inR x5_1 x1_1.length then
    bif !(eqI ((nth x0_1 (Int.toNat x5_1)).toInt) ((nth x1_1 (Int.toNat x5_1)).toInt)) then
    some ⟨[.bool false], [], f19_fresh⟩
  else
    f19_l0 run n k0 x0_1 x1_1 (IntKind.wrap .i64 (x5_1 + 1))
  else none
  else none
  else
    some ⟨[.bool true], [], f19_fresh⟩ := by kernel_rfl
noncomputable def f19 (run : Run) (n : Nat) (a0_1 : List AV) (a1_1 : List AV) : Option Res := evalK G run n f19_info.keep 0 f19_info.body (retE G f19_info) (f19_info.start [.slice a0_1, .slice a1_1])
theorem f19_eq (run : Run) (n : Nat) (a0_1 : List AV) (a1_1 : List AV) : f19 run n a0_1 a1_1 =
  bif !(eqI (a0_1.length : Int) (a1_1.length : Int)) then
    some ⟨[.bool false], [], f19_fresh⟩
  else
    f19_l0 run n n a0_1 a1_1 0 := by kernel_rfl
theorem f19_at : assoc G.fns 19 = some f19_info := by kernel_rfl
theorem f19_in : f19_info.ext = false := rfl
theorem f19_run (ext : Run) (n : Nat) (a0_1 : List AV) (a1_1 : List AV) : runE G ext (n + 1) 19 [.slice a0_1, .slice a1_1] = f19 (runE G ext n) n a0_1 a1_1 := runE_succ f19_at f19_in

noncomputable def f22 (run : Run) (n : Nat) : Option Res := evalK G run n f22_info.keep 0 f22_info.body (retE G f22_info) (f22_info.start [])
theorem f22_eq (run : Run) (n : Nat) : f22 run n  =
  (run 20 [.slice [.int 256, .int 0, .int 2, .int 0], .int 4]).bind fun r1 =>
    bif r1.fresh then
    nilV r1.outs (consV r1.vals fun v1 vs1 =>
    nilV vs1 ((run 19 [.slice v1.toSlice, .slice [.int 3, .int 2, .int 2, .int 0]]).bind fun r2 =>
    nilV r2.outs (consV r2.vals fun v2 vs2 =>
    nilV vs2 (some ⟨[.bool v2.toBool], [], f22_fresh⟩))))
  else none := by kernel_rfl
theorem f22_at : assoc G.fns 22 = some f22_info := by kernel_rfl
theorem f22_in : f22_info.ext = false := rfl
theorem f22_run (ext : Run) (n : Nat) : runE G ext (n + 1) 22 [] = f22 (runE G ext n) n  := runE_succ f22_at f22_in

noncomputable def f25_l0 (run : Run) (n : Nat) (k0 : Nat) (x0_1 : List AV) (x1_1 : Int) (x2_1 : Int) (x7_1 : Int) (x8_1 : Int) : Option Res :=
  iterK (evalK G run n f25_keep 0 (sub [1, 1, 0, 1, 0, 0] f25_body)) f25_t0 f25_o0 (blockK 0 (seqK (evalK G run n f25_keep 0 (sub [1, 1, 1] f25_body) (retE G f25_info)) (retE G f25_info))) k0
    ⟨[.val (.slice (.int .i64)) none (.slice x0_1), .val (.int .i64) none (.int x1_1), .val (.int .i64) none (.int x2_1), .any, .any, .any, .any, .val (.int .i64) none (.int x7_1), .val (.int .i64) none (.int x8_1), .any, .any, .any, .any, .any, .any, .any, .any, .any, .any, .any, .any, .any, .any, .any, .any, .any, .any, .any], [⟨0, none⟩, ⟨0, none⟩, ⟨0, none⟩, ⟨0, none⟩, ⟨0, none⟩, ⟨0, none⟩, ⟨0, none⟩, ⟨0, none⟩, ⟨0, none⟩, ⟨0, none⟩, ⟨0, none⟩, ⟨0, none⟩, ⟨0, none⟩, ⟨0, none⟩, ⟨0, none⟩, ⟨0, none⟩, ⟨0, none⟩, ⟨0, none⟩, ⟨0, none⟩, ⟨0, none⟩, ⟨0, none⟩, ⟨0, none⟩, ⟨0, none⟩, ⟨0, none⟩, ⟨0, none⟩, ⟨0, none⟩, ⟨0, none⟩, ⟨0, none⟩], List.replicate 28 0⟩
theorem f25_l0_eq (run : Run) (n : Nat) (k0 : Nat) (x0_1 : List AV) (x1_1 : Int) (x2_1 : Int) (x7_1 : Int) (x8_1 : Int) : f25_l0 run n (k0 + 1) x0_1 x1_1 x2_1 x7_1 x8_1 =
  bif ltI x8_1 (x0_1.length : Int) then
    bif ltI x8_1 x1_1 then
    bif inR x8_1 x0_1.length then
    bif leI x2_1 ((nth x0_1 (Int.toNat x8_1)).toInt) then
    f25_l0 run n k0 x0_1 x1_1 x2_1 x8_1 (IntKind.wrap .i64 (x8_1 + 1))
  else
    f25_l0 run n k0 x0_1 x1_1 x2_1 x7_1 (IntKind.wrap .i64 (x8_1 + 1))
  else none
  else
    some ⟨[.int x7_1], [], f25_fresh⟩
  else
    some ⟨[.int x7_1], [], f25_fresh⟩ := by kernel_rfl
noncomputable def f25 (run : Run) (n : Nat) (a0_1 : List AV) (a1_1 : Int) (a2_1 : Int) : Option Res := evalK G run n f25_info.keep 0 f25_info.body (retE G f25_info) (f25_info.start [.slice a0_1, .int a1_1, .int a2_1])
theorem f25_eq (run : Run) (n : Nat) (a0_1 : List AV) (a1_1 : Int) (a2_1 : Int) : f25 run n a0_1 a1_1 a2_1 =
  f25_l0 run n n a0_1 a1_1 a2_1 (-1) 0 := by kernel_rfl
theorem f25_at : assoc G.fns 25 = some f25_info := by kernel_rfl
theorem f25_in : f25_info.ext = false := rfl
theorem f25_run (ext : Run) (n : Nat) (a0_1 : List AV) (a1_1 : Int) (a2_1 : Int) : runE G ext (n + 1) 25 [.slice a0_1, .int a1_1, .int a2_1] = f25 (runE G ext n) n a0_1 a1_1 a2_1 := runE_succ f25_at f25_in

noncomputable def f21_l0 (run : Run) (n : Nat) (k0 : Nat) (x0_1 : List AV) (x1_1 : Int) (x5_1 : List AV) (x6_1 : Int) : Option Res :=
  iterK (evalK G run n f21_keep 0 (sub [1, 1, 1, 0, 1, 0, 0] f21_body)) f21_t0 f21_o0 (blockK 0 (seqK (evalK G run n f21_keep 0 (sub [1, 1, 1, 1] f21_body) (retE G f21_info)) (retE G f21_info))) k0
    ⟨[.val (.slice (.int .i64)) none (.slice x0_1), .val (.int .i64) none (.int x1_1), .any, .any, .any, .val (.slice (.int .i64)) (some (5, 0)) (.slice x5_1), .val (.int .i64) none (.int x6_1), .any, .any, .any, .any, .any, .any, .any, .any, .any, .any, .any, .any, .any, .any, .any, .any, .any, .any, .any, .any, .any, .any, .any, .any, .any, .any, .any, .any], [⟨0, none⟩, ⟨0, none⟩, ⟨0, none⟩, ⟨0, none⟩, ⟨0, none⟩, ⟨0, none⟩, ⟨0, none⟩, ⟨0, none⟩, ⟨0, none⟩, ⟨0, none⟩, ⟨0, none⟩, ⟨0, none⟩, ⟨0, none⟩, ⟨0, none⟩, ⟨0, none⟩, ⟨0, none⟩, ⟨0, none⟩, ⟨0, none⟩, ⟨0, none⟩, ⟨0, none⟩, ⟨0, none⟩, ⟨0, none⟩, ⟨0, none⟩, ⟨0, none⟩, ⟨0, none⟩, ⟨0, none⟩, ⟨0, none⟩, ⟨0, none⟩, ⟨0, none⟩, ⟨0, none⟩, ⟨0, none⟩, ⟨0, none⟩, ⟨0, none⟩, ⟨0, none⟩, ⟨0, none⟩], List.replicate 35 0⟩
theorem f21_l0_eq (run : Run) (n : Nat) (k0 : Nat) (x0_1 : List AV) (x1_1 : Int) (x5_1 : List AV) (x6_1 : Int) : f21_l0 run n (k0 + 1) x0_1 x1_1 x5_1 x6_1 =
  bif ltI x6_1 257 then
    (run 25 [.slice x0_1, .int x1_1, .int x6_1]).bind fun r1 =>
    nilV r1.outs (consV r1.vals fun v1 vs1 =>
    nilV vs1 (bif ltI v1.toInt 0 then
    some ⟨[.slice x5_1], [], f21_fresh⟩
  else
    bif Nat.ble ((x5_1.length + 1) * 8) 140737488355328 then
    bif eqI v1.toInt 0 then
    some ⟨[.slice (x5_1 ++ [.int v1.toInt])], [], f21_fresh⟩
  else
    f21_l0 run n k0 x0_1 x1_1 (x5_1 ++ [.int v1.toInt]) (IntKind.wrap .i64 (x6_1 + 1))
  else none))
  else
    some ⟨[.slice x5_1], [], f21_fresh⟩ := by kernel_rfl
noncomputable def f21 (run : Run) (n : Nat) (a0_1 : List AV) (a1_1 : Int) : Option Res := evalK G run n f21_info.keep 0 f21_info.body (retE G f21_info) (f21_info.start [.slice a0_1, .int a1_1])
theorem f21_eq (run : Run) (n : Nat) (a0_1 : List AV) (a1_1 : Int) : f21 run n a0_1 a1_1 =
  bif ltI a1_1 1 then
    some ⟨[.slice []], [], f21_fresh⟩
  else
    bif ltI (a0_1.length : Int) a1_1 then
    some ⟨[.slice []], [], f21_fresh⟩
  else
    f21_l0 run n n a0_1 a1_1 [] 0 := by kernel_rfl
theorem f21_at : assoc G.fns 21 = some f21_info := by kernel_rfl
theorem f21_in : f21_info.ext = false := rfl
theorem f21_run (ext : Run) (n : Nat) (a0_1 : List AV) (a1_1 : Int) : runE G ext (n + 1) 21 [.slice a0_1, .int a1_1] = f21 (runE G ext n) n a0_1 a1_1 := runE_succ f21_at f21_in

noncomputable def f8 (run : Run) (n : Nat) (a0_1 : List AV) (a1_1 : Int) : Option Res := evalK G run n f8_info.keep 0 f8_info.body (retE G f8_info) (f8_info.start [.slice a0_1, .int a1_1])
theorem f8_eq (run : Run) (n : Nat) (a0_1 : List AV) (a1_1 : Int) : f8 run n a0_1 a1_1 =
  bif ltI 200 (a0_1.length : Int) then
    (run 22 []).bind fun r1 =>
    nilV r1.outs (consV r1.vals fun v1 vs1 =>
    nilV vs1 (some ⟨[.bool v1.toBool], [], f8_fresh⟩))
  else
    (run 20 [.slice a0_1, .int a1_1]).bind fun r2 =>
    bif r2.fresh then
    nilV r2.outs (consV r2.vals fun v2 vs2 =>
    nilV vs2 ((run 21 [.slice a0_1, .int a1_1]).bind fun r3 =>
    bif r3.fresh then
    nilV r3.outs (consV r3.vals fun v3 vs3 =>
    nilV vs3 ((run 19 [.slice v2.toSlice, .slice v3.toSlice]).bind fun r4 =>
    nilV r4.outs (consV r4.vals fun v4 vs4 =>
    nilV vs4 (bif v4.toBool then
    (run 22 []).bind fun r5 =>
    nilV r5.outs (consV r5.vals fun v5 vs5 =>
    nilV vs5 (some ⟨[.bool v5.toBool], [], f8_fresh⟩))
  else
    some ⟨[.bool false], [], f8_fresh⟩))))
  else none))
  else none := by kernel_rfl
theorem f8_at : assoc G.fns 8 = some f8_info := by kernel_rfl
theorem f8_in : f8_info.ext = false := rfl
theorem f8_run (ext : Run) (n : Nat) (a0_1 : List AV) (a1_1 : Int) : runE G ext (n + 1) 8 [.slice a0_1, .int a1_1] = f8 (runE G ext n) n a0_1 a1_1 := runE_succ f8_at f8_in

theorem f24_ok : FnOk Try.prog 24 f24_info Try.f24 where
  at_ := Try.func24
  body := by kernel_rfl
  results := by kernel_rfl
  ntmps := by kernel_rfl
  params := Nat.le_of_ble_eq_true (by kernel_rfl)
  name := by kernel_rfl

theorem f20_ok : FnOk Try.prog 20 f20_info Try.f20 where
  at_ := Try.func20
  body := by kernel_rfl
  results := by kernel_rfl
  ntmps := by kernel_rfl
  params := Nat.le_of_ble_eq_true (by kernel_rfl)
  name := by kernel_rfl

theorem f19_ok : FnOk Try.prog 19 f19_info Try.f19 where
  at_ := Try.func19
  body := by kernel_rfl
  results := by kernel_rfl
  ntmps := by kernel_rfl
  params := Nat.le_of_ble_eq_true (by kernel_rfl)
  name := by kernel_rfl

theorem f22_ok : FnOk Try.prog 22 f22_info Try.f22 where
  at_ := Try.func22
  body := by kernel_rfl
  results := by kernel_rfl
  ntmps := by kernel_rfl
  params := Nat.le_of_ble_eq_true (by kernel_rfl)
  name := by kernel_rfl

theorem f25_ok : FnOk Try.prog 25 f25_info Try.f25 where
  at_ := Try.func25
  body := by kernel_rfl
  results := by kernel_rfl
  ntmps := by kernel_rfl
  params := Nat.le_of_ble_eq_true (by kernel_rfl)
  name := by kernel_rfl

theorem f21_ok : FnOk Try.prog 21 f21_info Try.f21 where
  at_ := Try.func21
  body := by kernel_rfl
  results := by kernel_rfl
  ntmps := by kernel_rfl
  params := Nat.le_of_ble_eq_true (by kernel_rfl)
  name := by kernel_rfl

theorem f8_ok : FnOk Try.prog 8 f8_info Try.f8 where
  at_ := Try.func8
  body := by kernel_rfl
  results := by kernel_rfl
  ntmps := by kernel_rfl
  params := Nat.le_of_ble_eq_true (by kernel_rfl)
  name := by kernel_rfl

theorem types_ok : TyAll Try.prog G := tyAll_of (by kernel_rfl) (by kernel_rfl) (by kernel_rfl)

theorem fns_ok : FnsAll Try.prog G.fns := ⟨⟨_, f24_ok⟩, ⟨⟨_, f20_ok⟩, ⟨⟨_, f19_ok⟩, ⟨⟨_, f22_ok⟩, ⟨⟨_, f25_ok⟩, ⟨⟨_, f21_ok⟩, ⟨⟨_, f8_ok⟩, trivial⟩⟩⟩⟩⟩⟩⟩

end Go.Proofs.Ytgfplmaehbhapaa.Ev

