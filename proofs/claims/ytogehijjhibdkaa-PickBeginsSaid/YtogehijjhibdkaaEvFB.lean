/- What the evaluator does with the functions, as programs over plain values: printed by gen.py, checked by the kernel. -/
import Derived.Test.YtogehijjhibdkaaEvFA
namespace Go.Proofs.Ytogehijjhibdkaa.Ev
open Go Go.RowKit
set_option maxRecDepth 100000


noncomputable def f5_l0 (run : Run) (n : Nat) (k0 : Nat) (x0_1 : List AV) (x3_1 : Int) : Option Res :=
  iterK (evalK G run n f5_keep 0 (sub [1, 0, 1, 0, 0] f5_body)) f5_t0 f5_o0 (blockK 0 (seqK (evalK G run n f5_keep 0 (sub [1, 1] f5_body) (retE G f5_info)) (retE G f5_info))) k0
    ⟨[.val (.slice (.int .i64)) none (.slice x0_1), .any, .any, .val (.int .i64) none (.int x3_1), .any, .any, .any, .any, .any, .any, .any, .any, .any, .any, .any, .any, .any, .any, .any, .any, .any, .any], [⟨0, none⟩, ⟨0, none⟩, ⟨0, none⟩, ⟨0, none⟩, ⟨0, none⟩, ⟨0, none⟩, ⟨0, none⟩, ⟨0, none⟩, ⟨0, none⟩, ⟨0, none⟩, ⟨0, none⟩, ⟨0, none⟩, ⟨0, none⟩, ⟨0, none⟩, ⟨0, none⟩, ⟨0, none⟩, ⟨0, none⟩, ⟨0, none⟩, ⟨0, none⟩, ⟨0, none⟩, ⟨0, none⟩, ⟨0, none⟩], List.replicate 22 0⟩
theorem f5_l0_eq (run : Run) (n : Nat) (k0 : Nat) (x0_1 : List AV) (x3_1 : Int) : f5_l0 run n (k0 + 1) x0_1 x3_1 =
  bif ltI x3_1 (x0_1.length : Int) then
    bif ltI x3_1 40 then
    bif inR x3_1 x0_1.length then
    bif ltI 6 ((nth x0_1 (Int.toNat x3_1)).toInt) then
    some ⟨[.bool false], [], f5_fresh⟩
  else
    f5_l0 run n k0 x0_1 (IntKind.wrap .i64 (x3_1 + 1))
  else none
  else
    some ⟨[.bool (leI (x0_1.length : Int) 24)], [], f5_fresh⟩
  else
    some ⟨[.bool (leI (x0_1.length : Int) 24)], [], f5_fresh⟩ := by kernel_rfl
noncomputable def f5 (run : Run) (n : Nat) (a0_1 : List AV) : Option Res := evalK G run n f5_info.keep 0 f5_info.body (retE G f5_info) (f5_info.start [.slice a0_1])
theorem f5_eq (run : Run) (n : Nat) (a0_1 : List AV) : f5 run n a0_1 =
  f5_l0 run n n a0_1 1 := by kernel_rfl
theorem f5_run (ext : Run) (n : Nat) (a0_1 : List AV) : runE G ext (n + 1) 5 [.slice a0_1] = f5 (runE G ext n) n a0_1 := runE_succ f5_at f5_in

noncomputable def f17 (run : Run) (n : Nat) (a0_1 : Int) (a1_1 : Int) : Option Res := evalK G run n f17_info.keep 0 f17_info.body (retE G f17_info) (f17_info.start [.int a0_1, .int a1_1])
theorem f17_eq (run : Run) (n : Nat) (a0_1 : Int) (a1_1 : Int) : f17 run n a0_1 a1_1 =
  bif ltI 0 a0_1 then
    bif ltI a0_1 a1_1 then
    some ⟨[.bool (leI a1_1 65536)], [], f17_fresh⟩
  else
    some ⟨[.bool false], [], f17_fresh⟩
  else
    some ⟨[.bool false], [], f17_fresh⟩ := by kernel_rfl
theorem f17_run (ext : Run) (n : Nat) (a0_1 : Int) (a1_1 : Int) : runE G ext (n + 1) 17 [.int a0_1, .int a1_1] = f17 (runE G ext n) n a0_1 a1_1 := runE_succ f17_at f17_in

noncomputable def f10 (run : Run) (n : Nat) (a0_1 : Int) (a1_1 : Int) (a2_1 : Int) (a3_1 : Int) : Option Res := evalK G run n f10_info.keep 0 f10_info.body (retE G f10_info) (f10_info.start [.int a0_1, .int a1_1, .int a2_1, .int a3_1])
theorem f10_eq (run : Run) (n : Nat) (a0_1 : Int) (a1_1 : Int) (a2_1 : Int) (a3_1 : Int) : f10 run n a0_1 a1_1 a2_1 a3_1 =
  bif leI 1 a0_1 then
    bif leI a0_1 1024 then
    bif leI 1 a1_1 then
    bif leI a1_1 1024 then
    (run 17 [.int a2_1, .int a3_1]).bind fun r1 =>
    nilV r1.outs (consV r1.vals fun v1 vs1 =>
    nilV vs1 (some ⟨[.bool v1.toBool], [], f10_fresh⟩))
  else
    some ⟨[.bool false], [], f10_fresh⟩
  else
    some ⟨[.bool false], [], f10_fresh⟩
  else
    some ⟨[.bool false], [], f10_fresh⟩
  else
    some ⟨[.bool false], [], f10_fresh⟩ := by kernel_rfl
theorem f10_run (ext : Run) (n : Nat) (a0_1 : Int) (a1_1 : Int) (a2_1 : Int) (a3_1 : Int) : runE G ext (n + 1) 10 [.int a0_1, .int a1_1, .int a2_1, .int a3_1] = f10 (runE G ext n) n a0_1 a1_1 a2_1 a3_1 := runE_succ f10_at f10_in

noncomputable def f14_l0 (run : Run) (n : Nat) (k0 : Nat) (x3_1 : Int) (x6_1 : List AV) (x7_1 : Int) (x8_1 : Int) : Option Res :=
  iterK (evalK G run n f14_keep 0 (sub [1, 1, 0, 1, 0, 0] f14_body)) f14_t0 f14_o0 (blockK 0 (seqK (evalK G run n f14_keep 0 (sub [1, 1, 1] f14_body) (retE G f14_info)) (retE G f14_info))) k0
    ⟨[.any, .any, .any, .val (.int .i64) none (.int x3_1), .any, .any, .val (.slice (.int .i64)) none (.slice x6_1), .val (.int .i64) none (.int x7_1), .val (.int .i64) none (.int x8_1), .any, .any, .any, .any, .any, .any, .any, .any, .any, .any, .any, .any], [⟨0, none⟩, ⟨0, none⟩, ⟨0, none⟩, ⟨0, none⟩, ⟨0, none⟩, ⟨0, none⟩, ⟨0, none⟩, ⟨0, none⟩, ⟨0, none⟩, ⟨0, none⟩, ⟨0, none⟩, ⟨0, none⟩, ⟨0, none⟩, ⟨0, none⟩, ⟨0, none⟩, ⟨0, none⟩, ⟨0, none⟩, ⟨0, none⟩, ⟨0, none⟩, ⟨0, none⟩, ⟨0, none⟩], List.replicate 21 0⟩
theorem f14_l0_eq (run : Run) (n : Nat) (k0 : Nat) (x3_1 : Int) (x6_1 : List AV) (x7_1 : Int) (x8_1 : Int) : f14_l0 run n (k0 + 1) x3_1 x6_1 x7_1 x8_1 =
  bif ltI x8_1 x7_1 then
    bif inR x8_1 x6_1.length then
    bif ltI 0 x8_1 then
    f14_l0 run n k0 (mx2 x3_1 ((nth x6_1 (Int.toNat x8_1)).toInt)) x6_1 x7_1 (IntKind.wrap .i64 (x8_1 + 1))
  else
    f14_l0 run n k0 x3_1 x6_1 x7_1 (IntKind.wrap .i64 (x8_1 + 1))
  else none
  else
    some ⟨[.int (mn2 x3_1 255)], [], f14_fresh⟩ := by kernel_rfl
noncomputable def f14 (run : Run) (n : Nat) (a0_1 : List AV) : Option Res := evalK G run n f14_info.keep 0 f14_info.body (retE G f14_info) (f14_info.start [.slice a0_1])
theorem f14_eq (run : Run) (n : Nat) (a0_1 : List AV) : f14 run n a0_1 =
  f14_l0 run n n 0 a0_1 (a0_1.length : Int) 0 := by kernel_rfl
theorem f14_run (ext : Run) (n : Nat) (a0_1 : List AV) : runE G ext (n + 1) 14 [.slice a0_1] = f14 (runE G ext n) n a0_1 := runE_succ f14_at f14_in

noncomputable def f45 (run : Run) (n : Nat) (a0_1 : Int) : Option Res := evalK G run n f45_info.keep 0 f45_info.body (retE G f45_info) (f45_info.start [.int a0_1])
theorem f45_eq (run : Run) (n : Nat) (a0_1 : Int) : f45 run n a0_1 =
  some ⟨[.agg [.int a0_1, .int 0, .int 0, .int 0, .int 0]], [], f45_fresh⟩ := by kernel_rfl
theorem f45_run (ext : Run) (n : Nat) (a0_1 : Int) : runE G ext (n + 1) 45 [.int a0_1] = f45 (runE G ext n) n a0_1 := runE_succ f45_at f45_in

noncomputable def f47_l0 (run : Run) (n : Nat) (k0 : Nat) (x1_1 : Int) (x7_1 : Int) (x11_1 : Int) (o2_1 : List AV) (o4_1 : List AV) (o6_1 : List AV) : Option Res :=
  iterK (evalK G run n f47_keep 0 (sub [1, 1, 1, 0, 1, 0, 0] f47_body)) f47_t0 f47_o0 (blockK 0 (seqK (evalK G run n f47_keep 0 (sub [1, 1, 1, 1] f47_body) (retE G f47_info)) (retE G f47_info))) k0
    ⟨[.any, .val (.int .u64) none (.int x1_1), .ptr ⟨(.arr 5 (.int .u64)), 2, 1, []⟩, .any, .ptr ⟨(.arr 5 (.int .u64)), 4, 1, []⟩, .any, .ptr ⟨(.arr 5 (.int .u64)), 6, 1, []⟩, .val (.int .u64) none (.int x7_1), .any, .any, .any, .val (.int .i64) none (.int x11_1), .any, .any, .any, .any, .any, .any, .any, .any, .any, .any, .any, .any, .any, .any, .any, .any, .any, .any, .any, .any, .any, .any, .any, .any, .any, .any, .any, .any, .any, .any, .any, .any], [⟨0, none⟩, ⟨0, none⟩, ⟨1, some ⟨(.arr 5 (.int .u64)), .agg o2_1⟩⟩, ⟨0, none⟩, ⟨1, some ⟨(.arr 5 (.int .u64)), .agg o4_1⟩⟩, ⟨0, none⟩, ⟨1, some ⟨(.arr 5 (.int .u64)), .agg o6_1⟩⟩, ⟨0, none⟩, ⟨0, none⟩, ⟨0, none⟩, ⟨0, none⟩, ⟨0, none⟩, ⟨0, none⟩, ⟨0, none⟩, ⟨0, none⟩, ⟨0, none⟩, ⟨0, none⟩, ⟨0, none⟩, ⟨0, none⟩, ⟨0, none⟩, ⟨0, none⟩, ⟨0, none⟩, ⟨0, none⟩, ⟨0, none⟩, ⟨0, none⟩, ⟨0, none⟩, ⟨0, none⟩, ⟨0, none⟩, ⟨0, none⟩, ⟨0, none⟩, ⟨0, none⟩, ⟨0, none⟩, ⟨0, none⟩, ⟨0, none⟩, ⟨0, none⟩, ⟨0, none⟩, ⟨0, none⟩, ⟨0, none⟩, ⟨0, none⟩, ⟨0, none⟩, ⟨0, none⟩, ⟨0, none⟩, ⟨0, none⟩, ⟨0, none⟩], List.replicate 44 0⟩
theorem f47_l0_eq (run : Run) (n : Nat) (k0 : Nat) (x1_1 : Int) (x7_1 : Int) (x11_1 : Int) (o2_1 : List AV) (o4_1 : List AV) (o6_1 : List AV) : f47_l0 run n (k0 + 1) x1_1 x7_1 x11_1 o2_1 o4_1 o6_1 =
  bif ltI x11_1 5 then
    bif inR x11_1 5 then
    bif inR x11_1 5 then
    bif inR x11_1 5 then
    f47_l0 run n k0 x1_1 (Int.fdiv (IntKind.wrap .u64 (IntKind.wrap .u64 (Int.fdiv ((AV.fld (.agg o2_1) (Int.toNat x11_1)).toInt) (2 ^ 32) * x1_1) + Int.fdiv (IntKind.wrap .u64 (IntKind.wrap .u64 (IntKind.wrap .u64 (BitVec.toNat (BitVec.ofInt 64 ((AV.fld (.agg o2_1) (Int.toNat x11_1)).toInt) &&& BitVec.ofInt 64 4294967295)) * x1_1) + x7_1)) (2 ^ 32))) (2 ^ 32)) (IntKind.wrap .i64 (x11_1 + 1)) o2_1 o4_1 (o6_1.set (Int.toNat x11_1) (.int (IntKind.wrap .u64 (BitVec.toNat (BitVec.ofInt 64 (IntKind.wrap .u64 (IntKind.wrap .u64 (IntKind.wrap .u64 (Int.fdiv ((AV.fld (.agg o2_1) (Int.toNat x11_1)).toInt) (2 ^ 32) * x1_1) + Int.fdiv (IntKind.wrap .u64 (IntKind.wrap .u64 (IntKind.wrap .u64 (BitVec.toNat (BitVec.ofInt 64 ((AV.fld (.agg o2_1) (Int.toNat x11_1)).toInt) &&& BitVec.ofInt 64 4294967295)) * x1_1) + x7_1)) (2 ^ 32)) * 2 ^ 32)) ||| BitVec.ofInt 64 (IntKind.wrap .u64 (BitVec.toNat (BitVec.ofInt 64 (IntKind.wrap .u64 (IntKind.wrap .u64 (IntKind.wrap .u64 (BitVec.toNat (BitVec.ofInt 64 ((AV.fld (.agg o2_1) (Int.toNat x11_1)).toInt) &&& BitVec.ofInt 64 4294967295)) * x1_1) + x7_1)) &&& BitVec.ofInt 64 4294967295))))))))
  else none
  else none
  else none
  else
    some ⟨[.agg o6_1, .bool (eqI x7_1 0)], [], f47_fresh⟩ := by kernel_rfl
noncomputable def f47 (run : Run) (n : Nat) (a0_1 : List AV) (a1_1 : Int) : Option Res := evalK G run n f47_info.keep 0 f47_info.body (retE G f47_info) (f47_info.start [.agg a0_1, .int a1_1])
theorem f47_eq (run : Run) (n : Nat) (a0_1 : List AV) (a1_1 : Int) : f47 run n a0_1 a1_1 =
  f47_l0 run n n a1_1 0 0 a0_1 (List.replicate 5 (.int 0)) (List.replicate 5 (.int 0)) := by kernel_rfl
theorem f47_run (ext : Run) (n : Nat) (a0_1 : List AV) (a1_1 : Int) : runE G ext (n + 1) 47 [.agg a0_1, .int a1_1] = f47 (runE G ext n) n a0_1 a1_1 := runE_succ f47_at f47_in

noncomputable def f50_l0 (run : Run) (n : Nat) (k0 : Nat) (x0_1 : Int) (x3_1 : Int) (x5_1 : Int) : Option Res :=
  iterK (evalK G run n f50_keep 0 (sub [1, 1, 0, 1, 0, 0] f50_body)) f50_t0 f50_o0 (blockK 0 (seqK (evalK G run n f50_keep 0 (sub [1, 1, 1] f50_body) (retE G f50_info)) (retE G f50_info))) k0
    ⟨[.val (.int .u64) none (.int x0_1), .any, .any, .val (.int .i64) none (.int x3_1), .any, .val (.int .i64) none (.int x5_1), .any, .any, .any, .any, .any, .any, .any, .any, .any, .any, .any, .any], [⟨0, none⟩, ⟨0, none⟩, ⟨0, none⟩, ⟨0, none⟩, ⟨0, none⟩, ⟨0, none⟩, ⟨0, none⟩, ⟨0, none⟩, ⟨0, none⟩, ⟨0, none⟩, ⟨0, none⟩, ⟨0, none⟩, ⟨0, none⟩, ⟨0, none⟩, ⟨0, none⟩, ⟨0, none⟩, ⟨0, none⟩, ⟨0, none⟩], List.replicate 18 0⟩
theorem f50_l0_eq (run : Run) (n : Nat) (k0 : Nat) (x0_1 : Int) (x3_1 : Int) (x5_1 : Int) : f50_l0 run n (k0 + 1) x0_1 x3_1 x5_1 =
  bif ltI x5_1 64 then
    bif leI 0 (IntKind.wrap .u64 (IntKind.wrap .i64 (63 - x5_1))) then
    bif !(eqI (Int.fdiv x0_1 (2 ^ (min (Int.toNat (IntKind.wrap .u64 (IntKind.wrap .i64 (63 - x5_1)))) 64))) 0) then
    some ⟨[.int x3_1], [], f50_fresh⟩
  else
    f50_l0 run n k0 x0_1 (IntKind.wrap .i64 (x3_1 + 1)) (IntKind.wrap .i64 (x5_1 + 1))
  else none
  else
    some ⟨[.int x3_1], [], f50_fresh⟩ := by kernel_rfl
noncomputable def f50 (run : Run) (n : Nat) (a0_1 : Int) : Option Res := evalK G run n f50_info.keep 0 f50_info.body (retE G f50_info) (f50_info.start [.int a0_1])
theorem f50_eq (run : Run) (n : Nat) (a0_1 : Int) : f50 run n a0_1 =
  f50_l0 run n n a0_1 0 0 := by kernel_rfl
theorem f50_run (ext : Run) (n : Nat) (a0_1 : Int) : runE G ext (n + 1) 50 [.int a0_1] = f50 (runE G ext n) n a0_1 := runE_succ f50_at f50_in

noncomputable def f49_l0 (run : Run) (n : Nat) (k0 : Nat) (x5_1 : Int) (o1_1 : List AV) : Option Res :=
  iterK (evalK G run n f49_keep 0 (sub [1, 0, 1, 0, 0] f49_body)) f49_t0 f49_o0 (blockK 0 (seqK (evalK G run n f49_keep 0 (sub [1, 1] f49_body) (retE G f49_info)) (retE G f49_info))) k0
    ⟨[.any, .ptr ⟨(.arr 5 (.int .u64)), 1, 1, []⟩, .any, .any, .any, .val (.int .i64) none (.int x5_1), .any, .any, .any, .any, .any, .any, .any, .any, .any, .any, .any, .any, .any, .any, .any], [⟨0, none⟩, ⟨1, some ⟨(.arr 5 (.int .u64)), .agg o1_1⟩⟩, ⟨0, none⟩, ⟨0, none⟩, ⟨0, none⟩, ⟨0, none⟩, ⟨0, none⟩, ⟨0, none⟩, ⟨0, none⟩, ⟨0, none⟩, ⟨0, none⟩, ⟨0, none⟩, ⟨0, none⟩, ⟨0, none⟩, ⟨0, none⟩, ⟨0, none⟩, ⟨0, none⟩, ⟨0, none⟩, ⟨0, none⟩, ⟨0, none⟩, ⟨0, none⟩], List.replicate 21 0⟩
theorem f49_l0_eq (run : Run) (n : Nat) (k0 : Nat) (x5_1 : Int) (o1_1 : List AV) : f49_l0 run n (k0 + 1) x5_1 o1_1 =
  bif ltI x5_1 5 then
    bif inR (IntKind.wrap .i64 (4 - x5_1)) 5 then
    bif !(eqI ((AV.fld (.agg o1_1) (Int.toNat (IntKind.wrap .i64 (4 - x5_1)))).toInt) 0) then
    (run 50 [.int ((AV.fld (.agg o1_1) (Int.toNat (IntKind.wrap .i64 (4 - x5_1)))).toInt)]).bind fun r1 =>
    nilV r1.outs (consV r1.vals fun v1 vs1 =>
    nilV vs1 (some ⟨[.int (IntKind.wrap .i64 (IntKind.wrap .i64 (320 - IntKind.wrap .i64 (64 * x5_1)) - v1.toInt))], [], f49_fresh⟩))
  else
    f49_l0 run n k0 (IntKind.wrap .i64 (x5_1 + 1)) o1_1
  else none
  else
    some ⟨[.int 0], [], f49_fresh⟩ := by kernel_rfl
noncomputable def f49 (run : Run) (n : Nat) (a0_1 : List AV) : Option Res := evalK G run n f49_info.keep 0 f49_info.body (retE G f49_info) (f49_info.start [.agg a0_1])
theorem f49_eq (run : Run) (n : Nat) (a0_1 : List AV) : f49 run n a0_1 =
  f49_l0 run n n 0 a0_1 := by kernel_rfl
theorem f49_run (ext : Run) (n : Nat) (a0_1 : List AV) : runE G ext (n + 1) 49 [.agg a0_1] = f49 (runE G ext n) n a0_1 := runE_succ f49_at f49_in

noncomputable def f46_l0 (run : Run) (n : Nat) (k0 : Nat) (x7_1 : Int) (x8_1 : Int) (x9_1 : Int) (o2_1 : List AV) (o4_1 : List AV) (o6_1 : List AV) : Option Res :=
  iterK (evalK G run n f46_keep 0 (sub [1, 1, 1, 1, 1, 0, 1, 0, 0] f46_body)) f46_t0 f46_o0 (blockK 0 (seqK (evalK G run n f46_keep 0 (sub [1, 1, 1, 1, 1, 1] f46_body) (retE G f46_info)) (retE G f46_info))) k0
    ⟨[.any, .any, .ptr ⟨(.arr 5 (.int .u64)), 2, 1, []⟩, .any, .ptr ⟨(.arr 5 (.int .u64)), 4, 1, []⟩, .any, .ptr ⟨(.arr 5 (.int .u64)), 6, 1, []⟩, .val (.int .i64) none (.int x7_1), .val (.int .u64) none (.int x8_1), .val (.int .i64) none (.int x9_1), .any, .any, .any, .any, .any, .any, .any, .any, .any, .any, .any, .any, .any, .any, .any, .any, .any, .any, .any, .any, .any, .any, .any, .any, .any, .any, .any, .any, .any, .any, .any, .any, .any, .any, .any, .any, .any, .any, .any, .any, .any, .any, .any, .any, .any, .any, .any, .any, .any, .any, .any, .any, .any, .any, .any, .any, .any, .any, .any, .any], [⟨0, none⟩, ⟨0, none⟩, ⟨1, some ⟨(.arr 5 (.int .u64)), .agg o2_1⟩⟩, ⟨0, none⟩, ⟨1, some ⟨(.arr 5 (.int .u64)), .agg o4_1⟩⟩, ⟨0, none⟩, ⟨1, some ⟨(.arr 5 (.int .u64)), .agg o6_1⟩⟩, ⟨0, none⟩, ⟨0, none⟩, ⟨0, none⟩, ⟨0, none⟩, ⟨0, none⟩, ⟨0, none⟩, ⟨0, none⟩, ⟨0, none⟩, ⟨0, none⟩, ⟨0, none⟩, ⟨0, none⟩, ⟨0, none⟩, ⟨0, none⟩, ⟨0, none⟩, ⟨0, none⟩, ⟨0, none⟩, ⟨0, none⟩, ⟨0, none⟩, ⟨0, none⟩, ⟨0, none⟩, ⟨0, none⟩, ⟨0, none⟩, ⟨0, none⟩, ⟨0, none⟩, ⟨0, none⟩, ⟨0, none⟩, ⟨0, none⟩, ⟨0, none⟩, ⟨0, none⟩, ⟨0, none⟩, ⟨0, none⟩, ⟨0, none⟩, ⟨0, none⟩, ⟨0, none⟩, ⟨0, none⟩, ⟨0, none⟩, ⟨0, none⟩, ⟨0, none⟩, ⟨0, none⟩, ⟨0, none⟩, ⟨0, none⟩, ⟨0, none⟩, ⟨0, none⟩, ⟨0, none⟩, ⟨0, none⟩, ⟨0, none⟩, ⟨0, none⟩, ⟨0, none⟩, ⟨0, none⟩, ⟨0, none⟩, ⟨0, none⟩, ⟨0, none⟩, ⟨0, none⟩, ⟨0, none⟩, ⟨0, none⟩, ⟨0, none⟩, ⟨0, none⟩, ⟨0, none⟩, ⟨0, none⟩, ⟨0, none⟩, ⟨0, none⟩, ⟨0, none⟩, ⟨0, none⟩], List.replicate 70 0⟩
theorem f46_l0_eq (run : Run) (n : Nat) (k0 : Nat) (x7_1 : Int) (x8_1 : Int) (x9_1 : Int) (o2_1 : List AV) (o4_1 : List AV) (o6_1 : List AV) : f46_l0 run n (k0 + 1) x7_1 x8_1 x9_1 o2_1 o4_1 o6_1 =
  bif ltI x9_1 5 then
    bif inR (IntKind.wrap .i64 (x9_1 - x7_1)) 5 then
    bif leI 0 x8_1 then
    bif inR x9_1 5 then
    bif ltI 0 x8_1 then
    bif ltI x7_1 x9_1 then
    bif inR x9_1 5 then
    bif inR (IntKind.wrap .i64 (IntKind.wrap .i64 (x9_1 - x7_1) - 1)) 5 then
    bif leI 0 (IntKind.wrap .u64 (64 - x8_1)) then
    bif inR x9_1 5 then
    f46_l0 run n k0 x7_1 x8_1 (IntKind.wrap .i64 (x9_1 + 1)) o2_1 o4_1 ((o6_1.set (Int.toNat x9_1) (.int (IntKind.wrap .u64 ((AV.fld (.agg o2_1) (Int.toNat (IntKind.wrap .i64 (x9_1 - x7_1)))).toInt * 2 ^ (min (Int.toNat x8_1) 64))))).set (Int.toNat x9_1) (.int (IntKind.wrap .u64 (BitVec.toNat (BitVec.ofInt 64 ((AV.fld (.agg (o6_1.set (Int.toNat x9_1) (.int (IntKind.wrap .u64 ((AV.fld (.agg o2_1) (Int.toNat (IntKind.wrap .i64 (x9_1 - x7_1)))).toInt * 2 ^ (min (Int.toNat x8_1) 64)))))) (Int.toNat x9_1)).toInt) ||| BitVec.ofInt 64 (Int.fdiv ((AV.fld (.agg o2_1) (Int.toNat (IntKind.wrap .i64 (IntKind.wrap .i64 (x9_1 - x7_1) - 1)))).toInt) (2 ^ (min (Int.toNat (IntKind.wrap .u64 (64 - x8_1))) 64))))))))
  else none
  else none
  else none
  else none
  else
    f46_l0 run n k0 x7_1 x8_1 (IntKind.wrap .i64 (x9_1 + 1)) o2_1 o4_1 (o6_1.set (Int.toNat x9_1) (.int (IntKind.wrap .u64 ((AV.fld (.agg o2_1) (Int.toNat (IntKind.wrap .i64 (x9_1 - x7_1)))).toInt * 2 ^ (min (Int.toNat x8_1) 64)))))
  else
    f46_l0 run n k0 x7_1 x8_1 (IntKind.wrap .i64 (x9_1 + 1)) o2_1 o4_1 (o6_1.set (Int.toNat x9_1) (.int (IntKind.wrap .u64 ((AV.fld (.agg o2_1) (Int.toNat (IntKind.wrap .i64 (x9_1 - x7_1)))).toInt * 2 ^ (min (Int.toNat x8_1) 64)))))
  else none
  else none
  else none
  else
    some ⟨[.agg o6_1, .bool true], [], f46_fresh⟩ := by kernel_rfl
noncomputable def f46 (run : Run) (n : Nat) (a0_1 : List AV) (a1_1 : Int) : Option Res := evalK G run n f46_info.keep 0 f46_info.body (retE G f46_info) (f46_info.start [.agg a0_1, .int a1_1])
theorem f46_eq (run : Run) (n : Nat) (a0_1 : List AV) (a1_1 : Int) : f46 run n a0_1 a1_1 =
  bif ltI a1_1 0 then
    some ⟨[.agg [.int 0, .int 0, .int 0, .int 0, .int 0], .bool false], [], f46_fresh⟩
  else
    (run 49 [.agg a0_1]).bind fun r1 =>
    nilV r1.outs (consV r1.vals fun v1 vs1 =>
    nilV vs1 (bif ltI 0 v1.toInt then
    (run 49 [.agg a0_1]).bind fun r2 =>
    nilV r2.outs (consV r2.vals fun v2 vs2 =>
    nilV vs2 (bif ltI (IntKind.wrap .i64 (320 - v2.toInt)) a1_1 then
    some ⟨[.agg [.int 0, .int 0, .int 0, .int 0, .int 0], .bool false], [], f46_fresh⟩
  else
    (run 49 [.agg a0_1]).bind fun r3 =>
    nilV r3.outs (consV r3.vals fun v3 vs3 =>
    nilV vs3 (bif eqI v3.toInt 0 then
    some ⟨[.agg [.int 0, .int 0, .int 0, .int 0, .int 0], .bool true], [], f46_fresh⟩
  else
    f46_l0 run n n (IntKind.wrap .i64 (Int.tdiv a1_1 64)) (IntKind.wrap .u64 (Int.tmod a1_1 64)) (IntKind.wrap .i64 (Int.tdiv a1_1 64)) a0_1 (List.replicate 5 (.int 0)) (List.replicate 5 (.int 0))))))
  else
    (run 49 [.agg a0_1]).bind fun r4 =>
    nilV r4.outs (consV r4.vals fun v4 vs4 =>
    nilV vs4 (bif eqI v4.toInt 0 then
    some ⟨[.agg [.int 0, .int 0, .int 0, .int 0, .int 0], .bool true], [], f46_fresh⟩
  else
    f46_l0 run n n (IntKind.wrap .i64 (Int.tdiv a1_1 64)) (IntKind.wrap .u64 (Int.tmod a1_1 64)) (IntKind.wrap .i64 (Int.tdiv a1_1 64)) a0_1 (List.replicate 5 (.int 0)) (List.replicate 5 (.int 0)))))) := by kernel_rfl
theorem f46_run (ext : Run) (n : Nat) (a0_1 : List AV) (a1_1 : Int) : runE G ext (n + 1) 46 [.agg a0_1, .int a1_1] = f46 (runE G ext n) n a0_1 a1_1 := runE_succ f46_at f46_in

noncomputable def f48_l0 (run : Run) (n : Nat) (k0 : Nat) (x7_1 : Int) (x11_1 : Int) (o2_1 : List AV) (o3_1 : List AV) (o4_1 : List AV) (o6_1 : List AV) : Option Res :=
  iterK (evalK G run n f48_keep 0 (sub [1, 1, 1, 0, 1, 0, 0] f48_body)) f48_t0 f48_o0 (blockK 0 (seqK (evalK G run n f48_keep 0 (sub [1, 1, 1, 1] f48_body) (retE G f48_info)) (retE G f48_info))) k0
    ⟨[.any, .any, .ptr ⟨(.arr 5 (.int .u64)), 2, 1, []⟩, .ptr ⟨(.arr 5 (.int .u64)), 3, 1, []⟩, .ptr ⟨(.arr 5 (.int .u64)), 4, 1, []⟩, .any, .ptr ⟨(.arr 5 (.int .u64)), 6, 1, []⟩, .val (.int .u64) none (.int x7_1), .any, .any, .any, .val (.int .i64) none (.int x11_1), .any, .any, .any, .any, .any, .any, .any, .any, .any, .any, .any, .any, .any, .any, .any, .any, .any, .any, .any, .any, .any, .any, .any, .any, .any, .any, .any, .any, .any, .any, .any, .any, .any, .any, .any, .any, .any, .any, .any], [⟨0, none⟩, ⟨0, none⟩, ⟨1, some ⟨(.arr 5 (.int .u64)), .agg o2_1⟩⟩, ⟨1, some ⟨(.arr 5 (.int .u64)), .agg o3_1⟩⟩, ⟨1, some ⟨(.arr 5 (.int .u64)), .agg o4_1⟩⟩, ⟨0, none⟩, ⟨1, some ⟨(.arr 5 (.int .u64)), .agg o6_1⟩⟩, ⟨0, none⟩, ⟨0, none⟩, ⟨0, none⟩, ⟨0, none⟩, ⟨0, none⟩, ⟨0, none⟩, ⟨0, none⟩, ⟨0, none⟩, ⟨0, none⟩, ⟨0, none⟩, ⟨0, none⟩, ⟨0, none⟩, ⟨0, none⟩, ⟨0, none⟩, ⟨0, none⟩, ⟨0, none⟩, ⟨0, none⟩, ⟨0, none⟩, ⟨0, none⟩, ⟨0, none⟩, ⟨0, none⟩, ⟨0, none⟩, ⟨0, none⟩, ⟨0, none⟩, ⟨0, none⟩, ⟨0, none⟩, ⟨0, none⟩, ⟨0, none⟩, ⟨0, none⟩, ⟨0, none⟩, ⟨0, none⟩, ⟨0, none⟩, ⟨0, none⟩, ⟨0, none⟩, ⟨0, none⟩, ⟨0, none⟩, ⟨0, none⟩, ⟨0, none⟩, ⟨0, none⟩, ⟨0, none⟩, ⟨0, none⟩, ⟨0, none⟩, ⟨0, none⟩, ⟨0, none⟩], List.replicate 51 0⟩
theorem f48_l0_eq (run : Run) (n : Nat) (k0 : Nat) (x7_1 : Int) (x11_1 : Int) (o2_1 : List AV) (o3_1 : List AV) (o4_1 : List AV) (o6_1 : List AV) : f48_l0 run n (k0 + 1) x7_1 x11_1 o2_1 o3_1 o4_1 o6_1 =
  bif ltI x11_1 5 then
    bif inR x11_1 5 then
    bif inR x11_1 5 then
    bif inR x11_1 5 then
    bif inR x11_1 5 then
    bif inR x11_1 5 then
    f48_l0 run n k0 (Int.fdiv (IntKind.wrap .u64 (IntKind.wrap .u64 (Int.fdiv ((AV.fld (.agg o2_1) (Int.toNat x11_1)).toInt) (2 ^ 32) + Int.fdiv ((AV.fld (.agg o3_1) (Int.toNat x11_1)).toInt) (2 ^ 32)) + Int.fdiv (IntKind.wrap .u64 (IntKind.wrap .u64 (IntKind.wrap .u64 (BitVec.toNat (BitVec.ofInt 64 ((AV.fld (.agg o2_1) (Int.toNat x11_1)).toInt) &&& BitVec.ofInt 64 4294967295)) + IntKind.wrap .u64 (BitVec.toNat (BitVec.ofInt 64 ((AV.fld (.agg o3_1) (Int.toNat x11_1)).toInt) &&& BitVec.ofInt 64 4294967295))) + x7_1)) (2 ^ 32))) (2 ^ 32)) (IntKind.wrap .i64 (x11_1 + 1)) o2_1 o3_1 o4_1 (o6_1.set (Int.toNat x11_1) (.int (IntKind.wrap .u64 (BitVec.toNat (BitVec.ofInt 64 (IntKind.wrap .u64 (IntKind.wrap .u64 (IntKind.wrap .u64 (Int.fdiv ((AV.fld (.agg o2_1) (Int.toNat x11_1)).toInt) (2 ^ 32) + Int.fdiv ((AV.fld (.agg o3_1) (Int.toNat x11_1)).toInt) (2 ^ 32)) + Int.fdiv (IntKind.wrap .u64 (IntKind.wrap .u64 (IntKind.wrap .u64 (BitVec.toNat (BitVec.ofInt 64 ((AV.fld (.agg o2_1) (Int.toNat x11_1)).toInt) &&& BitVec.ofInt 64 4294967295)) + IntKind.wrap .u64 (BitVec.toNat (BitVec.ofInt 64 ((AV.fld (.agg o3_1) (Int.toNat x11_1)).toInt) &&& BitVec.ofInt 64 4294967295))) + x7_1)) (2 ^ 32)) * 2 ^ 32)) ||| BitVec.ofInt 64 (IntKind.wrap .u64 (BitVec.toNat (BitVec.ofInt 64 (IntKind.wrap .u64 (IntKind.wrap .u64 (IntKind.wrap .u64 (BitVec.toNat (BitVec.ofInt 64 ((AV.fld (.agg o2_1) (Int.toNat x11_1)).toInt) &&& BitVec.ofInt 64 4294967295)) + IntKind.wrap .u64 (BitVec.toNat (BitVec.ofInt 64 ((AV.fld (.agg o3_1) (Int.toNat x11_1)).toInt) &&& BitVec.ofInt 64 4294967295))) + x7_1)) &&& BitVec.ofInt 64 4294967295))))))))
  else none
  else none
  else none
  else none
  else none
  else
    bif !(eqI x7_1 0) then
    some ⟨[.agg [.int 0, .int 0, .int 0, .int 0, .int 0], .bool false], [], f48_fresh⟩
  else
    some ⟨[.agg o6_1, .bool true], [], f48_fresh⟩ := by kernel_rfl
noncomputable def f48 (run : Run) (n : Nat) (a0_1 : List AV) (a1_1 : List AV) : Option Res := evalK G run n f48_info.keep 0 f48_info.body (retE G f48_info) (f48_info.start [.agg a0_1, .agg a1_1])
theorem f48_eq (run : Run) (n : Nat) (a0_1 : List AV) (a1_1 : List AV) : f48 run n a0_1 a1_1 =
  f48_l0 run n n 0 0 a0_1 a1_1 (List.replicate 5 (.int 0)) (List.replicate 5 (.int 0)) := by kernel_rfl
theorem f48_run (ext : Run) (n : Nat) (a0_1 : List AV) (a1_1 : List AV) : runE G ext (n + 1) 48 [.agg a0_1, .agg a1_1] = f48 (runE G ext n) n a0_1 a1_1 := runE_succ f48_at f48_in

noncomputable def f44 (run : Run) (n : Nat) (a0_1 : List AV) (a1_1 : Int) : Option Res := evalK G run n f44_info.keep 0 f44_info.body (retE G f44_info) (f44_info.start [.agg a0_1, .int a1_1])
theorem f44_eq (run : Run) (n : Nat) (a0_1 : List AV) (a1_1 : Int) : f44 run n a0_1 a1_1 =
  (run 47 [.agg a0_1, .int (IntKind.wrap .u64 (BitVec.toNat (BitVec.ofInt 64 a1_1 &&& BitVec.ofInt 64 4294967295)))]).bind fun r1 =>
    nilV r1.outs (consV r1.vals fun v1 vs1 =>
    consV vs1 fun v2 vs2 =>
    nilV vs2 (bif !v2.toBool then
    some ⟨[.agg [.int 0, .int 0, .int 0, .int 0, .int 0], .bool false], [], f44_fresh⟩
  else
    (run 47 [.agg a0_1, .int (Int.fdiv a1_1 (2 ^ 32))]).bind fun r2 =>
    nilV r2.outs (consV r2.vals fun v3 vs3 =>
    consV vs3 fun v4 vs4 =>
    nilV vs4 (bif !v4.toBool then
    some ⟨[.agg [.int 0, .int 0, .int 0, .int 0, .int 0], .bool false], [], f44_fresh⟩
  else
    (run 46 [.agg v3.toAgg, .int 32]).bind fun r3 =>
    nilV r3.outs (consV r3.vals fun v5 vs5 =>
    consV vs5 fun v6 vs6 =>
    nilV vs6 (bif !v6.toBool then
    some ⟨[.agg [.int 0, .int 0, .int 0, .int 0, .int 0], .bool false], [], f44_fresh⟩
  else
    (run 48 [.agg v1.toAgg, .agg v5.toAgg]).bind fun r4 =>
    nilV r4.outs (consV r4.vals fun v7 vs7 =>
    consV vs7 fun v8 vs8 =>
    nilV vs8 (some ⟨[.agg v7.toAgg, .bool v8.toBool], [], f44_fresh⟩)))))))) := by kernel_rfl
theorem f44_run (ext : Run) (n : Nat) (a0_1 : List AV) (a1_1 : Int) : runE G ext (n + 1) 44 [.agg a0_1, .int a1_1] = f44 (runE G ext n) n a0_1 a1_1 := runE_succ f44_at f44_in

noncomputable def f43 (run : Run) (n : Nat) (a0_1 : Int) (a1_1 : Int) (a2_1 : Int) : Option Res := evalK G run n f43_info.keep 0 f43_info.body (retE G f43_info) (f43_info.start [.int a0_1, .int a1_1, .int a2_1])
theorem f43_eq (run : Run) (n : Nat) (a0_1 : Int) (a1_1 : Int) (a2_1 : Int) : f43 run n a0_1 a1_1 a2_1 =
  (run 45 [.int (IntKind.wrap .u64 a0_1)]).bind fun r1 =>
    nilV r1.outs (consV r1.vals fun v1 vs1 =>
    nilV vs1 ((run 44 [.agg v1.toAgg, .int (IntKind.wrap .u64 a1_1)]).bind fun r2 =>
    nilV r2.outs (consV r2.vals fun v2 vs2 =>
    consV vs2 fun _v3 vs3 =>
    nilV vs3 (bif ltI a2_1 0 then
    some ⟨[.agg [.int 0, .int 0, .int 0, .int 0, .int 0], .bool false], [], f43_fresh⟩
  else
    bif ltI 255 a2_1 then
    some ⟨[.agg [.int 0, .int 0, .int 0, .int 0, .int 0], .bool false], [], f43_fresh⟩
  else
    (run 46 [.agg v2.toAgg, .int a2_1]).bind fun r3 =>
    nilV r3.outs (consV r3.vals fun v4 vs4 =>
    consV vs4 fun v5 vs5 =>
    nilV vs5 (some ⟨[.agg v4.toAgg, .bool v5.toBool], [], f43_fresh⟩)))))) := by kernel_rfl
theorem f43_run (ext : Run) (n : Nat) (a0_1 : Int) (a1_1 : Int) (a2_1 : Int) : runE G ext (n + 1) 43 [.int a0_1, .int a1_1, .int a2_1] = f43 (runE G ext n) n a0_1 a1_1 a2_1 := runE_succ f43_at f43_in

noncomputable def f39 (run : Run) (n : Nat) (a0_1 : Int) (a1_1 : Int) (a2_1 : Int) (a3_1 : Int) (a4_1 : Int) : Option Res := evalK G run n f39_info.keep 0 f39_info.body (retE G f39_info) (f39_info.start [.int a0_1, .int a1_1, .int a2_1, .int a3_1, .int a4_1])
theorem f39_eq (run : Run) (n : Nat) (a0_1 : Int) (a1_1 : Int) (a2_1 : Int) (a3_1 : Int) (a4_1 : Int) : f39 run n a0_1 a1_1 a2_1 a3_1 a4_1 =
  (run 17 [.int a3_1, .int a4_1]).bind fun r1 =>
    nilV r1.outs (consV r1.vals fun v1 vs1 =>
    nilV vs1 (bif !v1.toBool then
    some ⟨[.agg [.int 0, .int 0, .int 0, .int 0, .int 0], .agg [.int 0, .int 0, .int 0, .int 0, .int 0], .bool false], [], f39_fresh⟩
  else
    (run 43 [.int a0_1, .int (IntKind.wrap .u32 a4_1), .int a2_1]).bind fun r2 =>
    nilV r2.outs (consV r2.vals fun v2 vs2 =>
    consV vs2 fun v3 vs3 =>
    nilV vs3 ((run 43 [.int a1_1, .int (IntKind.wrap .u32 (IntKind.wrap .i64 (a4_1 - a3_1))), .int 0]).bind fun r3 =>
    nilV r3.outs (consV r3.vals fun v4 vs4 =>
    consV vs4 fun _v5 vs5 =>
    nilV vs5 (some ⟨[.agg v2.toAgg, .agg v4.toAgg, .bool v3.toBool], [], f39_fresh⟩)))))) := by kernel_rfl
theorem f39_run (ext : Run) (n : Nat) (a0_1 : Int) (a1_1 : Int) (a2_1 : Int) (a3_1 : Int) (a4_1 : Int) : runE G ext (n + 1) 39 [.int a0_1, .int a1_1, .int a2_1, .int a3_1, .int a4_1] = f39 (runE G ext n) n a0_1 a1_1 a2_1 a3_1 a4_1 := runE_succ f39_at f39_in

noncomputable def f40_l0 (run : Run) (n : Nat) (k0 : Nat) (x8_1 : Int) (o2_1 : List AV) (o3_1 : List AV) : Option Res :=
  iterK (evalK G run n f40_keep 0 (sub [1, 0, 1, 0, 0] f40_body)) f40_t0 f40_o0 (blockK 0 (seqK (evalK G run n f40_keep 0 (sub [1, 1] f40_body) (retE G f40_info)) (retE G f40_info))) k0
    ⟨[.any, .any, .ptr ⟨(.arr 5 (.int .u64)), 2, 1, []⟩, .ptr ⟨(.arr 5 (.int .u64)), 3, 1, []⟩, .any, .any, .any, .any, .val (.int .i64) none (.int x8_1), .any, .any, .any, .any, .any, .any, .any, .any, .any, .any, .any, .any, .any, .any, .any, .any, .any], [⟨0, none⟩, ⟨0, none⟩, ⟨1, some ⟨(.arr 5 (.int .u64)), .agg o2_1⟩⟩, ⟨1, some ⟨(.arr 5 (.int .u64)), .agg o3_1⟩⟩, ⟨0, none⟩, ⟨0, none⟩, ⟨0, none⟩, ⟨0, none⟩, ⟨0, none⟩, ⟨0, none⟩, ⟨0, none⟩, ⟨0, none⟩, ⟨0, none⟩, ⟨0, none⟩, ⟨0, none⟩, ⟨0, none⟩, ⟨0, none⟩, ⟨0, none⟩, ⟨0, none⟩, ⟨0, none⟩, ⟨0, none⟩, ⟨0, none⟩, ⟨0, none⟩, ⟨0, none⟩, ⟨0, none⟩, ⟨0, none⟩], List.replicate 26 0⟩
theorem f40_l0_eq (run : Run) (n : Nat) (k0 : Nat) (x8_1 : Int) (o2_1 : List AV) (o3_1 : List AV) : f40_l0 run n (k0 + 1) x8_1 o2_1 o3_1 =
  bif ltI x8_1 5 then
    bif inR (IntKind.wrap .i64 (4 - x8_1)) 5 then
    bif inR (IntKind.wrap .i64 (4 - x8_1)) 5 then
    bif !(eqI ((AV.fld (.agg o2_1) (Int.toNat (IntKind.wrap .i64 (4 - x8_1)))).toInt) ((AV.fld (.agg o3_1) (Int.toNat (IntKind.wrap .i64 (4 - x8_1)))).toInt)) then
    bif ltI ((AV.fld (.agg o2_1) (Int.toNat (IntKind.wrap .i64 (4 - x8_1)))).toInt) ((AV.fld (.agg o3_1) (Int.toNat (IntKind.wrap .i64 (4 - x8_1)))).toInt) then
    some ⟨[.int (-1)], [], f40_fresh⟩
  else
    some ⟨[.int 1], [], f40_fresh⟩
  else
    f40_l0 run n k0 (IntKind.wrap .i64 (x8_1 + 1)) o2_1 o3_1
  else none
  else none
  else
    some ⟨[.int 0], [], f40_fresh⟩ := by kernel_rfl
noncomputable def f40 (run : Run) (n : Nat) (a0_1 : List AV) (a1_1 : List AV) : Option Res := evalK G run n f40_info.keep 0 f40_info.body (retE G f40_info) (f40_info.start [.agg a0_1, .agg a1_1])
theorem f40_eq (run : Run) (n : Nat) (a0_1 : List AV) (a1_1 : List AV) : f40 run n a0_1 a1_1 =
  f40_l0 run n n 0 a0_1 a1_1 := by kernel_rfl
theorem f40_run (ext : Run) (n : Nat) (a0_1 : List AV) (a1_1 : List AV) : runE G ext (n + 1) 40 [.agg a0_1, .agg a1_1] = f40 (runE G ext n) n a0_1 a1_1 := runE_succ f40_at f40_in

noncomputable def f33 (run : Run) (n : Nat) (a0_1 : Int) (a1_1 : Int) (a2_1 : Int) (a3_1 : Int) (a4_1 : Int) : Option Res := evalK G run n f33_info.keep 0 f33_info.body (retE G f33_info) (f33_info.start [.int a0_1, .int a1_1, .int a2_1, .int a3_1, .int a4_1])
theorem f33_eq (run : Run) (n : Nat) (a0_1 : Int) (a1_1 : Int) (a2_1 : Int) (a3_1 : Int) (a4_1 : Int) : f33 run n a0_1 a1_1 a2_1 a3_1 a4_1 =
  (run 39 [.int a0_1, .int a1_1, .int a2_1, .int a3_1, .int a4_1]).bind fun r1 =>
    nilV r1.outs (consV r1.vals fun v1 vs1 =>
    consV vs1 fun v2 vs2 =>
    consV vs2 fun v3 vs3 =>
    nilV vs3 (bif v3.toBool then
    (run 40 [.agg v1.toAgg, .agg v2.toAgg]).bind fun r2 =>
    nilV r2.outs (consV r2.vals fun v4 vs4 =>
    nilV vs4 (some ⟨[.bool (ltI 0 v4.toInt)], [], f33_fresh⟩))
  else
    some ⟨[.bool false], [], f33_fresh⟩)) := by kernel_rfl
theorem f33_run (ext : Run) (n : Nat) (a0_1 : Int) (a1_1 : Int) (a2_1 : Int) (a3_1 : Int) (a4_1 : Int) : runE G ext (n + 1) 33 [.int a0_1, .int a1_1, .int a2_1, .int a3_1, .int a4_1] = f33 (runE G ext n) n a0_1 a1_1 a2_1 a3_1 a4_1 := runE_succ f33_at f33_in

noncomputable def f27 (run : Run) (n : Nat) (a0_1 : Int) (a1_1 : Int) (a2_1 : Int) (a3_1 : Int) (a4_1 : Int) : Option Res := evalK G run n f27_info.keep 0 f27_info.body (retE G f27_info) (f27_info.start [.int a0_1, .int a1_1, .int a2_1, .int a3_1, .int a4_1])
theorem f27_eq (run : Run) (n : Nat) (a0_1 : Int) (a1_1 : Int) (a2_1 : Int) (a3_1 : Int) (a4_1 : Int) : f27 run n a0_1 a1_1 a2_1 a3_1 a4_1 =
  bif leI 0 a0_1 then
    bif leI 0 a1_1 then
    bif leI a0_1 1024 then
    bif leI a1_1 1024 then
    (run 33 [.int (IntKind.wrap .u32 a0_1), .int (IntKind.wrap .u32 a1_1), .int a2_1, .int a3_1, .int a4_1]).bind fun r1 =>
    nilV r1.outs (consV r1.vals fun v1 vs1 =>
    nilV vs1 (some ⟨[.bool v1.toBool], [], f27_fresh⟩))
  else
    some ⟨[.bool false], [], f27_fresh⟩
  else
    some ⟨[.bool false], [], f27_fresh⟩
  else
    some ⟨[.bool false], [], f27_fresh⟩
  else
    some ⟨[.bool false], [], f27_fresh⟩ := by kernel_rfl
theorem f27_run (ext : Run) (n : Nat) (a0_1 : Int) (a1_1 : Int) (a2_1 : Int) (a3_1 : Int) (a4_1 : Int) : runE G ext (n + 1) 27 [.int a0_1, .int a1_1, .int a2_1, .int a3_1, .int a4_1] = f27 (runE G ext n) n a0_1 a1_1 a2_1 a3_1 a4_1 := runE_succ f27_at f27_in

noncomputable def f22_l0 (run : Run) (n : Nat) (k0 : Nat) (x0_1 : List AV) (x1_1 : Int) (x3_1 : Int) (x4_1 : Int) (x11_1 : List AV) (x12_1 : Int) : Option Res :=
  iterK (evalK G run n f22_keep 0 (sub [1, 1, 1, 0, 1, 0, 0] f22_body)) f22_t0 f22_o0 (blockK 0 (seqK (evalK G run n f22_keep 0 (sub [1, 1, 1, 1] f22_body) (retE G f22_info)) (retE G f22_info))) k0
    ⟨[.val (.slice (.int .i64)) none (.slice x0_1), .val (.int .i64) none (.int x1_1), .any, .val (.int .i64) none (.int x3_1), .val (.int .i64) none (.int x4_1), .any, .any, .any, .any, .any, .any, .val (.slice (.int .i64)) (some (11, 0)) (.slice x11_1), .val (.int .i64) none (.int x12_1), .any, .any, .any, .any, .any, .any, .any, .any, .any, .any, .any, .any, .any, .any, .any, .any, .any, .any, .any, .any, .any, .any, .any, .any, .any, .any, .any, .any, .any, .any], [⟨0, none⟩, ⟨0, none⟩, ⟨0, none⟩, ⟨0, none⟩, ⟨0, none⟩, ⟨0, none⟩, ⟨0, none⟩, ⟨0, none⟩, ⟨0, none⟩, ⟨0, none⟩, ⟨0, none⟩, ⟨0, none⟩, ⟨0, none⟩, ⟨0, none⟩, ⟨0, none⟩, ⟨0, none⟩, ⟨0, none⟩, ⟨0, none⟩, ⟨0, none⟩, ⟨0, none⟩, ⟨0, none⟩, ⟨0, none⟩, ⟨0, none⟩, ⟨0, none⟩, ⟨0, none⟩, ⟨0, none⟩, ⟨0, none⟩, ⟨0, none⟩, ⟨0, none⟩, ⟨0, none⟩, ⟨0, none⟩, ⟨0, none⟩, ⟨0, none⟩, ⟨0, none⟩, ⟨0, none⟩, ⟨0, none⟩, ⟨0, none⟩, ⟨0, none⟩, ⟨0, none⟩, ⟨0, none⟩, ⟨0, none⟩, ⟨0, none⟩, ⟨0, none⟩], List.replicate 43 0⟩
theorem f22_l0_eq (run : Run) (n : Nat) (k0 : Nat) (x0_1 : List AV) (x1_1 : Int) (x3_1 : Int) (x4_1 : Int) (x11_1 : List AV) (x12_1 : Int) : f22_l0 run n (k0 + 1) x0_1 x1_1 x3_1 x4_1 x11_1 x12_1 =
  bif leI x12_1 (x11_1.length : Int) then
    bif inR (IntKind.wrap .i64 ((x11_1.length : Int) - x12_1)) x11_1.length then
    (run 27 [.int x12_1, .int (IntKind.wrap .i64 ((x0_1.length : Int) - (nth x11_1 (Int.toNat (IntKind.wrap .i64 ((x11_1.length : Int) - x12_1)))).toInt)), .int x1_1, .int x3_1, .int x4_1]).bind fun r2 =>
    nilV r2.outs (consV r2.vals fun v2 vs2 =>
    nilV vs2 (bif !v2.toBool then
    some ⟨[.bool false], [], f22_fresh⟩
  else
    f22_l0 run n k0 x0_1 x1_1 x3_1 x4_1 x11_1 (IntKind.wrap .i64 (x12_1 + 1))))
  else none
  else
    some ⟨[.bool true], [], f22_fresh⟩ := by kernel_rfl
noncomputable def f22 (run : Run) (n : Nat) (a0_1 : List AV) (a1_1 : Int) (a2_1 : Int) (a3_1 : Int) (a4_1 : Int) : Option Res := evalK G run n f22_info.keep 0 f22_info.body (retE G f22_info) (f22_info.start [.slice a0_1, .int a1_1, .int a2_1, .int a3_1, .int a4_1])
theorem f22_eq (run : Run) (n : Nat) (a0_1 : List AV) (a1_1 : Int) (a2_1 : Int) (a3_1 : Int) (a4_1 : Int) : f22 run n a0_1 a1_1 a2_1 a3_1 a4_1 =
  (run 15 [.slice a0_1, .int 0, .int a1_1]).bind fun r1 =>
    bif r1.fresh then
    nilV r1.outs (consV r1.vals fun v1 vs1 =>
    nilV vs1 (bif ltI 1024 (a0_1.length : Int) then
    some ⟨[.bool false], [], f22_fresh⟩
  else
    f22_l0 run n n a0_1 a1_1 a3_1 a4_1 v1.toSlice (mx2 a2_1 1)))
  else none := by kernel_rfl
theorem f22_run (ext : Run) (n : Nat) (a0_1 : List AV) (a1_1 : Int) (a2_1 : Int) (a3_1 : Int) (a4_1 : Int) : runE G ext (n + 1) 22 [.slice a0_1, .int a1_1, .int a2_1, .int a3_1, .int a4_1] = f22 (runE G ext n) n a0_1 a1_1 a2_1 a3_1 a4_1 := runE_succ f22_at f22_in

noncomputable def f28_l0 (run : Run) (n : Nat) (k0 : Nat) (x1_1 : Int) (m1 : Nat) (x12_1 : List AV) (x13_1 : Int) (x14_1 : Int) (o11_1 : List AV) : Option Res :=
  iterK (evalK G run n f28_keep 0 (sub [1, 1, 0, 1, 0, 0] f28_body)) f28_t0 f28_o0 (blockK 0 (seqK (evalK G run n f28_keep 0 (sub [1, 1, 1] f28_body) (retE G f28_info)) (retE G f28_info))) k0
    ⟨[.any, .val (.int .i64) none (.int x1_1), .any, .any, .any, .ref ⟨(.arr m1 (.int .i64)), 11, 1, []⟩ 0 m1, .any, .any, .any, .any, .any, .any, .val (.slice (.int .i64)) none (.slice x12_1), .val (.int .i64) none (.int x13_1), .val (.int .i64) none (.int x14_1), .any, .any, .any, .any, .any, .any, .any, .any, .any, .any, .any, .any, .any, .any, .any, .any, .any, .any, .any, .any, .any, .any, .any, .any], [⟨0, none⟩, ⟨0, none⟩, ⟨0, none⟩, ⟨0, none⟩, ⟨0, none⟩, ⟨0, none⟩, ⟨0, none⟩, ⟨0, none⟩, ⟨0, none⟩, ⟨0, none⟩, ⟨0, none⟩, ⟨1, some ⟨(.arr m1 (.int .i64)), .agg o11_1⟩⟩, ⟨0, none⟩, ⟨0, none⟩, ⟨0, none⟩, ⟨0, none⟩, ⟨0, none⟩, ⟨0, none⟩, ⟨0, none⟩, ⟨0, none⟩, ⟨0, none⟩, ⟨0, none⟩, ⟨0, none⟩, ⟨0, none⟩, ⟨0, none⟩, ⟨0, none⟩, ⟨0, none⟩, ⟨0, none⟩, ⟨0, none⟩, ⟨0, none⟩, ⟨0, none⟩, ⟨0, none⟩, ⟨0, none⟩, ⟨0, none⟩, ⟨0, none⟩, ⟨0, none⟩, ⟨0, none⟩, ⟨0, none⟩, ⟨0, none⟩], List.replicate 39 0⟩
theorem f28_l0_eq (run : Run) (n : Nat) (k0 : Nat) (x1_1 : Int) (m1 : Nat) (x12_1 : List AV) (x13_1 : Int) (x14_1 : Int) (o11_1 : List AV) : f28_l0 run n (k0 + 1) x1_1 m1 x12_1 x13_1 x14_1 o11_1 =
  bif ltI x14_1 x13_1 then
    bif inR x14_1 x12_1.length then
    bif inR x14_1 m1 then
    bif inR (IntKind.wrap .i64 (x14_1 + 1)) m1 then
    bif leI x1_1 ((nth x12_1 (Int.toNat x14_1)).toInt) then
    bif inR (IntKind.wrap .i64 (x14_1 + 1)) m1 then
    bif inR (IntKind.wrap .i64 (x14_1 + 1)) m1 then
    f28_l0 run n k0 x1_1 m1 x12_1 x13_1 (IntKind.wrap .i64 (x14_1 + 1)) ((o11_1.set (0 + (Int.toNat (IntKind.wrap .i64 (x14_1 + 1)))) (.int ((AV.fld (.agg o11_1) (0 + (Int.toNat x14_1))).toInt))).set (0 + (Int.toNat (IntKind.wrap .i64 (x14_1 + 1)))) (.int (IntKind.wrap .i64 ((AV.fld (.agg (o11_1.set (0 + (Int.toNat (IntKind.wrap .i64 (x14_1 + 1)))) (.int ((AV.fld (.agg o11_1) (0 + (Int.toNat x14_1))).toInt)))) (0 + (Int.toNat (IntKind.wrap .i64 (x14_1 + 1))))).toInt + 1))))
  else none
  else none
  else
    f28_l0 run n k0 x1_1 m1 x12_1 x13_1 (IntKind.wrap .i64 (x14_1 + 1)) (o11_1.set (0 + (Int.toNat (IntKind.wrap .i64 (x14_1 + 1)))) (.int ((AV.fld (.agg o11_1) (0 + (Int.toNat x14_1))).toInt)))
  else none
  else none
  else none
  else
    some ⟨[.slice (List.drop 0 (List.take m1 o11_1))], [], f28_fresh⟩ := by kernel_rfl
noncomputable def f28 (run : Run) (n : Nat) (a0_1 : List AV) (a1_1 : Int) : Option Res := evalK G run n f28_info.keep 0 f28_info.body (retE G f28_info) (f28_info.start [.slice a0_1, .int a1_1])
theorem f28_eq (run : Run) (n : Nat) (a0_1 : List AV) (a1_1 : Int) : f28 run n a0_1 a1_1 =
  bif eqI (IntKind.wrap .i64 ((a0_1.length : Int) + 1)) (IntKind.wrap .i64 ((a0_1.length : Int) + 1)) && leI 0 (IntKind.wrap .i64 ((a0_1.length : Int) + 1)) && Nat.ble (Int.toNat (IntKind.wrap .i64 ((a0_1.length : Int) + 1)) * 8) 140737488355328 then
    f28_l0 run n n a1_1 (Int.toNat (IntKind.wrap .i64 ((a0_1.length : Int) + 1))) a0_1 (a0_1.length : Int) 0 (List.replicate (Int.toNat (IntKind.wrap .i64 ((a0_1.length : Int) + 1))) (.int 0))
  else none := by kernel_rfl
theorem f28_run (ext : Run) (n : Nat) (a0_1 : List AV) (a1_1 : Int) : runE G ext (n + 1) 28 [.slice a0_1, .int a1_1] = f28 (runE G ext n) n a0_1 a1_1 := runE_succ f28_at f28_in

noncomputable def f34 (run : Run) (n : Nat) (a0_1 : Int) (a1_1 : Int) (a2_1 : Int) (a3_1 : Int) (a4_1 : Int) : Option Res := evalK G run n f34_info.keep 0 f34_info.body (retE G f34_info) (f34_info.start [.int a0_1, .int a1_1, .int a2_1, .int a3_1, .int a4_1])
theorem f34_eq (run : Run) (n : Nat) (a0_1 : Int) (a1_1 : Int) (a2_1 : Int) (a3_1 : Int) (a4_1 : Int) : f34 run n a0_1 a1_1 a2_1 a3_1 a4_1 =
  (run 39 [.int a0_1, .int a1_1, .int a2_1, .int a3_1, .int a4_1]).bind fun r1 =>
    nilV r1.outs (consV r1.vals fun v1 vs1 =>
    consV vs1 fun v2 vs2 =>
    consV vs2 fun v3 vs3 =>
    nilV vs3 (bif v3.toBool then
    (run 40 [.agg v1.toAgg, .agg v2.toAgg]).bind fun r2 =>
    nilV r2.outs (consV r2.vals fun v4 vs4 =>
    nilV vs4 (some ⟨[.bool (leI 0 v4.toInt)], [], f34_fresh⟩))
  else
    some ⟨[.bool false], [], f34_fresh⟩)) := by kernel_rfl
theorem f34_run (ext : Run) (n : Nat) (a0_1 : Int) (a1_1 : Int) (a2_1 : Int) (a3_1 : Int) (a4_1 : Int) : runE G ext (n + 1) 34 [.int a0_1, .int a1_1, .int a2_1, .int a3_1, .int a4_1] = f34 (runE G ext n) n a0_1 a1_1 a2_1 a3_1 a4_1 := runE_succ f34_at f34_in

noncomputable def f29_l2 (run : Run) (n : Nat) (k0 : Nat) (k2 : Nat) (x0_2 : List AV) (x1_2 : List AV) (x2_2 : Int) (x3_2 : Int) (x4_2 : Int) (x5_2 : Int) (x13_1 : Int) (x14_1 : Int) (x18_2 : Int) (x19_2 : Int) : Option Res :=
  iterK (evalK G run n f29_keep 2 (sub [1, 0, 1, 0, 0, 1, 1, 0, 0, 1, 1, 0, 0] f29_body)) f29_t2 f29_o2 (blockK 2 (blockK 1 (seqK (evalK G run n f29_keep 0 (sub [1, 0, 1, 0, 0, 1, 1, 1] f29_body) (seqK (fun t => iterK (evalK G run n f29_keep 0 (sub [1, 0, 1, 0, 0] f29_body)) f29_t0 f29_o0 (blockK 0 (seqK (evalK G run n f29_keep 0 (sub [1, 1] f29_body) (retE G f29_info)) (retE G f29_info))) k0 (t.clear f29_t0 f29_o0)) (blockK 0 (seqK (evalK G run n f29_keep 0 (sub [1, 1] f29_body) (retE G f29_info)) (retE G f29_info))))) (seqK (fun t => iterK (evalK G run n f29_keep 0 (sub [1, 0, 1, 0, 0] f29_body)) f29_t0 f29_o0 (blockK 0 (seqK (evalK G run n f29_keep 0 (sub [1, 1] f29_body) (retE G f29_info)) (retE G f29_info))) k0 (t.clear f29_t0 f29_o0)) (blockK 0 (seqK (evalK G run n f29_keep 0 (sub [1, 1] f29_body) (retE G f29_info)) (retE G f29_info))))))) k2
    ⟨[.val (.slice (.int .i64)) none (.slice x0_2), .val (.slice (.int .i64)) none (.slice x1_2), .val (.int .i64) none (.int x2_2), .val (.int .i64) none (.int x3_2), .val (.int .i64) none (.int x4_2), .val (.int .i64) none (.int x5_2), .any, .any, .any, .any, .any, .any, .any, .val (.int .i64) none (.int x13_1), .val (.int .i64) none (.int x14_1), .any, .any, .any, .val (.int .i64) none (.int x18_2), .val (.int .i64) none (.int x19_2), .any, .any, .any, .any, .any, .any, .any, .any, .any, .any, .any, .any, .any, .any, .any, .any, .any, .any, .any, .any, .any, .any, .any, .any, .any, .any, .any, .any, .any, .any, .any, .any, .any, .any, .any, .any, .any, .any, .any, .any, .any, .any, .any], [⟨0, none⟩, ⟨0, none⟩, ⟨0, none⟩, ⟨0, none⟩, ⟨0, none⟩, ⟨0, none⟩, ⟨0, none⟩, ⟨0, none⟩, ⟨0, none⟩, ⟨0, none⟩, ⟨0, none⟩, ⟨0, none⟩, ⟨0, none⟩, ⟨0, none⟩, ⟨0, none⟩, ⟨0, none⟩, ⟨0, none⟩, ⟨0, none⟩, ⟨0, none⟩, ⟨0, none⟩, ⟨0, none⟩, ⟨0, none⟩, ⟨0, none⟩, ⟨0, none⟩, ⟨0, none⟩, ⟨0, none⟩, ⟨0, none⟩, ⟨0, none⟩, ⟨0, none⟩, ⟨0, none⟩, ⟨0, none⟩, ⟨0, none⟩, ⟨0, none⟩, ⟨0, none⟩, ⟨0, none⟩, ⟨0, none⟩, ⟨0, none⟩, ⟨0, none⟩, ⟨0, none⟩, ⟨0, none⟩, ⟨0, none⟩, ⟨0, none⟩, ⟨0, none⟩, ⟨0, none⟩, ⟨0, none⟩, ⟨0, none⟩, ⟨0, none⟩, ⟨0, none⟩, ⟨0, none⟩, ⟨0, none⟩, ⟨0, none⟩, ⟨0, none⟩, ⟨0, none⟩, ⟨0, none⟩, ⟨0, none⟩, ⟨0, none⟩, ⟨0, none⟩, ⟨0, none⟩, ⟨0, none⟩, ⟨0, none⟩, ⟨0, none⟩, ⟨0, none⟩, ⟨0, none⟩], List.replicate 63 0⟩
noncomputable def f29_l0 (run : Run) (n : Nat) (k0 : Nat) (x0_1 : List AV) (x1_1 : List AV) (x2_1 : Int) (x3_1 : Int) (x4_1 : Int) (x5_1 : Int) (x18_1 : Int) (x19_1 : Int) : Option Res :=
  iterK (evalK G run n f29_keep 0 (sub [1, 0, 1, 0, 0] f29_body)) f29_t0 f29_o0 (blockK 0 (seqK (evalK G run n f29_keep 0 (sub [1, 1] f29_body) (retE G f29_info)) (retE G f29_info))) k0
    ⟨[.val (.slice (.int .i64)) none (.slice x0_1), .val (.slice (.int .i64)) none (.slice x1_1), .val (.int .i64) none (.int x2_1), .val (.int .i64) none (.int x3_1), .val (.int .i64) none (.int x4_1), .val (.int .i64) none (.int x5_1), .any, .any, .any, .any, .any, .any, .any, .any, .any, .any, .any, .any, .val (.int .i64) none (.int x18_1), .val (.int .i64) none (.int x19_1), .any, .any, .any, .any, .any, .any, .any, .any, .any, .any, .any, .any, .any, .any, .any, .any, .any, .any, .any, .any, .any, .any, .any, .any, .any, .any, .any, .any, .any, .any, .any, .any, .any, .any, .any, .any, .any, .any, .any, .any, .any, .any, .any], [⟨0, none⟩, ⟨0, none⟩, ⟨0, none⟩, ⟨0, none⟩, ⟨0, none⟩, ⟨0, none⟩, ⟨0, none⟩, ⟨0, none⟩, ⟨0, none⟩, ⟨0, none⟩, ⟨0, none⟩, ⟨0, none⟩, ⟨0, none⟩, ⟨0, none⟩, ⟨0, none⟩, ⟨0, none⟩, ⟨0, none⟩, ⟨0, none⟩, ⟨0, none⟩, ⟨0, none⟩, ⟨0, none⟩, ⟨0, none⟩, ⟨0, none⟩, ⟨0, none⟩, ⟨0, none⟩, ⟨0, none⟩, ⟨0, none⟩, ⟨0, none⟩, ⟨0, none⟩, ⟨0, none⟩, ⟨0, none⟩, ⟨0, none⟩, ⟨0, none⟩, ⟨0, none⟩, ⟨0, none⟩, ⟨0, none⟩, ⟨0, none⟩, ⟨0, none⟩, ⟨0, none⟩, ⟨0, none⟩, ⟨0, none⟩, ⟨0, none⟩, ⟨0, none⟩, ⟨0, none⟩, ⟨0, none⟩, ⟨0, none⟩, ⟨0, none⟩, ⟨0, none⟩, ⟨0, none⟩, ⟨0, none⟩, ⟨0, none⟩, ⟨0, none⟩, ⟨0, none⟩, ⟨0, none⟩, ⟨0, none⟩, ⟨0, none⟩, ⟨0, none⟩, ⟨0, none⟩, ⟨0, none⟩, ⟨0, none⟩, ⟨0, none⟩, ⟨0, none⟩, ⟨0, none⟩], List.replicate 63 0⟩
theorem f29_l2_eq (run : Run) (n : Nat) (k0 : Nat) (k2 : Nat) (x0_2 : List AV) (x1_2 : List AV) (x2_2 : Int) (x3_2 : Int) (x4_2 : Int) (x5_2 : Int) (x13_1 : Int) (x14_1 : Int) (x18_2 : Int) (x19_2 : Int) : f29_l2 run n k0 (k2 + 1) x0_2 x1_2 x2_2 x3_2 x4_2 x5_2 x13_1 x14_1 x18_2 x19_2 =
  bif ltI x14_1 (x1_2.length : Int) then
    bif inR x14_1 x0_2.length then
    bif inR x13_1 x0_2.length then
    bif inR x14_1 x1_2.length then
    bif inR x13_1 x1_2.length then
    bif leI x3_2 (IntKind.wrap .i64 ((nth x1_2 (Int.toNat x14_1)).toInt - (nth x1_2 (Int.toNat x13_1)).toInt)) then
    (run 34 [.int (IntKind.wrap .u32 (IntKind.wrap .i64 ((nth x0_2 (Int.toNat x14_1)).toInt - (nth x0_2 (Int.toNat x13_1)).toInt))), .int (IntKind.wrap .u32 (IntKind.wrap .i64 ((nth x1_2 (Int.toNat x14_1)).toInt - (nth x1_2 (Int.toNat x13_1)).toInt))), .int x2_2, .int x4_2, .int x5_2]).bind fun r1 =>
    nilV r1.outs (consV r1.vals fun v1 vs1 =>
    nilV vs1 (bif !v1.toBool then
    some ⟨[.bool false], [], f29_fresh⟩
  else
    f29_l2 run n k0 k2 x0_2 x1_2 x2_2 x3_2 x4_2 x5_2 x13_1 (IntKind.wrap .i64 (x14_1 + 1)) x18_2 x19_2))
  else
    f29_l2 run n k0 k2 x0_2 x1_2 x2_2 x3_2 x4_2 x5_2 x13_1 (IntKind.wrap .i64 (x14_1 + 1)) x18_2 x19_2
  else none
  else none
  else none
  else none
  else
    f29_l0 run n k0 x0_2 x1_2 x2_2 x3_2 x4_2 x5_2 x18_2 (IntKind.wrap .i64 (x19_2 + 1)) := by kernel_rfl
theorem f29_l0_eq (run : Run) (n : Nat) (k0 : Nat) (x0_1 : List AV) (x1_1 : List AV) (x2_1 : Int) (x3_1 : Int) (x4_1 : Int) (x5_1 : Int) (x18_1 : Int) (x19_1 : Int) : f29_l0 run n (k0 + 1) x0_1 x1_1 x2_1 x3_1 x4_1 x5_1 x18_1 x19_1 =
  bif ltI x19_1 x18_1 then
    f29_l2 run n k0 n x0_1 x1_1 x2_1 x3_1 x4_1 x5_1 x19_1 (IntKind.wrap .i64 (x19_1 + 1)) x18_1 x19_1
  else
    some ⟨[.bool true], [], f29_fresh⟩ := by kernel_rfl
noncomputable def f29 (run : Run) (n : Nat) (a0_1 : List AV) (a1_1 : List AV) (a2_1 : Int) (a3_1 : Int) (a4_1 : Int) (a5_1 : Int) : Option Res := evalK G run n f29_info.keep 0 f29_info.body (retE G f29_info) (f29_info.start [.slice a0_1, .slice a1_1, .int a2_1, .int a3_1, .int a4_1, .int a5_1])
theorem f29_eq (run : Run) (n : Nat) (a0_1 : List AV) (a1_1 : List AV) (a2_1 : Int) (a3_1 : Int) (a4_1 : Int) (a5_1 : Int) : f29 run n a0_1 a1_1 a2_1 a3_1 a4_1 a5_1 =
  f29_l0 run n n a0_1 a1_1 a2_1 a3_1 a4_1 a5_1 (a1_1.length : Int) 0 := by kernel_rfl
theorem f29_run (ext : Run) (n : Nat) (a0_1 : List AV) (a1_1 : List AV) (a2_1 : Int) (a3_1 : Int) (a4_1 : Int) (a5_1 : Int) : runE G ext (n + 1) 29 [.slice a0_1, .slice a1_1, .int a2_1, .int a3_1, .int a4_1, .int a5_1] = f29 (runE G ext n) n a0_1 a1_1 a2_1 a3_1 a4_1 a5_1 := runE_succ f29_at f29_in

noncomputable def f23_l0 (run : Run) (n : Nat) (k0 : Nat) (x0_1 : List AV) (x1_1 : Int) (x2_1 : Int) (x3_1 : Int) (x4_1 : Int) (x11_1 : List AV) (x24_1 : Int) (x25_1 : Int) : Option Res :=
  iterK (evalK G run n f23_keep 0 (sub [1, 1, 1, 0, 1, 0, 0] f23_body)) f23_t0 f23_o0 (blockK 0 (seqK (evalK G run n f23_keep 0 (sub [1, 1, 1, 1] f23_body) (retE G f23_info)) (retE G f23_info))) k0
    ⟨[.val (.slice (.int .i64)) none (.slice x0_1), .val (.int .i64) none (.int x1_1), .val (.int .i64) none (.int x2_1), .val (.int .i64) none (.int x3_1), .val (.int .i64) none (.int x4_1), .any, .any, .any, .any, .any, .any, .val (.slice (.int .i64)) none (.slice x11_1), .any, .any, .any, .any, .any, .any, .any, .any, .any, .any, .any, .any, .val (.int .i64) none (.int x24_1), .val (.int .i64) none (.int x25_1), .any, .any, .any, .any, .any, .any, .any, .any, .any, .any, .any, .any, .any, .any, .any, .any], [⟨0, none⟩, ⟨0, none⟩, ⟨0, none⟩, ⟨0, none⟩, ⟨0, none⟩, ⟨0, none⟩, ⟨0, none⟩, ⟨0, none⟩, ⟨0, none⟩, ⟨0, none⟩, ⟨0, none⟩, ⟨0, none⟩, ⟨0, none⟩, ⟨0, none⟩, ⟨0, none⟩, ⟨0, none⟩, ⟨0, none⟩, ⟨0, none⟩, ⟨0, none⟩, ⟨0, none⟩, ⟨0, none⟩, ⟨0, none⟩, ⟨0, none⟩, ⟨0, none⟩, ⟨0, none⟩, ⟨0, none⟩, ⟨0, none⟩, ⟨0, none⟩, ⟨0, none⟩, ⟨0, none⟩, ⟨0, none⟩, ⟨0, none⟩, ⟨0, none⟩, ⟨0, none⟩, ⟨0, none⟩, ⟨0, none⟩, ⟨0, none⟩, ⟨0, none⟩, ⟨0, none⟩, ⟨0, none⟩, ⟨0, none⟩, ⟨0, none⟩], List.replicate 42 0⟩
theorem f23_l0_eq (run : Run) (n : Nat) (k0 : Nat) (x0_1 : List AV) (x1_1 : Int) (x2_1 : Int) (x3_1 : Int) (x4_1 : Int) (x11_1 : List AV) (x24_1 : Int) (x25_1 : Int) : f23_l0 run n (k0 + 1) x0_1 x1_1 x2_1 x3_1 x4_1 x11_1 x24_1 x25_1 =
  bif ltI x25_1 x24_1 then
    (run 28 [.slice x0_1, .int x25_1]).bind fun r2 =>
    nilV r2.outs (consV r2.vals fun v2 vs2 =>
    nilV vs2 ((run 29 [.slice x11_1, .slice v2.toSlice, .int (IntKind.wrap .i64 (x1_1 - x25_1)), .int (mx2 x2_1 1), .int x3_1, .int x4_1]).bind fun r3 =>
    nilV r3.outs (consV r3.vals fun v3 vs3 =>
    nilV vs3 (bif !v3.toBool then
    some ⟨[.bool false], [], f23_fresh⟩
  else
    f23_l0 run n k0 x0_1 x1_1 x2_1 x3_1 x4_1 x11_1 x24_1 (IntKind.wrap .i64 (x25_1 + 1))))))
  else
    some ⟨[.bool true], [], f23_fresh⟩ := by kernel_rfl
noncomputable def f23 (run : Run) (n : Nat) (a0_1 : List AV) (a1_1 : Int) (a2_1 : Int) (a3_1 : Int) (a4_1 : Int) : Option Res := evalK G run n f23_info.keep 0 f23_info.body (retE G f23_info) (f23_info.start [.slice a0_1, .int a1_1, .int a2_1, .int a3_1, .int a4_1])
theorem f23_eq (run : Run) (n : Nat) (a0_1 : List AV) (a1_1 : Int) (a2_1 : Int) (a3_1 : Int) (a4_1 : Int) : f23 run n a0_1 a1_1 a2_1 a3_1 a4_1 =
  bif ltI 1024 (a0_1.length : Int) then
    some ⟨[.bool false], [], f23_fresh⟩
  else
    bif ltI 255 a1_1 then
    some ⟨[.bool false], [], f23_fresh⟩
  else
    (run 28 [.slice a0_1, .int a1_1]).bind fun r1 =>
    nilV r1.outs (consV r1.vals fun v1 vs1 =>
    nilV vs1 (f23_l0 run n n a0_1 a1_1 a2_1 a3_1 a4_1 v1.toSlice (mx2 a1_1 0) 0)) := by kernel_rfl
theorem f23_run (ext : Run) (n : Nat) (a0_1 : List AV) (a1_1 : Int) (a2_1 : Int) (a3_1 : Int) (a4_1 : Int) : runE G ext (n + 1) 23 [.slice a0_1, .int a1_1, .int a2_1, .int a3_1, .int a4_1] = f23 (runE G ext n) n a0_1 a1_1 a2_1 a3_1 a4_1 := runE_succ f23_at f23_in

noncomputable def f19 (run : Run) (n : Nat) (a0_1 : List AV) (a1_1 : Int) (a2_1 : Int) (a3_1 : Int) (a4_1 : Int) : Option Res := evalK G run n f19_info.keep 0 f19_info.body (retE G f19_info) (f19_info.start [.slice a0_1, .int a1_1, .int a2_1, .int a3_1, .int a4_1])
theorem f19_eq (run : Run) (n : Nat) (a0_1 : List AV) (a1_1 : Int) (a2_1 : Int) (a3_1 : Int) (a4_1 : Int) : f19 run n a0_1 a1_1 a2_1 a3_1 a4_1 =
  (run 22 [.slice a0_1, .int a1_1, .int a2_1, .int a3_1, .int a4_1]).bind fun r1 =>
    nilV r1.outs (consV r1.vals fun v1 vs1 =>
    nilV vs1 (bif v1.toBool then
    (run 23 [.slice a0_1, .int a1_1, .int a2_1, .int a3_1, .int a4_1]).bind fun r2 =>
    nilV r2.outs (consV r2.vals fun v2 vs2 =>
    nilV vs2 (some ⟨[.bool v2.toBool], [], f19_fresh⟩))
  else
    some ⟨[.bool false], [], f19_fresh⟩)) := by kernel_rfl
theorem f19_run (ext : Run) (n : Nat) (a0_1 : List AV) (a1_1 : Int) (a2_1 : Int) (a3_1 : Int) (a4_1 : Int) : runE G ext (n + 1) 19 [.slice a0_1, .int a1_1, .int a2_1, .int a3_1, .int a4_1] = f19 (runE G ext n) n a0_1 a1_1 a2_1 a3_1 a4_1 := runE_succ f19_at f19_in

noncomputable def f12 (run : Run) (n : Nat) (a0_1 : List AV) (a1_1 : Int) (a2_1 : Int) (a3_1 : Int) (a4_1 : Int) (a5_1 : Int) : Option Res := evalK G run n f12_info.keep 0 f12_info.body (retE G f12_info) (f12_info.start [.slice a0_1, .int a1_1, .int a2_1, .int a3_1, .int a4_1, .int a5_1])
theorem f12_eq (run : Run) (n : Nat) (a0_1 : List AV) (a1_1 : Int) (a2_1 : Int) (a3_1 : Int) (a4_1 : Int) (a5_1 : Int) : f12 run n a0_1 a1_1 a2_1 a3_1 a4_1 a5_1 =
  (run 15 [.slice a0_1, .int a1_1, .int a2_1]).bind fun r1 =>
    bif r1.fresh then
    nilV r1.outs (consV r1.vals fun v1 vs1 =>
    nilV vs1 (bif ltI a3_1 1 then
    some ⟨[.int a1_1], [], f12_fresh⟩
  else
    bif leI (v1.toSlice.length : Int) a3_1 then
    some ⟨[.int a1_1], [], f12_fresh⟩
  else
    bif ltI a1_1 0 then
    some ⟨[.int a1_1], [], f12_fresh⟩
  else
    bif boundsOk a1_1 (a0_1.length : Int) (a0_1.length : Int) (a0_1.length : Int) && true then
    (run 19 [.slice (List.drop (Int.toNat a1_1) (List.take (Int.toNat (a0_1.length : Int)) a0_1)), .int a2_1, .int a3_1, .int a4_1, .int a5_1]).bind fun r2 =>
    nilV r2.outs (consV r2.vals fun v2 vs2 =>
    nilV vs2 (bif !v2.toBool then
    some ⟨[.int a1_1], [], f12_fresh⟩
  else
    bif inR (IntKind.wrap .i64 ((v1.toSlice.length : Int) - a3_1)) v1.toSlice.length then
    some ⟨[.int ((nth v1.toSlice (Int.toNat (IntKind.wrap .i64 ((v1.toSlice.length : Int) - a3_1)))).toInt)], [], f12_fresh⟩
  else none))
  else none))
  else none := by kernel_rfl
theorem f12_run (ext : Run) (n : Nat) (a0_1 : List AV) (a1_1 : Int) (a2_1 : Int) (a3_1 : Int) (a4_1 : Int) (a5_1 : Int) : runE G ext (n + 1) 12 [.slice a0_1, .int a1_1, .int a2_1, .int a3_1, .int a4_1, .int a5_1] = f12 (runE G ext n) n a0_1 a1_1 a2_1 a3_1 a4_1 a5_1 := runE_succ f12_at f12_in

noncomputable def f8_l2 (run : Run) (n : Nat) (k0 : Nat) (k2 : Nat) (x1_2 : Int) (x3_2 : Int) (x4_2 : Int) (x11_2 : List AV) (m2 : Nat) (x13_2 : Int) (x14_2 : Int) (x55_1 : List AV) (x56_1 : Int) (x57_1 : Int) (o45_2 : List AV) : Option Res :=
  iterK (evalK G run n f8_keep 2 (sub [1, 1, 1, 1, 1, 0, 1, 0, 0, 1, 0, 0, 0, 1, 0, 0] f8_body)) f8_t2 f8_o2 (blockK 2 (seqK (evalK G run n f8_keep 1 (sub [1, 1, 1, 1, 1, 0, 1, 0, 0, 1, 0, 0, 1] f8_body) (blockK 1 (seqK (evalK G run n f8_keep 0 (sub [1, 1, 1, 1, 1, 0, 1, 0, 0, 1, 1] f8_body) (seqK (fun t => iterK (evalK G run n f8_keep 0 (sub [1, 1, 1, 1, 1, 0, 1, 0, 0] f8_body)) f8_t0 f8_o0 (blockK 0 (seqK (evalK G run n f8_keep 0 (sub [1, 1, 1, 1, 1, 1] f8_body) (retE G f8_info)) (retE G f8_info))) k0 (t.clear f8_t0 f8_o0)) (blockK 0 (seqK (evalK G run n f8_keep 0 (sub [1, 1, 1, 1, 1, 1] f8_body) (retE G f8_info)) (retE G f8_info))))) (seqK (fun t => iterK (evalK G run n f8_keep 0 (sub [1, 1, 1, 1, 1, 0, 1, 0, 0] f8_body)) f8_t0 f8_o0 (blockK 0 (seqK (evalK G run n f8_keep 0 (sub [1, 1, 1, 1, 1, 1] f8_body) (retE G f8_info)) (retE G f8_info))) k0 (t.clear f8_t0 f8_o0)) (blockK 0 (seqK (evalK G run n f8_keep 0 (sub [1, 1, 1, 1, 1, 1] f8_body) (retE G f8_info)) (retE G f8_info))))))) (blockK 1 (seqK (evalK G run n f8_keep 0 (sub [1, 1, 1, 1, 1, 0, 1, 0, 0, 1, 1] f8_body) (seqK (fun t => iterK (evalK G run n f8_keep 0 (sub [1, 1, 1, 1, 1, 0, 1, 0, 0] f8_body)) f8_t0 f8_o0 (blockK 0 (seqK (evalK G run n f8_keep 0 (sub [1, 1, 1, 1, 1, 1] f8_body) (retE G f8_info)) (retE G f8_info))) k0 (t.clear f8_t0 f8_o0)) (blockK 0 (seqK (evalK G run n f8_keep 0 (sub [1, 1, 1, 1, 1, 1] f8_body) (retE G f8_info)) (retE G f8_info))))) (seqK (fun t => iterK (evalK G run n f8_keep 0 (sub [1, 1, 1, 1, 1, 0, 1, 0, 0] f8_body)) f8_t0 f8_o0 (blockK 0 (seqK (evalK G run n f8_keep 0 (sub [1, 1, 1, 1, 1, 1] f8_body) (retE G f8_info)) (retE G f8_info))) k0 (t.clear f8_t0 f8_o0)) (blockK 0 (seqK (evalK G run n f8_keep 0 (sub [1, 1, 1, 1, 1, 1] f8_body) (retE G f8_info)) (retE G f8_info)))))))) k2
    ⟨[.any, .val (.int .i64) none (.int x1_2), .any, .val (.int .i64) none (.int x3_2), .val (.int .i64) none (.int x4_2), .any, .any, .any, .any, .any, .any, .val (.slice (.int .i64)) none (.slice x11_2), .ref ⟨(.arr m2 .bool), 45, 1, []⟩ 0 m2, .val (.int .i64) none (.int x13_2), .val (.int .i64) none (.int x14_2), .any, .any, .any, .any, .any, .any, .any, .any, .any, .any, .any, .any, .any, .any, .any, .any, .any, .any, .any, .any, .any, .any, .any, .any, .any, .any, .any, .any, .any, .any, .any, .any, .any, .any, .any, .any, .any, .any, .any, .any, .val (.slice (.int .i64)) (some (55, 0)) (.slice x55_1), .val (.int .i64) none (.int x56_1), .val (.int .i64) none (.int x57_1), .any, .any, .any, .any, .any, .any, .any, .any, .any, .any, .any, .any, .any, .any, .any, .any, .any, .any, .any, .any, .any, .any, .any, .any, .any, .any, .any, .any], [⟨0, none⟩, ⟨0, none⟩, ⟨0, none⟩, ⟨0, none⟩, ⟨0, none⟩, ⟨0, none⟩, ⟨0, none⟩, ⟨0, none⟩, ⟨0, none⟩, ⟨0, none⟩, ⟨0, none⟩, ⟨0, none⟩, ⟨0, none⟩, ⟨0, none⟩, ⟨0, none⟩, ⟨0, none⟩, ⟨0, none⟩, ⟨0, none⟩, ⟨0, none⟩, ⟨0, none⟩, ⟨0, none⟩, ⟨0, none⟩, ⟨0, none⟩, ⟨0, none⟩, ⟨0, none⟩, ⟨0, none⟩, ⟨0, none⟩, ⟨0, none⟩, ⟨0, none⟩, ⟨0, none⟩, ⟨0, none⟩, ⟨0, none⟩, ⟨0, none⟩, ⟨0, none⟩, ⟨0, none⟩, ⟨0, none⟩, ⟨0, none⟩, ⟨0, none⟩, ⟨0, none⟩, ⟨0, none⟩, ⟨0, none⟩, ⟨0, none⟩, ⟨0, none⟩, ⟨0, none⟩, ⟨0, none⟩, ⟨1, some ⟨(.arr m2 .bool), .agg o45_2⟩⟩, ⟨0, none⟩, ⟨0, none⟩, ⟨0, none⟩, ⟨0, none⟩, ⟨0, none⟩, ⟨0, none⟩, ⟨0, none⟩, ⟨0, none⟩, ⟨0, none⟩, ⟨0, none⟩, ⟨0, none⟩, ⟨0, none⟩, ⟨0, none⟩, ⟨0, none⟩, ⟨0, none⟩, ⟨0, none⟩, ⟨0, none⟩, ⟨0, none⟩, ⟨0, none⟩, ⟨0, none⟩, ⟨0, none⟩, ⟨0, none⟩, ⟨0, none⟩, ⟨0, none⟩, ⟨0, none⟩, ⟨0, none⟩, ⟨0, none⟩, ⟨0, none⟩, ⟨0, none⟩, ⟨0, none⟩, ⟨0, none⟩, ⟨0, none⟩, ⟨0, none⟩, ⟨0, none⟩, ⟨0, none⟩, ⟨0, none⟩, ⟨0, none⟩, ⟨0, none⟩, ⟨0, none⟩, ⟨0, none⟩], List.replicate 86 0⟩
noncomputable def f8_l4 (run : Run) (n : Nat) (_k0 : Nat) (k4 : Nat) (x17_1 : List AV) (m5 : Nat) (x73_1 : Int) (x74_1 : Int) (o45_5 : List AV) : Option Res :=
  iterK (evalK G run n f8_keep 4 (sub [1, 1, 1, 1, 1, 1, 1, 0, 1, 0, 0] f8_body)) f8_t4 f8_o4 (blockK 4 (seqK (evalK G run n f8_keep 0 (sub [1, 1, 1, 1, 1, 1, 1, 1] f8_body) (retE G f8_info)) (retE G f8_info))) k4
    ⟨[.any, .any, .any, .any, .any, .any, .any, .any, .any, .any, .any, .any, .any, .any, .any, .any, .any, .val (.slice (.int .i64)) (some (17, 0)) (.slice x17_1), .any, .any, .any, .any, .any, .any, .any, .any, .any, .any, .any, .any, .any, .any, .any, .any, .any, .any, .any, .any, .any, .any, .any, .any, .any, .any, .any, .any, .any, .any, .any, .any, .any, .any, .any, .any, .any, .any, .any, .any, .any, .any, .any, .any, .any, .any, .any, .any, .any, .any, .any, .any, .any, .any, .ref ⟨(.arr m5 .bool), 45, 1, []⟩ 0 m5, .val (.int .i64) none (.int x73_1), .val (.int .i64) none (.int x74_1), .any, .any, .any, .any, .any, .any, .any, .any, .any, .any, .any], [⟨0, none⟩, ⟨0, none⟩, ⟨0, none⟩, ⟨0, none⟩, ⟨0, none⟩, ⟨0, none⟩, ⟨0, none⟩, ⟨0, none⟩, ⟨0, none⟩, ⟨0, none⟩, ⟨0, none⟩, ⟨0, none⟩, ⟨0, none⟩, ⟨0, none⟩, ⟨0, none⟩, ⟨0, none⟩, ⟨0, none⟩, ⟨0, none⟩, ⟨0, none⟩, ⟨0, none⟩, ⟨0, none⟩, ⟨0, none⟩, ⟨0, none⟩, ⟨0, none⟩, ⟨0, none⟩, ⟨0, none⟩, ⟨0, none⟩, ⟨0, none⟩, ⟨0, none⟩, ⟨0, none⟩, ⟨0, none⟩, ⟨0, none⟩, ⟨0, none⟩, ⟨0, none⟩, ⟨0, none⟩, ⟨0, none⟩, ⟨0, none⟩, ⟨0, none⟩, ⟨0, none⟩, ⟨0, none⟩, ⟨0, none⟩, ⟨0, none⟩, ⟨0, none⟩, ⟨0, none⟩, ⟨0, none⟩, ⟨1, some ⟨(.arr m5 .bool), .agg o45_5⟩⟩, ⟨0, none⟩, ⟨0, none⟩, ⟨0, none⟩, ⟨0, none⟩, ⟨0, none⟩, ⟨0, none⟩, ⟨0, none⟩, ⟨0, none⟩, ⟨0, none⟩, ⟨0, none⟩, ⟨0, none⟩, ⟨0, none⟩, ⟨0, none⟩, ⟨0, none⟩, ⟨0, none⟩, ⟨0, none⟩, ⟨0, none⟩, ⟨0, none⟩, ⟨0, none⟩, ⟨0, none⟩, ⟨0, none⟩, ⟨0, none⟩, ⟨0, none⟩, ⟨0, none⟩, ⟨0, none⟩, ⟨0, none⟩, ⟨0, none⟩, ⟨0, none⟩, ⟨0, none⟩, ⟨0, none⟩, ⟨0, none⟩, ⟨0, none⟩, ⟨0, none⟩, ⟨0, none⟩, ⟨0, none⟩, ⟨0, none⟩, ⟨0, none⟩, ⟨0, none⟩, ⟨0, none⟩, ⟨0, none⟩], List.replicate 86 0⟩
noncomputable def f8_l0 (run : Run) (n : Nat) (k0 : Nat) (x1_1 : Int) (x3_1 : Int) (x4_1 : Int) (x11_1 : List AV) (m1 : Nat) (x13_1 : Int) (x14_1 : Int) (o45_1 : List AV) : Option Res :=
  iterK (evalK G run n f8_keep 0 (sub [1, 1, 1, 1, 1, 0, 1, 0, 0] f8_body)) f8_t0 f8_o0 (blockK 0 (seqK (evalK G run n f8_keep 0 (sub [1, 1, 1, 1, 1, 1] f8_body) (retE G f8_info)) (retE G f8_info))) k0
    ⟨[.any, .val (.int .i64) none (.int x1_1), .any, .val (.int .i64) none (.int x3_1), .val (.int .i64) none (.int x4_1), .any, .any, .any, .any, .any, .any, .val (.slice (.int .i64)) none (.slice x11_1), .ref ⟨(.arr m1 .bool), 45, 1, []⟩ 0 m1, .val (.int .i64) none (.int x13_1), .val (.int .i64) none (.int x14_1), .any, .any, .any, .any, .any, .any, .any, .any, .any, .any, .any, .any, .any, .any, .any, .any, .any, .any, .any, .any, .any, .any, .any, .any, .any, .any, .any, .any, .any, .any, .any, .any, .any, .any, .any, .any, .any, .any, .any, .any, .any, .any, .any, .any, .any, .any, .any, .any, .any, .any, .any, .any, .any, .any, .any, .any, .any, .any, .any, .any, .any, .any, .any, .any, .any, .any, .any, .any, .any, .any, .any], [⟨0, none⟩, ⟨0, none⟩, ⟨0, none⟩, ⟨0, none⟩, ⟨0, none⟩, ⟨0, none⟩, ⟨0, none⟩, ⟨0, none⟩, ⟨0, none⟩, ⟨0, none⟩, ⟨0, none⟩, ⟨0, none⟩, ⟨0, none⟩, ⟨0, none⟩, ⟨0, none⟩, ⟨0, none⟩, ⟨0, none⟩, ⟨0, none⟩, ⟨0, none⟩, ⟨0, none⟩, ⟨0, none⟩, ⟨0, none⟩, ⟨0, none⟩, ⟨0, none⟩, ⟨0, none⟩, ⟨0, none⟩, ⟨0, none⟩, ⟨0, none⟩, ⟨0, none⟩, ⟨0, none⟩, ⟨0, none⟩, ⟨0, none⟩, ⟨0, none⟩, ⟨0, none⟩, ⟨0, none⟩, ⟨0, none⟩, ⟨0, none⟩, ⟨0, none⟩, ⟨0, none⟩, ⟨0, none⟩, ⟨0, none⟩, ⟨0, none⟩, ⟨0, none⟩, ⟨0, none⟩, ⟨0, none⟩, ⟨1, some ⟨(.arr m1 .bool), .agg o45_1⟩⟩, ⟨0, none⟩, ⟨0, none⟩, ⟨0, none⟩, ⟨0, none⟩, ⟨0, none⟩, ⟨0, none⟩, ⟨0, none⟩, ⟨0, none⟩, ⟨0, none⟩, ⟨0, none⟩, ⟨0, none⟩, ⟨0, none⟩, ⟨0, none⟩, ⟨0, none⟩, ⟨0, none⟩, ⟨0, none⟩, ⟨0, none⟩, ⟨0, none⟩, ⟨0, none⟩, ⟨0, none⟩, ⟨0, none⟩, ⟨0, none⟩, ⟨0, none⟩, ⟨0, none⟩, ⟨0, none⟩, ⟨0, none⟩, ⟨0, none⟩, ⟨0, none⟩, ⟨0, none⟩, ⟨0, none⟩, ⟨0, none⟩, ⟨0, none⟩, ⟨0, none⟩, ⟨0, none⟩, ⟨0, none⟩, ⟨0, none⟩, ⟨0, none⟩, ⟨0, none⟩, ⟨0, none⟩, ⟨0, none⟩], List.replicate 86 0⟩
theorem f8_l2_eq (run : Run) (n : Nat) (k0 : Nat) (k2 : Nat) (x1_2 : Int) (x3_2 : Int) (x4_2 : Int) (x11_2 : List AV) (m2 : Nat) (x13_2 : Int) (x14_2 : Int) (x55_1 : List AV) (x56_1 : Int) (x57_1 : Int) (o45_2 : List AV) : f8_l2 run n k0 (k2 + 1) x1_2 x3_2 x4_2 x11_2 m2 x13_2 x14_2 x55_1 x56_1 x57_1 o45_2 =
  bif ltI x57_1 x56_1 then
    bif inR x57_1 x55_1.length then
    bif inR ((nth x55_1 (Int.toNat x57_1)).toInt) m2 then
    f8_l2 run n k0 k2 x1_2 x3_2 x4_2 x11_2 m2 x13_2 x14_2 x55_1 x56_1 (IntKind.wrap .i64 (x57_1 + 1)) (o45_2.set (0 + (Int.toNat ((nth x55_1 (Int.toNat x57_1)).toInt))) (.bool true))
  else none
  else none
  else
    (run 12 [.slice x11_2, .int x13_2, .int x14_2, .int x1_2, .int x3_2, .int x4_2]).bind fun r4 =>
    nilV r4.outs (consV r4.vals fun v4 vs4 =>
    nilV vs4 (f8_l0 run n k0 x1_2 x3_2 x4_2 x11_2 m2 v4.toInt (IntKind.wrap .i64 (x14_2 - 1)) o45_2)) := by kernel_rfl
theorem f8_l4_eq (run : Run) (n : Nat) (k0 : Nat) (k4 : Nat) (x17_1 : List AV) (m5 : Nat) (x73_1 : Int) (x74_1 : Int) (o45_5 : List AV) : f8_l4 run n k0 (k4 + 1) x17_1 m5 x73_1 x74_1 o45_5 =
  bif ltI x74_1 x73_1 then
    bif inR x74_1 m5 then
    bif (AV.fld (.agg o45_5) (0 + (Int.toNat x74_1))).toBool then
    bif Nat.ble ((x17_1.length + 1) * 8) 140737488355328 then
    f8_l4 run n k0 k4 (x17_1 ++ [.int x74_1]) m5 x73_1 (IntKind.wrap .i64 (x74_1 + 1)) o45_5
  else none
  else
    f8_l4 run n k0 k4 x17_1 m5 x73_1 (IntKind.wrap .i64 (x74_1 + 1)) o45_5
  else none
  else
    some ⟨[.slice x17_1], [], f8_fresh⟩ := by kernel_rfl
theorem f8_l0_eq (run : Run) (n : Nat) (k0 : Nat) (x1_1 : Int) (x3_1 : Int) (x4_1 : Int) (x11_1 : List AV) (m1 : Nat) (x13_1 : Int) (x14_1 : Int) (o45_1 : List AV) : f8_l0 run n (k0 + 1) x1_1 x3_1 x4_1 x11_1 m1 x13_1 x14_1 o45_1 =
  bif leI 0 x14_1 then
    (run 15 [.slice x11_1, .int x13_1, .int x14_1]).bind fun r3 =>
    bif r3.fresh then
    nilV r3.outs (consV r3.vals fun v3 vs3 =>
    nilV vs3 (f8_l2 run n k0 n x1_1 x3_1 x4_1 x11_1 m1 x13_1 x14_1 v3.toSlice (v3.toSlice.length : Int) 0 o45_1))
  else none
  else
    f8_l4 run n k0 n [] m1 (m1 : Int) 0 o45_1 := by kernel_rfl
noncomputable def f8 (run : Run) (n : Nat) (a0_1 : List AV) (a1_1 : Int) (a2_1 : Int) (a3_1 : Int) (a4_1 : Int) : Option Res := evalK G run n f8_info.keep 0 f8_info.body (retE G f8_info) (f8_info.start [.slice a0_1, .int a1_1, .int a2_1, .int a3_1, .int a4_1])
theorem f8_eq (run : Run) (n : Nat) (a0_1 : List AV) (a1_1 : Int) (a2_1 : Int) (a3_1 : Int) (a4_1 : Int) : f8 run n a0_1 a1_1 a2_1 a3_1 a4_1 =
  (run 10 [.int a1_1, .int a2_1, .int a3_1, .int a4_1]).bind fun r1 =>
    nilV r1.outs (consV r1.vals fun v1 vs1 =>
    nilV vs1 (bif !v1.toBool then
    some ⟨[.slice []], [], f8_fresh⟩
  else
    bif leI (a0_1.length : Int) a2_1 then
    some ⟨[.slice []], [], f8_fresh⟩
  else
    bif ltI 1024 (a0_1.length : Int) then
    some ⟨[.slice []], [], f8_fresh⟩
  else
    bif boundsOk 0 (IntKind.wrap .i64 ((a0_1.length : Int) - a2_1)) (a0_1.length : Int) (a0_1.length : Int) && true then
    bif eqI ((List.drop 0 (List.take (Int.toNat (IntKind.wrap .i64 ((a0_1.length : Int) - a2_1))) a0_1)).length : Int) ((List.drop 0 (List.take (Int.toNat (IntKind.wrap .i64 ((a0_1.length : Int) - a2_1))) a0_1)).length : Int) && leI 0 ((List.drop 0 (List.take (Int.toNat (IntKind.wrap .i64 ((a0_1.length : Int) - a2_1))) a0_1)).length : Int) && Nat.ble (Int.toNat ((List.drop 0 (List.take (Int.toNat (IntKind.wrap .i64 ((a0_1.length : Int) - a2_1))) a0_1)).length : Int) * 1) 140737488355328 then
    (run 14 [.slice (List.drop 0 (List.take (Int.toNat (IntKind.wrap .i64 ((a0_1.length : Int) - a2_1))) a0_1))]).bind fun r2 =>
    nilV r2.outs (consV r2.vals fun v2 vs2 =>
    nilV vs2 (f8_l0 run n n a1_1 a3_1 a4_1 (List.drop 0 (List.take (Int.toNat (IntKind.wrap .i64 ((a0_1.length : Int) - a2_1))) a0_1)) (Int.toNat ((List.drop 0 (List.take (Int.toNat (IntKind.wrap .i64 ((a0_1.length : Int) - a2_1))) a0_1)).length : Int)) 0 v2.toInt (List.replicate (Int.toNat ((List.drop 0 (List.take (Int.toNat (IntKind.wrap .i64 ((a0_1.length : Int) - a2_1))) a0_1)).length : Int)) (.bool false))))
  else none
  else none)) := by kernel_rfl
theorem f8_run (ext : Run) (n : Nat) (a0_1 : List AV) (a1_1 : Int) (a2_1 : Int) (a3_1 : Int) (a4_1 : Int) : runE G ext (n + 1) 8 [.slice a0_1, .int a1_1, .int a2_1, .int a3_1, .int a4_1] = f8 (runE G ext n) n a0_1 a1_1 a2_1 a3_1 a4_1 := runE_succ f8_at f8_in

noncomputable def f7_l0 (run : Run) (n : Nat) (k0 : Nat) (x0_1 : List AV) (x1_1 : List AV) (x5_1 : Int) : Option Res :=
  iterK (evalK G run n f7_keep 0 (sub [1, 1, 0, 1, 0, 0] f7_body)) f7_t0 f7_o0 (blockK 0 (seqK (evalK G run n f7_keep 0 (sub [1, 1, 1] f7_body) (retE G f7_info)) (retE G f7_info))) k0
    ⟨[.val (.slice (.int .i64)) none (.slice x0_1), .val (.slice (.int .i64)) none (.slice x1_1), .any, .any, .any, .val (.int .i64) none (.int x5_1), .any, .any, .any, .any, .any, .any, .any, .any, .any, .any, .any, .any, .any, .any, .any, .any, .any, .any, .any, .any], [⟨0, none⟩, ⟨0, none⟩, ⟨0, none⟩, ⟨0, none⟩, ⟨0, none⟩, ⟨0, none⟩, ⟨0, none⟩, ⟨0, none⟩, ⟨0, none⟩, ⟨0, none⟩, ⟨0, none⟩, ⟨0, none⟩, ⟨0, none⟩, ⟨0, none⟩, ⟨0, none⟩, ⟨0, none⟩, ⟨0, none⟩, ⟨0, none⟩, ⟨0, none⟩, ⟨0, none⟩, ⟨0, none⟩, ⟨0, none⟩, ⟨0, none⟩, ⟨0, none⟩, ⟨0, none⟩, ⟨0, none⟩], List.replicate 26 0⟩
theorem f7_l0_eq (run : Run) (n : Nat) (k0 : Nat) (x0_1 : List AV) (x1_1 : List AV) (x5_1 : Int) : f7_l0 run n (k0 + 1) x0_1 x1_1 x5_1 =
  bif ltI x5_1 (x0_1.length : Int) then
    bif inR x5_1 x0_1.length then
    bif inR x5_1 x1_1.length then
    bif !(eqI ((nth x0_1 (Int.toNat x5_1)).toInt) ((nth x1_1 (Int.toNat x5_1)).toInt)) then
    some ⟨[.bool false], [], f7_fresh⟩
  else
    f7_l0 run n k0 x0_1 x1_1 (IntKind.wrap .i64 (x5_1 + 1))
  else none
  else none
  else
    some ⟨[.bool true], [], f7_fresh⟩ := by kernel_rfl
noncomputable def f7 (run : Run) (n : Nat) (a0_1 : List AV) (a1_1 : List AV) : Option Res := evalK G run n f7_info.keep 0 f7_info.body (retE G f7_info) (f7_info.start [.slice a0_1, .slice a1_1])
theorem f7_eq (run : Run) (n : Nat) (a0_1 : List AV) (a1_1 : List AV) : f7 run n a0_1 a1_1 =
  bif !(eqI (a0_1.length : Int) (a1_1.length : Int)) then
    some ⟨[.bool false], [], f7_fresh⟩
  else
    f7_l0 run n n a0_1 a1_1 0 := by kernel_rfl
theorem f7_run (ext : Run) (n : Nat) (a0_1 : List AV) (a1_1 : List AV) : runE G ext (n + 1) 7 [.slice a0_1, .slice a1_1] = f7 (runE G ext n) n a0_1 a1_1 := runE_succ f7_at f7_in

noncomputable def f6 (run : Run) (n : Nat) : Option Res := evalK G run n f6_info.keep 0 f6_info.body (retE G f6_info) (f6_info.start [])
theorem f6_eq (run : Run) (n : Nat) : f6 run n  =
  (run 8 [.slice [.int 256, .int 0, .int 0], .int 1, .int 1, .int 1, .int 2]).bind fun r1 =>
    bif r1.fresh then
    nilV r1.outs (consV r1.vals fun v1 vs1 =>
    nilV vs1 ((run 7 [.slice v1.toSlice, .slice [.int 0, .int 1]]).bind fun r2 =>
    nilV r2.outs (consV r2.vals fun v2 vs2 =>
    nilV vs2 (bif v2.toBool then
    (run 10 [.int 1, .int 1, .int 1, .int 2]).bind fun r3 =>
    nilV r3.outs (consV r3.vals fun v3 vs3 =>
    nilV vs3 (bif v3.toBool then
    (run 10 [.int 0, .int 1, .int 1, .int 2]).bind fun r4 =>
    nilV r4.outs (consV r4.vals fun v4 vs4 =>
    nilV vs4 (some ⟨[.bool (!v4.toBool)], [], f6_fresh⟩))
  else
    some ⟨[.bool false], [], f6_fresh⟩))
  else
    some ⟨[.bool false], [], f6_fresh⟩))))
  else none := by kernel_rfl
theorem f6_run (ext : Run) (n : Nat) : runE G ext (n + 1) 6 [] = f6 (runE G ext n) n  := runE_succ f6_at f6_in

noncomputable def f18 (run : Run) (n : Nat) (a0_1 : Int) (a1_1 : Int) : Option Res := evalK G run n f18_info.keep 0 f18_info.body (retE G f18_info) (f18_info.start [.int a0_1, .int a1_1])
theorem f18_eq (run : Run) (n : Nat) (a0_1 : Int) (a1_1 : Int) : f18 run n a0_1 a1_1 =
  bif ltI 0 a0_1 then
    bif ltI a0_1 a1_1 then
    some ⟨[.bool (leI a1_1 65536)], [], f18_fresh⟩
  else
    some ⟨[.bool false], [], f18_fresh⟩
  else
    some ⟨[.bool false], [], f18_fresh⟩ := by kernel_rfl
theorem f18_run (ext : Run) (n : Nat) (a0_1 : Int) (a1_1 : Int) : runE G ext (n + 1) 18 [.int a0_1, .int a1_1] = f18 (runE G ext n) n a0_1 a1_1 := runE_succ f18_at f18_in

noncomputable def f11 (run : Run) (n : Nat) (a0_1 : Int) (a1_1 : Int) (a2_1 : Int) (a3_1 : Int) : Option Res := evalK G run n f11_info.keep 0 f11_info.body (retE G f11_info) (f11_info.start [.int a0_1, .int a1_1, .int a2_1, .int a3_1])
theorem f11_eq (run : Run) (n : Nat) (a0_1 : Int) (a1_1 : Int) (a2_1 : Int) (a3_1 : Int) : f11 run n a0_1 a1_1 a2_1 a3_1 =
  bif leI 1 a0_1 then
    bif leI a0_1 1024 then
    bif leI 1 a1_1 then
    bif leI a1_1 1024 then
    (run 18 [.int a2_1, .int a3_1]).bind fun r1 =>
    nilV r1.outs (consV r1.vals fun v1 vs1 =>
    nilV vs1 (some ⟨[.bool v1.toBool], [], f11_fresh⟩))
  else
    some ⟨[.bool false], [], f11_fresh⟩
  else
    some ⟨[.bool false], [], f11_fresh⟩
  else
    some ⟨[.bool false], [], f11_fresh⟩
  else
    some ⟨[.bool false], [], f11_fresh⟩ := by kernel_rfl
theorem f11_run (ext : Run) (n : Nat) (a0_1 : Int) (a1_1 : Int) (a2_1 : Int) (a3_1 : Int) : runE G ext (n + 1) 11 [.int a0_1, .int a1_1, .int a2_1, .int a3_1] = f11 (runE G ext n) n a0_1 a1_1 a2_1 a3_1 := runE_succ f11_at f11_in

noncomputable def f16_l0 (run : Run) (n : Nat) (k0 : Nat) (x0_1 : List AV) (x1_1 : Int) (x2_1 : Int) (x7_1 : List AV) (x8_1 : Int) : Option Res :=
  iterK (evalK G run n f16_keep 0 (sub [1, 1, 0, 1, 0, 0] f16_body)) f16_t0 f16_o0 (blockK 0 (seqK (evalK G run n f16_keep 0 (sub [1, 1, 1] f16_body) (retE G f16_info)) (retE G f16_info))) k0
    ⟨[.val (.slice (.int .i64)) none (.slice x0_1), .val (.int .i64) none (.int x1_1), .val (.int .i64) none (.int x2_1), .any, .any, .any, .any, .val (.slice (.int .i64)) (some (7, 0)) (.slice x7_1), .val (.int .i64) none (.int x8_1), .any, .any, .any, .any, .any, .any, .any, .any, .any, .any, .any, .any, .any, .any, .any, .any, .any, .any, .any, .any, .any, .any], [⟨0, none⟩, ⟨0, none⟩, ⟨0, none⟩, ⟨0, none⟩, ⟨0, none⟩, ⟨0, none⟩, ⟨0, none⟩, ⟨0, none⟩, ⟨0, none⟩, ⟨0, none⟩, ⟨0, none⟩, ⟨0, none⟩, ⟨0, none⟩, ⟨0, none⟩, ⟨0, none⟩, ⟨0, none⟩, ⟨0, none⟩, ⟨0, none⟩, ⟨0, none⟩, ⟨0, none⟩, ⟨0, none⟩, ⟨0, none⟩, ⟨0, none⟩, ⟨0, none⟩, ⟨0, none⟩, ⟨0, none⟩, ⟨0, none⟩, ⟨0, none⟩, ⟨0, none⟩, ⟨0, none⟩, ⟨0, none⟩], List.replicate 31 0⟩
theorem f16_l0_eq (run : Run) (n : Nat) (k0 : Nat) (x0_1 : List AV) (x1_1 : Int) (x2_1 : Int) (x7_1 : List AV) (x8_1 : Int) : f16_l0 run n (k0 + 1) x0_1 x1_1 x2_1 x7_1 x8_1 =
  bif ltI x8_1 (x0_1.length : Int) then
    bif leI x1_1 x8_1 then
    bif inR x8_1 x0_1.length then
    bif leI x2_1 ((nth x0_1 (Int.toNat x8_1)).toInt) then
    bif Nat.ble ((x7_1.length + 1) * 8) 140737488355328 then
    f16_l0 run n k0 x0_1 x1_1 x2_1 (x7_1 ++ [.int x8_1]) (IntKind.wrap .i64 (x8_1 + 1))
  else none
  else
    f16_l0 run n k0 x0_1 x1_1 x2_1 x7_1 (IntKind.wrap .i64 (x8_1 + 1))
  else none
  else
    f16_l0 run n k0 x0_1 x1_1 x2_1 x7_1 (IntKind.wrap .i64 (x8_1 + 1))
  else
    some ⟨[.slice x7_1], [], f16_fresh⟩ := by kernel_rfl
noncomputable def f16 (run : Run) (n : Nat) (a0_1 : List AV) (a1_1 : Int) (a2_1 : Int) : Option Res := evalK G run n f16_info.keep 0 f16_info.body (retE G f16_info) (f16_info.start [.slice a0_1, .int a1_1, .int a2_1])
theorem f16_eq (run : Run) (n : Nat) (a0_1 : List AV) (a1_1 : Int) (a2_1 : Int) : f16 run n a0_1 a1_1 a2_1 =
  f16_l0 run n n a0_1 a1_1 a2_1 [] 0 := by kernel_rfl
theorem f16_run (ext : Run) (n : Nat) (a0_1 : List AV) (a1_1 : Int) (a2_1 : Int) : runE G ext (n + 1) 16 [.slice a0_1, .int a1_1, .int a2_1] = f16 (runE G ext n) n a0_1 a1_1 a2_1 := runE_succ f16_at f16_in

noncomputable def f30_l0 (run : Run) (n : Nat) (k0 : Nat) (x0_1 : List AV) (x1_1 : Int) (x5_1 : Int) (x6_1 : Int) : Option Res :=
  iterK (evalK G run n f30_keep 0 (sub [1, 1, 0, 1, 0, 0] f30_body)) f30_t0 f30_o0 (blockK 0 (seqK (evalK G run n f30_keep 0 (sub [1, 1, 1] f30_body) (retE G f30_info)) (retE G f30_info))) k0
    ⟨[.val (.slice (.int .i64)) none (.slice x0_1), .val (.int .i64) none (.int x1_1), .any, .any, .any, .val (.int .i64) none (.int x5_1), .val (.int .i64) none (.int x6_1), .any, .any, .any, .any, .any, .any, .any, .any, .any, .any, .any, .any, .any, .any, .any], [⟨0, none⟩, ⟨0, none⟩, ⟨0, none⟩, ⟨0, none⟩, ⟨0, none⟩, ⟨0, none⟩, ⟨0, none⟩, ⟨0, none⟩, ⟨0, none⟩, ⟨0, none⟩, ⟨0, none⟩, ⟨0, none⟩, ⟨0, none⟩, ⟨0, none⟩, ⟨0, none⟩, ⟨0, none⟩, ⟨0, none⟩, ⟨0, none⟩, ⟨0, none⟩, ⟨0, none⟩, ⟨0, none⟩, ⟨0, none⟩], List.replicate 22 0⟩
theorem f30_l0_eq (run : Run) (n : Nat) (k0 : Nat) (x0_1 : List AV) (x1_1 : Int) (x5_1 : Int) (x6_1 : Int) : f30_l0 run n (k0 + 1) x0_1 x1_1 x5_1 x6_1 =
  bif ltI x6_1 (x0_1.length : Int) then
    bif inR x6_1 x0_1.length then
    bif leI x1_1 ((nth x0_1 (Int.toNat x6_1)).toInt) then
    f30_l0 run n k0 x0_1 x1_1 (IntKind.wrap .i64 (x5_1 + 1)) (IntKind.wrap .i64 (x6_1 + 1))
  else
    f30_l0 run n k0 x0_1 x1_1 x5_1 (IntKind.wrap .i64 (x6_1 + 1))
  else none
  else
    some ⟨[.int x5_1], [], f30_fresh⟩ := by kernel_rfl
noncomputable def f30 (run : Run) (n : Nat) (a0_1 : List AV) (a1_1 : Int) : Option Res := evalK G run n f30_info.keep 0 f30_info.body (retE G f30_info) (f30_info.start [.slice a0_1, .int a1_1])
theorem f30_eq (run : Run) (n : Nat) (a0_1 : List AV) (a1_1 : Int) : f30 run n a0_1 a1_1 =
  f30_l0 run n n a0_1 a1_1 0 0 := by kernel_rfl
theorem f30_run (ext : Run) (n : Nat) (a0_1 : List AV) (a1_1 : Int) : runE G ext (n + 1) 30 [.slice a0_1, .int a1_1] = f30 (runE G ext n) n a0_1 a1_1 := runE_succ f30_at f30_in

noncomputable def f41_l0 (run : Run) (n : Nat) (k0 : Nat) (x0_1 : List AV) : Option Res :=
  iterK (evalK G run n f41_keep 0 (sub [1, 0, 0, 0] f41_body)) f41_t0 f41_o0 (blockK 0 (seqK (evalK G run n f41_keep 0 (sub [1, 1] f41_body) (retE G f41_info)) (retE G f41_info))) k0
    ⟨[.val (.slice (.int .i64)) none (.slice x0_1), .any, .any, .any, .any, .any, .any, .any, .any, .any, .any, .any, .any, .any, .any, .any, .any, .any, .any, .any, .any], [⟨0, none⟩, ⟨0, none⟩, ⟨0, none⟩, ⟨0, none⟩, ⟨0, none⟩, ⟨0, none⟩, ⟨0, none⟩, ⟨0, none⟩, ⟨0, none⟩, ⟨0, none⟩, ⟨0, none⟩, ⟨0, none⟩, ⟨0, none⟩, ⟨0, none⟩, ⟨0, none⟩, ⟨0, none⟩, ⟨0, none⟩, ⟨0, none⟩, ⟨0, none⟩, ⟨0, none⟩, ⟨0, none⟩], List.replicate 21 0⟩
theorem f41_l0_eq (run : Run) (n : Nat) (k0 : Nat) (x0_1 : List AV) : f41_l0 run n (k0 + 1) x0_1 =
  bif ltI 0 (x0_1.length : Int) then
    bif inR (IntKind.wrap .i64 ((x0_1.length : Int) - 1)) x0_1.length then
    bif eqI ((nth x0_1 (Int.toNat (IntKind.wrap .i64 ((x0_1.length : Int) - 1)))).toInt) 0 then
    bif boundsOk 0 (IntKind.wrap .i64 ((x0_1.length : Int) - 1)) (x0_1.length : Int) (x0_1.length : Int) && true then
    f41_l0 run n k0 (List.drop 0 (List.take (Int.toNat (IntKind.wrap .i64 ((x0_1.length : Int) - 1))) x0_1))
  else none
  else
    some ⟨[.slice x0_1], [], f41_fresh⟩
  else none
  else
    some ⟨[.slice x0_1], [], f41_fresh⟩ := by kernel_rfl
noncomputable def f41 (run : Run) (n : Nat) (a0_1 : List AV) : Option Res := evalK G run n f41_info.keep 0 f41_info.body (retE G f41_info) (f41_info.start [.slice a0_1])
theorem f41_eq (run : Run) (n : Nat) (a0_1 : List AV) : f41 run n a0_1 =
  f41_l0 run n n a0_1 := by kernel_rfl
theorem f41_run (ext : Run) (n : Nat) (a0_1 : List AV) : runE G ext (n + 1) 41 [.slice a0_1] = f41 (runE G ext n) n a0_1 := runE_succ f41_at f41_in

noncomputable def f42_l2 (run : Run) (n : Nat) (k0 : Nat) (k2 : Nat) (x0_2 : List AV) (x3_2 : List AV) (x4_2 : Int) (x5_1 : Int) (x6_1 : Int) : Option Res :=
  iterK (evalK G run n f42_keep 2 (sub [1, 1, 0, 1, 0, 0, 1, 0, 0, 1, 1, 0, 0] f42_body)) f42_t2 f42_o2 (blockK 2 (blockK 1 (seqK (evalK G run n f42_keep 0 (sub [1, 1, 0, 1, 0, 0, 1, 1] f42_body) (seqK (fun t => iterK (evalK G run n f42_keep 0 (sub [1, 1, 0, 1, 0, 0] f42_body)) f42_t0 f42_o0 (blockK 0 (seqK (evalK G run n f42_keep 0 (sub [1, 1, 1] f42_body) (retE G f42_info)) (retE G f42_info))) k0 (t.clear f42_t0 f42_o0)) (blockK 0 (seqK (evalK G run n f42_keep 0 (sub [1, 1, 1] f42_body) (retE G f42_info)) (retE G f42_info))))) (seqK (fun t => iterK (evalK G run n f42_keep 0 (sub [1, 1, 0, 1, 0, 0] f42_body)) f42_t0 f42_o0 (blockK 0 (seqK (evalK G run n f42_keep 0 (sub [1, 1, 1] f42_body) (retE G f42_info)) (retE G f42_info))) k0 (t.clear f42_t0 f42_o0)) (blockK 0 (seqK (evalK G run n f42_keep 0 (sub [1, 1, 1] f42_body) (retE G f42_info)) (retE G f42_info))))))) k2
    ⟨[.val (.slice (.int .u64)) none (.slice x0_2), .any, .any, .val (.slice (.int .i64)) (some (3, 0)) (.slice x3_2), .val (.int .i64) none (.int x4_2), .val (.int .u64) none (.int x5_1), .val (.int .i64) none (.int x6_1), .any, .any, .any, .any, .any, .any, .any, .any, .any, .any, .any, .any, .any, .any, .any, .any, .any, .any, .any, .any, .any, .any, .any, .any], [⟨0, none⟩, ⟨0, none⟩, ⟨0, none⟩, ⟨0, none⟩, ⟨0, none⟩, ⟨0, none⟩, ⟨0, none⟩, ⟨0, none⟩, ⟨0, none⟩, ⟨0, none⟩, ⟨0, none⟩, ⟨0, none⟩, ⟨0, none⟩, ⟨0, none⟩, ⟨0, none⟩, ⟨0, none⟩, ⟨0, none⟩, ⟨0, none⟩, ⟨0, none⟩, ⟨0, none⟩, ⟨0, none⟩, ⟨0, none⟩, ⟨0, none⟩, ⟨0, none⟩, ⟨0, none⟩, ⟨0, none⟩, ⟨0, none⟩, ⟨0, none⟩, ⟨0, none⟩, ⟨0, none⟩, ⟨0, none⟩], List.replicate 31 0⟩
noncomputable def f42_l0 (run : Run) (n : Nat) (k0 : Nat) (x0_1 : List AV) (x3_1 : List AV) (x4_1 : Int) : Option Res :=
  iterK (evalK G run n f42_keep 0 (sub [1, 1, 0, 1, 0, 0] f42_body)) f42_t0 f42_o0 (blockK 0 (seqK (evalK G run n f42_keep 0 (sub [1, 1, 1] f42_body) (retE G f42_info)) (retE G f42_info))) k0
    ⟨[.val (.slice (.int .u64)) none (.slice x0_1), .any, .any, .val (.slice (.int .i64)) (some (3, 0)) (.slice x3_1), .val (.int .i64) none (.int x4_1), .any, .any, .any, .any, .any, .any, .any, .any, .any, .any, .any, .any, .any, .any, .any, .any, .any, .any, .any, .any, .any, .any, .any, .any, .any, .any], [⟨0, none⟩, ⟨0, none⟩, ⟨0, none⟩, ⟨0, none⟩, ⟨0, none⟩, ⟨0, none⟩, ⟨0, none⟩, ⟨0, none⟩, ⟨0, none⟩, ⟨0, none⟩, ⟨0, none⟩, ⟨0, none⟩, ⟨0, none⟩, ⟨0, none⟩, ⟨0, none⟩, ⟨0, none⟩, ⟨0, none⟩, ⟨0, none⟩, ⟨0, none⟩, ⟨0, none⟩, ⟨0, none⟩, ⟨0, none⟩, ⟨0, none⟩, ⟨0, none⟩, ⟨0, none⟩, ⟨0, none⟩, ⟨0, none⟩, ⟨0, none⟩, ⟨0, none⟩, ⟨0, none⟩, ⟨0, none⟩], List.replicate 31 0⟩
theorem f42_l2_eq (run : Run) (n : Nat) (k0 : Nat) (k2 : Nat) (x0_2 : List AV) (x3_2 : List AV) (x4_2 : Int) (x5_1 : Int) (x6_1 : Int) : f42_l2 run n k0 (k2 + 1) x0_2 x3_2 x4_2 x5_1 x6_1 =
  bif ltI x6_1 4 then
    bif Nat.ble ((x3_2.length + 1) * 8) 140737488355328 then
    f42_l2 run n k0 k2 x0_2 (x3_2 ++ [.int (IntKind.wrap .i64 (Int.tmod x5_1 65536))]) x4_2 (IntKind.wrap .u64 (Int.tdiv x5_1 65536)) (IntKind.wrap .i64 (x6_1 + 1))
  else none
  else
    f42_l0 run n k0 x0_2 x3_2 (IntKind.wrap .i64 (x4_2 + 1)) := by kernel_rfl
theorem f42_l0_eq (run : Run) (n : Nat) (k0 : Nat) (x0_1 : List AV) (x3_1 : List AV) (x4_1 : Int) : f42_l0 run n (k0 + 1) x0_1 x3_1 x4_1 =
  bif ltI x4_1 (x0_1.length : Int) then
    bif inR x4_1 x0_1.length then
    f42_l2 run n k0 n x0_1 x3_1 x4_1 ((nth x0_1 (Int.toNat x4_1)).toInt) 0
  else none
  else
    (run 41 [.slice x3_1]).bind fun r1 =>
    nilV r1.outs (consV r1.vals fun v1 vs1 =>
    nilV vs1 (some ⟨[.slice v1.toSlice], [], f42_fresh⟩)) := by kernel_rfl
noncomputable def f42 (run : Run) (n : Nat) (a0_1 : List AV) : Option Res := evalK G run n f42_info.keep 0 f42_info.body (retE G f42_info) (f42_info.start [.slice a0_1])
theorem f42_eq (run : Run) (n : Nat) (a0_1 : List AV) : f42 run n a0_1 =
  f42_l0 run n n a0_1 [] 0 := by kernel_rfl
theorem f42_run (ext : Run) (n : Nat) (a0_1 : List AV) : runE G ext (n + 1) 42 [.slice a0_1] = f42 (runE G ext n) n a0_1 := runE_succ f42_at f42_in

noncomputable def f36 (run : Run) (n : Nat) (a0_1 : Int) : Option Res := evalK G run n f36_info.keep 0 f36_info.body (retE G f36_info) (f36_info.start [.int a0_1])
theorem f36_eq (run : Run) (n : Nat) (a0_1 : Int) : f36 run n a0_1 =
  (run 42 [.slice [.int a0_1]]).bind fun r1 =>
    nilV r1.outs (consV r1.vals fun v1 vs1 =>
    nilV vs1 (some ⟨[.slice v1.toSlice], [], f36_fresh⟩)) := by kernel_rfl
theorem f36_run (ext : Run) (n : Nat) (a0_1 : Int) : runE G ext (n + 1) 36 [.int a0_1] = f36 (runE G ext n) n a0_1 := runE_succ f36_at f36_in

noncomputable def f37 (run : Run) (n : Nat) (a0_1 : Int) : Option Res := evalK G run n f37_info.keep 0 f37_info.body (retE G f37_info) (f37_info.start [.int a0_1])
theorem f37_eq (run : Run) (n : Nat) (a0_1 : Int) : f37 run n a0_1 =
  bif eqI (IntKind.wrap .i64 (IntKind.wrap .i64 (Int.tdiv a0_1 16) + 1)) (IntKind.wrap .i64 (IntKind.wrap .i64 (Int.tdiv a0_1 16) + 1)) && leI 0 (IntKind.wrap .i64 (IntKind.wrap .i64 (Int.tdiv a0_1 16) + 1)) && Nat.ble (Int.toNat (IntKind.wrap .i64 (IntKind.wrap .i64 (Int.tdiv a0_1 16) + 1)) * 8) 140737488355328 then
    bif leI 0 (Int.tmod a0_1 16) then
    bif inR (IntKind.wrap .i64 (Int.tdiv a0_1 16)) (Int.toNat (IntKind.wrap .i64 (IntKind.wrap .i64 (Int.tdiv a0_1 16) + 1))) then
    some ⟨[.slice (List.drop 0 (List.take (Int.toNat (IntKind.wrap .i64 (IntKind.wrap .i64 (Int.tdiv a0_1 16) + 1))) ((List.replicate (Int.toNat (IntKind.wrap .i64 (IntKind.wrap .i64 (Int.tdiv a0_1 16) + 1))) (.int 0)).set (0 + (Int.toNat (IntKind.wrap .i64 (Int.tdiv a0_1 16)))) (.int (IntKind.wrap .i64 (1 * 2 ^ (min (Int.toNat (Int.tmod a0_1 16)) 64)))))))], [], f37_fresh⟩
  else none
  else none
  else none := by kernel_rfl
theorem f37_run (ext : Run) (n : Nat) (a0_1 : Int) : runE G ext (n + 1) 37 [.int a0_1] = f37 (runE G ext n) n a0_1 := runE_succ f37_at f37_in

noncomputable def f38_l0 (run : Run) (n : Nat) (k0 : Nat) (x0_1 : List AV) (x1_1 : List AV) (x5_1 : Int) : Option Res :=
  iterK (evalK G run n f38_keep 0 (sub [1, 1, 0, 1, 0, 0] f38_body)) f38_t0 f38_o0 (blockK 0 (seqK (evalK G run n f38_keep 0 (sub [1, 1, 1] f38_body) (retE G f38_info)) (retE G f38_info))) k0
    ⟨[.val (.slice (.int .i64)) none (.slice x0_1), .val (.slice (.int .i64)) none (.slice x1_1), .any, .any, .any, .val (.int .i64) none (.int x5_1), .any, .any, .any, .any, .any, .any, .any, .any, .any, .any, .any, .any, .any, .any, .any, .any, .any, .any, .any, .any, .any, .any, .any, .any, .any, .any, .any, .any, .any, .any, .any, .any, .any, .any, .any], [⟨0, none⟩, ⟨0, none⟩, ⟨0, none⟩, ⟨0, none⟩, ⟨0, none⟩, ⟨0, none⟩, ⟨0, none⟩, ⟨0, none⟩, ⟨0, none⟩, ⟨0, none⟩, ⟨0, none⟩, ⟨0, none⟩, ⟨0, none⟩, ⟨0, none⟩, ⟨0, none⟩, ⟨0, none⟩, ⟨0, none⟩, ⟨0, none⟩, ⟨0, none⟩, ⟨0, none⟩, ⟨0, none⟩, ⟨0, none⟩, ⟨0, none⟩, ⟨0, none⟩, ⟨0, none⟩, ⟨0, none⟩, ⟨0, none⟩, ⟨0, none⟩, ⟨0, none⟩, ⟨0, none⟩, ⟨0, none⟩, ⟨0, none⟩, ⟨0, none⟩, ⟨0, none⟩, ⟨0, none⟩, ⟨0, none⟩, ⟨0, none⟩, ⟨0, none⟩, ⟨0, none⟩, ⟨0, none⟩, ⟨0, none⟩], List.replicate 41 0⟩
theorem f38_l0_eq (run : Run) (n : Nat) (k0 : Nat) (x0_1 : List AV) (x1_1 : List AV) (x5_1 : Int) : f38_l0 run n (k0 + 1) x0_1 x1_1 x5_1 =
  bif leI 0 x5_1 then
    bif inR x5_1 x0_1.length then
    bif inR x5_1 x1_1.length then
    bif ltI ((nth x1_1 (Int.toNat x5_1)).toInt) ((nth x0_1 (Int.toNat x5_1)).toInt) then
    some ⟨[.int 1], [], f38_fresh⟩
  else
    bif inR x5_1 x0_1.length then
    bif inR x5_1 x1_1.length then
    bif ltI ((nth x0_1 (Int.toNat x5_1)).toInt) ((nth x1_1 (Int.toNat x5_1)).toInt) then
    some ⟨[.int (-1)], [], f38_fresh⟩
  else
    f38_l0 run n k0 x0_1 x1_1 (IntKind.wrap .i64 (x5_1 - 1))
  else none
  else none
  else none
  else none
  else
    some ⟨[.int 0], [], f38_fresh⟩ := by kernel_rfl
noncomputable def f38 (run : Run) (n : Nat) (a0_1 : List AV) (a1_1 : List AV) : Option Res := evalK G run n f38_info.keep 0 f38_info.body (retE G f38_info) (f38_info.start [.slice a0_1, .slice a1_1])
theorem f38_eq (run : Run) (n : Nat) (a0_1 : List AV) (a1_1 : List AV) : f38 run n a0_1 a1_1 =
  bif !(eqI (a0_1.length : Int) (a1_1.length : Int)) then
    bif ltI (a1_1.length : Int) (a0_1.length : Int) then
    some ⟨[.int 1], [], f38_fresh⟩
  else
    some ⟨[.int (-1)], [], f38_fresh⟩
  else
    f38_l0 run n n a0_1 a1_1 (IntKind.wrap .i64 ((a0_1.length : Int) - 1)) := by kernel_rfl
theorem f38_run (ext : Run) (n : Nat) (a0_1 : List AV) (a1_1 : List AV) : runE G ext (n + 1) 38 [.slice a0_1, .slice a1_1] = f38 (runE G ext n) n a0_1 a1_1 := runE_succ f38_at f38_in

end Go.Proofs.Ytogehijjhibdkaa.Ev
