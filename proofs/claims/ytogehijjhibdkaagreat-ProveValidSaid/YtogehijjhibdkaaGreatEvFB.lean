/- What the evaluator does with the functions, as programs over plain values: printed by gen.py, checked by the kernel. -/
import Derived.Test.YtogehijjhibdkaaGreatEvFA
namespace Go.Proofs.YtogehijjhibdkaaGreat.Ev
open Go Go.RowKit
set_option maxRecDepth 100000


noncomputable def f37_l0 (run : Run) (n : Nat) (k0 : Nat) (x0_1 : List AV) (x3_1 : Int) (x4_1 : Int) : Option Res :=
  iterK (evalK G run n f37_keep 0 (sub [1, 1, 0, 1, 0, 0] f37_body)) f37_t0 f37_o0 (blockK 0 (seqK (evalK G run n f37_keep 0 (sub [1, 1, 1] f37_body) (retE G f37_info)) (retE G f37_info))) k0
    ⟨[.val (.slice .str) none (.slice x0_1), .any, .any, .val (.int .i64) none (.int x3_1), .val (.int .i64) none (.int x4_1), .any, .any, .any, .any, .any, .any, .any, .any, .any, .any, .any, .any, .any, .any, .any, .any, .any, .any, .any, .any, .any, .any, .any, .any, .any, .any, .any, .any, .any, .any, .any, .any, .any, .any, .any, .any], [⟨0, none⟩, ⟨0, none⟩, ⟨0, none⟩, ⟨0, none⟩, ⟨0, none⟩, ⟨0, none⟩, ⟨0, none⟩, ⟨0, none⟩, ⟨0, none⟩, ⟨0, none⟩, ⟨0, none⟩, ⟨0, none⟩, ⟨0, none⟩, ⟨0, none⟩, ⟨0, none⟩, ⟨0, none⟩, ⟨0, none⟩, ⟨0, none⟩, ⟨0, none⟩, ⟨0, none⟩, ⟨0, none⟩, ⟨0, none⟩, ⟨0, none⟩, ⟨0, none⟩, ⟨0, none⟩, ⟨0, none⟩, ⟨0, none⟩, ⟨0, none⟩, ⟨0, none⟩, ⟨0, none⟩, ⟨0, none⟩, ⟨0, none⟩, ⟨0, none⟩, ⟨0, none⟩, ⟨0, none⟩, ⟨0, none⟩, ⟨0, none⟩, ⟨0, none⟩, ⟨0, none⟩, ⟨0, none⟩, ⟨0, none⟩], List.replicate 41 0⟩
theorem f37_l0_eq (run : Run) (n : Nat) (k0 : Nat) (x0_1 : List AV) (x3_1 : Int) (x4_1 : Int) : f37_l0 run n (k0 + 1) x0_1 x3_1 x4_1 =
  bif ltI x4_1 (x0_1.length : Int) then
    bif ltI x4_1 1100 then
    bif inR x4_1 x0_1.length then
    f37_l0 run n k0 x0_1 (mn2 (IntKind.wrap .i64 (IntKind.wrap .i64 (x3_1 + 1) + (((nth x0_1 (Int.toNat x4_1)).toStr).length : Int))) 1048576) (IntKind.wrap .i64 (x4_1 + 1))
  else none
  else
    bif ltI 60 (x0_1.length : Int) then
    bif leI (x0_1.length : Int) 1024 then
    some ⟨[.bool true], [], f37_fresh⟩
  else
    bif ltI 1050 (x0_1.length : Int) then
    some ⟨[.bool true], [], f37_fresh⟩
  else
    some ⟨[.bool (ltI 6000 x3_1)], [], f37_fresh⟩
  else
    bif ltI 1050 (x0_1.length : Int) then
    some ⟨[.bool true], [], f37_fresh⟩
  else
    some ⟨[.bool (ltI 6000 x3_1)], [], f37_fresh⟩
  else
    bif ltI 60 (x0_1.length : Int) then
    bif leI (x0_1.length : Int) 1024 then
    some ⟨[.bool true], [], f37_fresh⟩
  else
    bif ltI 1050 (x0_1.length : Int) then
    some ⟨[.bool true], [], f37_fresh⟩
  else
    some ⟨[.bool (ltI 6000 x3_1)], [], f37_fresh⟩
  else
    bif ltI 1050 (x0_1.length : Int) then
    some ⟨[.bool true], [], f37_fresh⟩
  else
    some ⟨[.bool (ltI 6000 x3_1)], [], f37_fresh⟩ := by kernel_rfl
noncomputable def f37 (run : Run) (n : Nat) (a0_1 : List AV) : Option Res := evalK G run n f37_info.keep 0 f37_info.body (retE G f37_info) (f37_info.start [.slice a0_1])
theorem f37_eq (run : Run) (n : Nat) (a0_1 : List AV) : f37 run n a0_1 =
  f37_l0 run n n a0_1 0 0 := by kernel_rfl
theorem f37_run (ext : Run) (n : Nat) (a0_1 : List AV) : runE G ext (n + 1) 37 [.slice a0_1] = f37 (runE G ext n) n a0_1 := runE_succ f37_at f37_in

noncomputable def f9_l0 (run : Run) (n : Nat) (k0 : Nat) (x0_1 : List AV) (x3_1 : Int) (x4_1 : Int) : Option Res :=
  iterK (evalK G run n f9_keep 0 (sub [1, 1, 0, 1, 0, 0] f9_body)) f9_t0 f9_o0 (blockK 0 (seqK (evalK G run n f9_keep 0 (sub [1, 1, 1] f9_body) (retE G f9_info)) (retE G f9_info))) k0
    ⟨[.val (.slice (.struct [(.struct [(.int .u32), (.blob 32), (.blob 32), (.int .u64)]), (.slice .str)])) none (.slice x0_1), .any, .any, .val (.int .i64) none (.int x3_1), .val (.int .i64) none (.int x4_1), .any, .any, .any, .any, .any, .any, .any, .any, .any, .any, .any, .any, .any, .any, .any, .any, .any, .any, .any, .any, .any, .any, .any, .any, .any, .any, .any, .any, .any, .any, .any], [⟨0, none⟩, ⟨0, none⟩, ⟨0, none⟩, ⟨0, none⟩, ⟨0, none⟩, ⟨0, none⟩, ⟨0, none⟩, ⟨0, none⟩, ⟨0, none⟩, ⟨0, none⟩, ⟨0, none⟩, ⟨0, none⟩, ⟨0, none⟩, ⟨0, none⟩, ⟨0, none⟩, ⟨0, none⟩, ⟨0, none⟩, ⟨0, none⟩, ⟨0, none⟩, ⟨0, none⟩, ⟨0, none⟩, ⟨0, none⟩, ⟨0, none⟩, ⟨0, none⟩, ⟨0, none⟩, ⟨0, none⟩, ⟨0, none⟩, ⟨0, none⟩, ⟨0, none⟩, ⟨0, none⟩, ⟨0, none⟩, ⟨0, none⟩, ⟨0, none⟩, ⟨0, none⟩, ⟨0, none⟩, ⟨0, none⟩], List.replicate 36 0⟩
theorem f9_l0_eq (run : Run) (n : Nat) (k0 : Nat) (x0_1 : List AV) (x3_1 : Int) (x4_1 : Int) : f9_l0 run n (k0 + 1) x0_1 x3_1 x4_1 =
  bif ltI x4_1 (x0_1.length : Int) then
    bif ltI x4_1 30 then
    bif inR x4_1 x0_1.length then
    (run 37 [.slice (((nth x0_1 (Int.toNat x4_1)).fld 1).toSlice)]).bind fun r1 =>
    nilV r1.outs (consV r1.vals fun v1 vs1 =>
    nilV vs1 (bif v1.toBool then
    some ⟨[.bool true], [], f9_fresh⟩
  else
    bif inR x4_1 x0_1.length then
    f9_l0 run n k0 x0_1 (IntKind.wrap .i64 (x3_1 + ((((nth x0_1 (Int.toNat x4_1)).fld 1).toSlice).length : Int))) (IntKind.wrap .i64 (x4_1 + 1))
  else none))
  else none
  else
    bif ltI 24 (x0_1.length : Int) then
    some ⟨[.bool true], [], f9_fresh⟩
  else
    some ⟨[.bool (ltI 100 x3_1)], [], f9_fresh⟩
  else
    bif ltI 24 (x0_1.length : Int) then
    some ⟨[.bool true], [], f9_fresh⟩
  else
    some ⟨[.bool (ltI 100 x3_1)], [], f9_fresh⟩ := by kernel_rfl
noncomputable def f9 (run : Run) (n : Nat) (a0_1 : List AV) : Option Res := evalK G run n f9_info.keep 0 f9_info.body (retE G f9_info) (f9_info.start [.slice a0_1])
theorem f9_eq (run : Run) (n : Nat) (a0_1 : List AV) : f9 run n a0_1 =
  f9_l0 run n n a0_1 0 0 := by kernel_rfl
theorem f9_run (ext : Run) (n : Nat) (a0_1 : List AV) : runE G ext (n + 1) 9 [.slice a0_1] = f9 (runE G ext n) n a0_1 := runE_succ f9_at f9_in

noncomputable def f38 (run : Run) (n : Nat) (a0_1 : Int) (a1_1 : Int) : Option Res := evalK G run n f38_info.keep 0 f38_info.body (retE G f38_info) (f38_info.start [.int a0_1, .int a1_1])
theorem f38_eq (run : Run) (n : Nat) (a0_1 : Int) (a1_1 : Int) : f38 run n a0_1 a1_1 =
  bif ltI 0 a0_1 then
    bif ltI a0_1 a1_1 then
    some ⟨[.bool (leI a1_1 65536)], [], f38_fresh⟩
  else
    some ⟨[.bool false], [], f38_fresh⟩
  else
    some ⟨[.bool false], [], f38_fresh⟩ := by kernel_rfl
theorem f38_run (ext : Run) (n : Nat) (a0_1 : Int) (a1_1 : Int) : runE G ext (n + 1) 38 [.int a0_1, .int a1_1] = f38 (runE G ext n) n a0_1 a1_1 := runE_succ f38_at f38_in

noncomputable def f10 (run : Run) (n : Nat) (a0_1 : Int) (a1_1 : Int) (a2_1 : Int) (a3_1 : Int) : Option Res := evalK G run n f10_info.keep 0 f10_info.body (retE G f10_info) (f10_info.start [.int a0_1, .int a1_1, .int a2_1, .int a3_1])
theorem f10_eq (run : Run) (n : Nat) (a0_1 : Int) (a1_1 : Int) (a2_1 : Int) (a3_1 : Int) : f10 run n a0_1 a1_1 a2_1 a3_1 =
  bif leI 1 a0_1 then
    bif leI a0_1 1024 then
    bif leI 1 a1_1 then
    bif leI a1_1 1024 then
    (run 38 [.int a2_1, .int a3_1]).bind fun r1 =>
    nilV r1.outs (consV r1.vals fun v1 vs1 =>
    nilV vs1 (some ⟨[.bool v1.toBool], [], f10_fresh⟩))
  else
    some ⟨[.bool false], [], f10_fresh⟩
  else
    some ⟨[.bool false], [], f10_fresh⟩
  else
    some ⟨[.bool false], [], f10_fresh⟩
  else
    some ⟨[.bool false], [], f10_fresh⟩ := by kernel_rfl
theorem f10_run (ext : Run) (n : Nat) (a0_1 : Int) (a1_1 : Int) (a2_1 : Int) (a3_1 : Int) : runE G ext (n + 1) 10 [.int a0_1, .int a1_1, .int a2_1, .int a3_1] = f10 (runE G ext n) n a0_1 a1_1 a2_1 a3_1 := runE_succ f10_at f10_in

noncomputable def f45_l0 (run : Run) (n : Nat) (k0 : Nat) (x3_1 : Int) (x6_1 : List AV) (x7_1 : Int) (x8_1 : Int) : Option Res :=
  iterK (evalK G run n f45_keep 0 (sub [1, 1, 0, 1, 0, 0] f45_body)) f45_t0 f45_o0 (blockK 0 (seqK (evalK G run n f45_keep 0 (sub [1, 1, 1] f45_body) (retE G f45_info)) (retE G f45_info))) k0
    ⟨[.any, .any, .any, .val (.int .i64) none (.int x3_1), .any, .any, .val (.slice (.int .i64)) none (.slice x6_1), .val (.int .i64) none (.int x7_1), .val (.int .i64) none (.int x8_1), .any, .any, .any, .any, .any, .any, .any, .any, .any, .any, .any, .any], [⟨0, none⟩, ⟨0, none⟩, ⟨0, none⟩, ⟨0, none⟩, ⟨0, none⟩, ⟨0, none⟩, ⟨0, none⟩, ⟨0, none⟩, ⟨0, none⟩, ⟨0, none⟩, ⟨0, none⟩, ⟨0, none⟩, ⟨0, none⟩, ⟨0, none⟩, ⟨0, none⟩, ⟨0, none⟩, ⟨0, none⟩, ⟨0, none⟩, ⟨0, none⟩, ⟨0, none⟩, ⟨0, none⟩], List.replicate 21 0⟩
theorem f45_l0_eq (run : Run) (n : Nat) (k0 : Nat) (x3_1 : Int) (x6_1 : List AV) (x7_1 : Int) (x8_1 : Int) : f45_l0 run n (k0 + 1) x3_1 x6_1 x7_1 x8_1 =
  bif ltI x8_1 x7_1 then
    bif inR x8_1 x6_1.length then
    bif ltI 0 x8_1 then
    f45_l0 run n k0 (mx2 x3_1 ((nth x6_1 (Int.toNat x8_1)).toInt)) x6_1 x7_1 (IntKind.wrap .i64 (x8_1 + 1))
  else
    f45_l0 run n k0 x3_1 x6_1 x7_1 (IntKind.wrap .i64 (x8_1 + 1))
  else none
  else
    some ⟨[.int (mn2 x3_1 255)], [], f45_fresh⟩ := by kernel_rfl
noncomputable def f45 (run : Run) (n : Nat) (a0_1 : List AV) : Option Res := evalK G run n f45_info.keep 0 f45_info.body (retE G f45_info) (f45_info.start [.slice a0_1])
theorem f45_eq (run : Run) (n : Nat) (a0_1 : List AV) : f45 run n a0_1 =
  f45_l0 run n n 0 a0_1 (a0_1.length : Int) 0 := by kernel_rfl
theorem f45_run (ext : Run) (n : Nat) (a0_1 : List AV) : runE G ext (n + 1) 45 [.slice a0_1] = f45 (runE G ext n) n a0_1 := runE_succ f45_at f45_in

noncomputable def f225 (run : Run) (n : Nat) (a0_1 : Int) : Option Res := evalK G run n f225_info.keep 0 f225_info.body (retE G f225_info) (f225_info.start [.int a0_1])
theorem f225_eq (run : Run) (n : Nat) (a0_1 : Int) : f225 run n a0_1 =
  some ⟨[.agg [.int a0_1, .int 0, .int 0, .int 0, .int 0]], [], f225_fresh⟩ := by kernel_rfl
theorem f225_run (ext : Run) (n : Nat) (a0_1 : Int) : runE G ext (n + 1) 225 [.int a0_1] = f225 (runE G ext n) n a0_1 := runE_succ f225_at f225_in

noncomputable def f232_l0 (run : Run) (n : Nat) (k0 : Nat) (x1_1 : Int) (x7_1 : Int) (x11_1 : Int) (o2_1 : List AV) (o4_1 : List AV) (o6_1 : List AV) : Option Res :=
  iterK (evalK G run n f232_keep 0 (sub [1, 1, 1, 0, 1, 0, 0] f232_body)) f232_t0 f232_o0 (blockK 0 (seqK (evalK G run n f232_keep 0 (sub [1, 1, 1, 1] f232_body) (retE G f232_info)) (retE G f232_info))) k0
    ⟨[.any, .val (.int .u64) none (.int x1_1), .ptr ⟨(.arr 5 (.int .u64)), 2, 1, []⟩, .any, .ptr ⟨(.arr 5 (.int .u64)), 4, 1, []⟩, .any, .ptr ⟨(.arr 5 (.int .u64)), 6, 1, []⟩, .val (.int .u64) none (.int x7_1), .any, .any, .any, .val (.int .i64) none (.int x11_1), .any, .any, .any, .any, .any, .any, .any, .any, .any, .any, .any, .any, .any, .any, .any, .any, .any, .any, .any, .any, .any, .any, .any, .any, .any, .any, .any, .any, .any, .any, .any, .any], [⟨0, none⟩, ⟨0, none⟩, ⟨1, some ⟨(.arr 5 (.int .u64)), .agg o2_1⟩⟩, ⟨0, none⟩, ⟨1, some ⟨(.arr 5 (.int .u64)), .agg o4_1⟩⟩, ⟨0, none⟩, ⟨1, some ⟨(.arr 5 (.int .u64)), .agg o6_1⟩⟩, ⟨0, none⟩, ⟨0, none⟩, ⟨0, none⟩, ⟨0, none⟩, ⟨0, none⟩, ⟨0, none⟩, ⟨0, none⟩, ⟨0, none⟩, ⟨0, none⟩, ⟨0, none⟩, ⟨0, none⟩, ⟨0, none⟩, ⟨0, none⟩, ⟨0, none⟩, ⟨0, none⟩, ⟨0, none⟩, ⟨0, none⟩, ⟨0, none⟩, ⟨0, none⟩, ⟨0, none⟩, ⟨0, none⟩, ⟨0, none⟩, ⟨0, none⟩, ⟨0, none⟩, ⟨0, none⟩, ⟨0, none⟩, ⟨0, none⟩, ⟨0, none⟩, ⟨0, none⟩, ⟨0, none⟩, ⟨0, none⟩, ⟨0, none⟩, ⟨0, none⟩, ⟨0, none⟩, ⟨0, none⟩, ⟨0, none⟩, ⟨0, none⟩], List.replicate 44 0⟩
theorem f232_l0_eq (run : Run) (n : Nat) (k0 : Nat) (x1_1 : Int) (x7_1 : Int) (x11_1 : Int) (o2_1 : List AV) (o4_1 : List AV) (o6_1 : List AV) : f232_l0 run n (k0 + 1) x1_1 x7_1 x11_1 o2_1 o4_1 o6_1 =
  bif ltI x11_1 5 then
    bif inR x11_1 5 then
    bif inR x11_1 5 then
    bif inR x11_1 5 then
    f232_l0 run n k0 x1_1 (Int.fdiv (IntKind.wrap .u64 (IntKind.wrap .u64 (Int.fdiv ((AV.fld (.agg o2_1) (Int.toNat x11_1)).toInt) (2 ^ 32) * x1_1) + Int.fdiv (IntKind.wrap .u64 (IntKind.wrap .u64 (IntKind.wrap .u64 (BitVec.toNat (BitVec.ofInt 64 ((AV.fld (.agg o2_1) (Int.toNat x11_1)).toInt) &&& BitVec.ofInt 64 4294967295)) * x1_1) + x7_1)) (2 ^ 32))) (2 ^ 32)) (IntKind.wrap .i64 (x11_1 + 1)) o2_1 o4_1 (o6_1.set (Int.toNat x11_1) (.int (IntKind.wrap .u64 (BitVec.toNat (BitVec.ofInt 64 (IntKind.wrap .u64 (IntKind.wrap .u64 (IntKind.wrap .u64 (Int.fdiv ((AV.fld (.agg o2_1) (Int.toNat x11_1)).toInt) (2 ^ 32) * x1_1) + Int.fdiv (IntKind.wrap .u64 (IntKind.wrap .u64 (IntKind.wrap .u64 (BitVec.toNat (BitVec.ofInt 64 ((AV.fld (.agg o2_1) (Int.toNat x11_1)).toInt) &&& BitVec.ofInt 64 4294967295)) * x1_1) + x7_1)) (2 ^ 32)) * 2 ^ 32)) ||| BitVec.ofInt 64 (IntKind.wrap .u64 (BitVec.toNat (BitVec.ofInt 64 (IntKind.wrap .u64 (IntKind.wrap .u64 (IntKind.wrap .u64 (BitVec.toNat (BitVec.ofInt 64 ((AV.fld (.agg o2_1) (Int.toNat x11_1)).toInt) &&& BitVec.ofInt 64 4294967295)) * x1_1) + x7_1)) &&& BitVec.ofInt 64 4294967295))))))))
  else none
  else none
  else none
  else
    some ⟨[.agg o6_1, .bool (eqI x7_1 0)], [], f232_fresh⟩ := by kernel_rfl
noncomputable def f232 (run : Run) (n : Nat) (a0_1 : List AV) (a1_1 : Int) : Option Res := evalK G run n f232_info.keep 0 f232_info.body (retE G f232_info) (f232_info.start [.agg a0_1, .int a1_1])
theorem f232_eq (run : Run) (n : Nat) (a0_1 : List AV) (a1_1 : Int) : f232 run n a0_1 a1_1 =
  f232_l0 run n n a1_1 0 0 a0_1 (List.replicate 5 (.int 0)) (List.replicate 5 (.int 0)) := by kernel_rfl
theorem f232_run (ext : Run) (n : Nat) (a0_1 : List AV) (a1_1 : Int) : runE G ext (n + 1) 232 [.agg a0_1, .int a1_1] = f232 (runE G ext n) n a0_1 a1_1 := runE_succ f232_at f232_in

noncomputable def f235_l0 (run : Run) (n : Nat) (k0 : Nat) (x0_1 : Int) (x3_1 : Int) (x5_1 : Int) : Option Res :=
  iterK (evalK G run n f235_keep 0 (sub [1, 1, 0, 1, 0, 0] f235_body)) f235_t0 f235_o0 (blockK 0 (seqK (evalK G run n f235_keep 0 (sub [1, 1, 1] f235_body) (retE G f235_info)) (retE G f235_info))) k0
    ⟨[.val (.int .u64) none (.int x0_1), .any, .any, .val (.int .i64) none (.int x3_1), .any, .val (.int .i64) none (.int x5_1), .any, .any, .any, .any, .any, .any, .any, .any, .any, .any, .any, .any], [⟨0, none⟩, ⟨0, none⟩, ⟨0, none⟩, ⟨0, none⟩, ⟨0, none⟩, ⟨0, none⟩, ⟨0, none⟩, ⟨0, none⟩, ⟨0, none⟩, ⟨0, none⟩, ⟨0, none⟩, ⟨0, none⟩, ⟨0, none⟩, ⟨0, none⟩, ⟨0, none⟩, ⟨0, none⟩, ⟨0, none⟩, ⟨0, none⟩], List.replicate 18 0⟩
theorem f235_l0_eq (run : Run) (n : Nat) (k0 : Nat) (x0_1 : Int) (x3_1 : Int) (x5_1 : Int) : f235_l0 run n (k0 + 1) x0_1 x3_1 x5_1 =
  bif ltI x5_1 64 then
    bif leI 0 (IntKind.wrap .u64 (IntKind.wrap .i64 (63 - x5_1))) then
    bif !(eqI (Int.fdiv x0_1 (2 ^ (min (Int.toNat (IntKind.wrap .u64 (IntKind.wrap .i64 (63 - x5_1)))) 64))) 0) then
    some ⟨[.int x3_1], [], f235_fresh⟩
  else
    f235_l0 run n k0 x0_1 (IntKind.wrap .i64 (x3_1 + 1)) (IntKind.wrap .i64 (x5_1 + 1))
  else none
  else
    some ⟨[.int x3_1], [], f235_fresh⟩ := by kernel_rfl
noncomputable def f235 (run : Run) (n : Nat) (a0_1 : Int) : Option Res := evalK G run n f235_info.keep 0 f235_info.body (retE G f235_info) (f235_info.start [.int a0_1])
theorem f235_eq (run : Run) (n : Nat) (a0_1 : Int) : f235 run n a0_1 =
  f235_l0 run n n a0_1 0 0 := by kernel_rfl
theorem f235_run (ext : Run) (n : Nat) (a0_1 : Int) : runE G ext (n + 1) 235 [.int a0_1] = f235 (runE G ext n) n a0_1 := runE_succ f235_at f235_in

noncomputable def f234_l0 (run : Run) (n : Nat) (k0 : Nat) (x5_1 : Int) (o1_1 : List AV) : Option Res :=
  iterK (evalK G run n f234_keep 0 (sub [1, 0, 1, 0, 0] f234_body)) f234_t0 f234_o0 (blockK 0 (seqK (evalK G run n f234_keep 0 (sub [1, 1] f234_body) (retE G f234_info)) (retE G f234_info))) k0
    ⟨[.any, .ptr ⟨(.arr 5 (.int .u64)), 1, 1, []⟩, .any, .any, .any, .val (.int .i64) none (.int x5_1), .any, .any, .any, .any, .any, .any, .any, .any, .any, .any, .any, .any, .any, .any, .any], [⟨0, none⟩, ⟨1, some ⟨(.arr 5 (.int .u64)), .agg o1_1⟩⟩, ⟨0, none⟩, ⟨0, none⟩, ⟨0, none⟩, ⟨0, none⟩, ⟨0, none⟩, ⟨0, none⟩, ⟨0, none⟩, ⟨0, none⟩, ⟨0, none⟩, ⟨0, none⟩, ⟨0, none⟩, ⟨0, none⟩, ⟨0, none⟩, ⟨0, none⟩, ⟨0, none⟩, ⟨0, none⟩, ⟨0, none⟩, ⟨0, none⟩, ⟨0, none⟩], List.replicate 21 0⟩
theorem f234_l0_eq (run : Run) (n : Nat) (k0 : Nat) (x5_1 : Int) (o1_1 : List AV) : f234_l0 run n (k0 + 1) x5_1 o1_1 =
  bif ltI x5_1 5 then
    bif inR (IntKind.wrap .i64 (4 - x5_1)) 5 then
    bif !(eqI ((AV.fld (.agg o1_1) (Int.toNat (IntKind.wrap .i64 (4 - x5_1)))).toInt) 0) then
    (run 235 [.int ((AV.fld (.agg o1_1) (Int.toNat (IntKind.wrap .i64 (4 - x5_1)))).toInt)]).bind fun r1 =>
    nilV r1.outs (consV r1.vals fun v1 vs1 =>
    nilV vs1 (some ⟨[.int (IntKind.wrap .i64 (IntKind.wrap .i64 (320 - IntKind.wrap .i64 (64 * x5_1)) - v1.toInt))], [], f234_fresh⟩))
  else
    f234_l0 run n k0 (IntKind.wrap .i64 (x5_1 + 1)) o1_1
  else none
  else
    some ⟨[.int 0], [], f234_fresh⟩ := by kernel_rfl
noncomputable def f234 (run : Run) (n : Nat) (a0_1 : List AV) : Option Res := evalK G run n f234_info.keep 0 f234_info.body (retE G f234_info) (f234_info.start [.agg a0_1])
theorem f234_eq (run : Run) (n : Nat) (a0_1 : List AV) : f234 run n a0_1 =
  f234_l0 run n n 0 a0_1 := by kernel_rfl
theorem f234_run (ext : Run) (n : Nat) (a0_1 : List AV) : runE G ext (n + 1) 234 [.agg a0_1] = f234 (runE G ext n) n a0_1 := runE_succ f234_at f234_in

noncomputable def f226_l0 (run : Run) (n : Nat) (k0 : Nat) (x7_1 : Int) (x8_1 : Int) (x9_1 : Int) (o2_1 : List AV) (o4_1 : List AV) (o6_1 : List AV) : Option Res :=
  iterK (evalK G run n f226_keep 0 (sub [1, 1, 1, 1, 1, 0, 1, 0, 0] f226_body)) f226_t0 f226_o0 (blockK 0 (seqK (evalK G run n f226_keep 0 (sub [1, 1, 1, 1, 1, 1] f226_body) (retE G f226_info)) (retE G f226_info))) k0
    ⟨[.any, .any, .ptr ⟨(.arr 5 (.int .u64)), 2, 1, []⟩, .any, .ptr ⟨(.arr 5 (.int .u64)), 4, 1, []⟩, .any, .ptr ⟨(.arr 5 (.int .u64)), 6, 1, []⟩, .val (.int .i64) none (.int x7_1), .val (.int .u64) none (.int x8_1), .val (.int .i64) none (.int x9_1), .any, .any, .any, .any, .any, .any, .any, .any, .any, .any, .any, .any, .any, .any, .any, .any, .any, .any, .any, .any, .any, .any, .any, .any, .any, .any, .any, .any, .any, .any, .any, .any, .any, .any, .any, .any, .any, .any, .any, .any, .any, .any, .any, .any, .any, .any, .any, .any, .any, .any, .any, .any, .any, .any, .any, .any, .any, .any, .any, .any], [⟨0, none⟩, ⟨0, none⟩, ⟨1, some ⟨(.arr 5 (.int .u64)), .agg o2_1⟩⟩, ⟨0, none⟩, ⟨1, some ⟨(.arr 5 (.int .u64)), .agg o4_1⟩⟩, ⟨0, none⟩, ⟨1, some ⟨(.arr 5 (.int .u64)), .agg o6_1⟩⟩, ⟨0, none⟩, ⟨0, none⟩, ⟨0, none⟩, ⟨0, none⟩, ⟨0, none⟩, ⟨0, none⟩, ⟨0, none⟩, ⟨0, none⟩, ⟨0, none⟩, ⟨0, none⟩, ⟨0, none⟩, ⟨0, none⟩, ⟨0, none⟩, ⟨0, none⟩, ⟨0, none⟩, ⟨0, none⟩, ⟨0, none⟩, ⟨0, none⟩, ⟨0, none⟩, ⟨0, none⟩, ⟨0, none⟩, ⟨0, none⟩, ⟨0, none⟩, ⟨0, none⟩, ⟨0, none⟩, ⟨0, none⟩, ⟨0, none⟩, ⟨0, none⟩, ⟨0, none⟩, ⟨0, none⟩, ⟨0, none⟩, ⟨0, none⟩, ⟨0, none⟩, ⟨0, none⟩, ⟨0, none⟩, ⟨0, none⟩, ⟨0, none⟩, ⟨0, none⟩, ⟨0, none⟩, ⟨0, none⟩, ⟨0, none⟩, ⟨0, none⟩, ⟨0, none⟩, ⟨0, none⟩, ⟨0, none⟩, ⟨0, none⟩, ⟨0, none⟩, ⟨0, none⟩, ⟨0, none⟩, ⟨0, none⟩, ⟨0, none⟩, ⟨0, none⟩, ⟨0, none⟩, ⟨0, none⟩, ⟨0, none⟩, ⟨0, none⟩, ⟨0, none⟩, ⟨0, none⟩, ⟨0, none⟩, ⟨0, none⟩, ⟨0, none⟩, ⟨0, none⟩, ⟨0, none⟩], List.replicate 70 0⟩
theorem f226_l0_eq (run : Run) (n : Nat) (k0 : Nat) (x7_1 : Int) (x8_1 : Int) (x9_1 : Int) (o2_1 : List AV) (o4_1 : List AV) (o6_1 : List AV) : f226_l0 run n (k0 + 1) x7_1 x8_1 x9_1 o2_1 o4_1 o6_1 =
  bif ltI x9_1 5 then
    bif inR (IntKind.wrap .i64 (x9_1 - x7_1)) 5 then
    bif leI 0 x8_1 then
    bif inR x9_1 5 then
    bif ltI 0 x8_1 then
    bif ltI x7_1 x9_1 then
    bif inR x9_1 5 then
    bif inR (IntKind.wrap .i64 (IntKind.wrap .i64 (x9_1 - x7_1) - 1)) 5 then
    bif leI 0 (IntKind.wrap .u64 (64 - x8_1)) then
    bif inR x9_1 5 then
    f226_l0 run n k0 x7_1 x8_1 (IntKind.wrap .i64 (x9_1 + 1)) o2_1 o4_1 ((o6_1.set (Int.toNat x9_1) (.int (IntKind.wrap .u64 ((AV.fld (.agg o2_1) (Int.toNat (IntKind.wrap .i64 (x9_1 - x7_1)))).toInt * 2 ^ (min (Int.toNat x8_1) 64))))).set (Int.toNat x9_1) (.int (IntKind.wrap .u64 (BitVec.toNat (BitVec.ofInt 64 ((AV.fld (.agg (o6_1.set (Int.toNat x9_1) (.int (IntKind.wrap .u64 ((AV.fld (.agg o2_1) (Int.toNat (IntKind.wrap .i64 (x9_1 - x7_1)))).toInt * 2 ^ (min (Int.toNat x8_1) 64)))))) (Int.toNat x9_1)).toInt) ||| BitVec.ofInt 64 (Int.fdiv ((AV.fld (.agg o2_1) (Int.toNat (IntKind.wrap .i64 (IntKind.wrap .i64 (x9_1 - x7_1) - 1)))).toInt) (2 ^ (min (Int.toNat (IntKind.wrap .u64 (64 - x8_1))) 64))))))))
  else none
  else none
  else none
  else none
  else
    f226_l0 run n k0 x7_1 x8_1 (IntKind.wrap .i64 (x9_1 + 1)) o2_1 o4_1 (o6_1.set (Int.toNat x9_1) (.int (IntKind.wrap .u64 ((AV.fld (.agg o2_1) (Int.toNat (IntKind.wrap .i64 (x9_1 - x7_1)))).toInt * 2 ^ (min (Int.toNat x8_1) 64)))))
  else
    f226_l0 run n k0 x7_1 x8_1 (IntKind.wrap .i64 (x9_1 + 1)) o2_1 o4_1 (o6_1.set (Int.toNat x9_1) (.int (IntKind.wrap .u64 ((AV.fld (.agg o2_1) (Int.toNat (IntKind.wrap .i64 (x9_1 - x7_1)))).toInt * 2 ^ (min (Int.toNat x8_1) 64)))))
  else none
  else none
  else none
  else
    some ⟨[.agg o6_1, .bool true], [], f226_fresh⟩ := by kernel_rfl
noncomputable def f226 (run : Run) (n : Nat) (a0_1 : List AV) (a1_1 : Int) : Option Res := evalK G run n f226_info.keep 0 f226_info.body (retE G f226_info) (f226_info.start [.agg a0_1, .int a1_1])
theorem f226_eq (run : Run) (n : Nat) (a0_1 : List AV) (a1_1 : Int) : f226 run n a0_1 a1_1 =
  bif ltI a1_1 0 then
    some ⟨[.agg [.int 0, .int 0, .int 0, .int 0, .int 0], .bool false], [], f226_fresh⟩
  else
    (run 234 [.agg a0_1]).bind fun r1 =>
    nilV r1.outs (consV r1.vals fun v1 vs1 =>
    nilV vs1 (bif ltI 0 v1.toInt then
    (run 234 [.agg a0_1]).bind fun r2 =>
    nilV r2.outs (consV r2.vals fun v2 vs2 =>
    nilV vs2 (bif ltI (IntKind.wrap .i64 (320 - v2.toInt)) a1_1 then
    some ⟨[.agg [.int 0, .int 0, .int 0, .int 0, .int 0], .bool false], [], f226_fresh⟩
  else
    (run 234 [.agg a0_1]).bind fun r3 =>
    nilV r3.outs (consV r3.vals fun v3 vs3 =>
    nilV vs3 (bif eqI v3.toInt 0 then
    some ⟨[.agg [.int 0, .int 0, .int 0, .int 0, .int 0], .bool true], [], f226_fresh⟩
  else
    f226_l0 run n n (IntKind.wrap .i64 (Int.tdiv a1_1 64)) (IntKind.wrap .u64 (Int.tmod a1_1 64)) (IntKind.wrap .i64 (Int.tdiv a1_1 64)) a0_1 (List.replicate 5 (.int 0)) (List.replicate 5 (.int 0))))))
  else
    (run 234 [.agg a0_1]).bind fun r4 =>
    nilV r4.outs (consV r4.vals fun v4 vs4 =>
    nilV vs4 (bif eqI v4.toInt 0 then
    some ⟨[.agg [.int 0, .int 0, .int 0, .int 0, .int 0], .bool true], [], f226_fresh⟩
  else
    f226_l0 run n n (IntKind.wrap .i64 (Int.tdiv a1_1 64)) (IntKind.wrap .u64 (Int.tmod a1_1 64)) (IntKind.wrap .i64 (Int.tdiv a1_1 64)) a0_1 (List.replicate 5 (.int 0)) (List.replicate 5 (.int 0)))))) := by kernel_rfl
theorem f226_run (ext : Run) (n : Nat) (a0_1 : List AV) (a1_1 : Int) : runE G ext (n + 1) 226 [.agg a0_1, .int a1_1] = f226 (runE G ext n) n a0_1 a1_1 := runE_succ f226_at f226_in

noncomputable def f233_l0 (run : Run) (n : Nat) (k0 : Nat) (x7_1 : Int) (x11_1 : Int) (o2_1 : List AV) (o3_1 : List AV) (o4_1 : List AV) (o6_1 : List AV) : Option Res :=
  iterK (evalK G run n f233_keep 0 (sub [1, 1, 1, 0, 1, 0, 0] f233_body)) f233_t0 f233_o0 (blockK 0 (seqK (evalK G run n f233_keep 0 (sub [1, 1, 1, 1] f233_body) (retE G f233_info)) (retE G f233_info))) k0
    ⟨[.any, .any, .ptr ⟨(.arr 5 (.int .u64)), 2, 1, []⟩, .ptr ⟨(.arr 5 (.int .u64)), 3, 1, []⟩, .ptr ⟨(.arr 5 (.int .u64)), 4, 1, []⟩, .any, .ptr ⟨(.arr 5 (.int .u64)), 6, 1, []⟩, .val (.int .u64) none (.int x7_1), .any, .any, .any, .val (.int .i64) none (.int x11_1), .any, .any, .any, .any, .any, .any, .any, .any, .any, .any, .any, .any, .any, .any, .any, .any, .any, .any, .any, .any, .any, .any, .any, .any, .any, .any, .any, .any, .any, .any, .any, .any, .any, .any, .any, .any, .any, .any, .any], [⟨0, none⟩, ⟨0, none⟩, ⟨1, some ⟨(.arr 5 (.int .u64)), .agg o2_1⟩⟩, ⟨1, some ⟨(.arr 5 (.int .u64)), .agg o3_1⟩⟩, ⟨1, some ⟨(.arr 5 (.int .u64)), .agg o4_1⟩⟩, ⟨0, none⟩, ⟨1, some ⟨(.arr 5 (.int .u64)), .agg o6_1⟩⟩, ⟨0, none⟩, ⟨0, none⟩, ⟨0, none⟩, ⟨0, none⟩, ⟨0, none⟩, ⟨0, none⟩, ⟨0, none⟩, ⟨0, none⟩, ⟨0, none⟩, ⟨0, none⟩, ⟨0, none⟩, ⟨0, none⟩, ⟨0, none⟩, ⟨0, none⟩, ⟨0, none⟩, ⟨0, none⟩, ⟨0, none⟩, ⟨0, none⟩, ⟨0, none⟩, ⟨0, none⟩, ⟨0, none⟩, ⟨0, none⟩, ⟨0, none⟩, ⟨0, none⟩, ⟨0, none⟩, ⟨0, none⟩, ⟨0, none⟩, ⟨0, none⟩, ⟨0, none⟩, ⟨0, none⟩, ⟨0, none⟩, ⟨0, none⟩, ⟨0, none⟩, ⟨0, none⟩, ⟨0, none⟩, ⟨0, none⟩, ⟨0, none⟩, ⟨0, none⟩, ⟨0, none⟩, ⟨0, none⟩, ⟨0, none⟩, ⟨0, none⟩, ⟨0, none⟩, ⟨0, none⟩], List.replicate 51 0⟩
theorem f233_l0_eq (run : Run) (n : Nat) (k0 : Nat) (x7_1 : Int) (x11_1 : Int) (o2_1 : List AV) (o3_1 : List AV) (o4_1 : List AV) (o6_1 : List AV) : f233_l0 run n (k0 + 1) x7_1 x11_1 o2_1 o3_1 o4_1 o6_1 =
  bif ltI x11_1 5 then
    bif inR x11_1 5 then
    bif inR x11_1 5 then
    bif inR x11_1 5 then
    bif inR x11_1 5 then
    bif inR x11_1 5 then
    f233_l0 run n k0 (Int.fdiv (IntKind.wrap .u64 (IntKind.wrap .u64 (Int.fdiv ((AV.fld (.agg o2_1) (Int.toNat x11_1)).toInt) (2 ^ 32) + Int.fdiv ((AV.fld (.agg o3_1) (Int.toNat x11_1)).toInt) (2 ^ 32)) + Int.fdiv (IntKind.wrap .u64 (IntKind.wrap .u64 (IntKind.wrap .u64 (BitVec.toNat (BitVec.ofInt 64 ((AV.fld (.agg o2_1) (Int.toNat x11_1)).toInt) &&& BitVec.ofInt 64 4294967295)) + IntKind.wrap .u64 (BitVec.toNat (BitVec.ofInt 64 ((AV.fld (.agg o3_1) (Int.toNat x11_1)).toInt) &&& BitVec.ofInt 64 4294967295))) + x7_1)) (2 ^ 32))) (2 ^ 32)) (IntKind.wrap .i64 (x11_1 + 1)) o2_1 o3_1 o4_1 (o6_1.set (Int.toNat x11_1) (.int (IntKind.wrap .u64 (BitVec.toNat (BitVec.ofInt 64 (IntKind.wrap .u64 (IntKind.wrap .u64 (IntKind.wrap .u64 (Int.fdiv ((AV.fld (.agg o2_1) (Int.toNat x11_1)).toInt) (2 ^ 32) + Int.fdiv ((AV.fld (.agg o3_1) (Int.toNat x11_1)).toInt) (2 ^ 32)) + Int.fdiv (IntKind.wrap .u64 (IntKind.wrap .u64 (IntKind.wrap .u64 (BitVec.toNat (BitVec.ofInt 64 ((AV.fld (.agg o2_1) (Int.toNat x11_1)).toInt) &&& BitVec.ofInt 64 4294967295)) + IntKind.wrap .u64 (BitVec.toNat (BitVec.ofInt 64 ((AV.fld (.agg o3_1) (Int.toNat x11_1)).toInt) &&& BitVec.ofInt 64 4294967295))) + x7_1)) (2 ^ 32)) * 2 ^ 32)) ||| BitVec.ofInt 64 (IntKind.wrap .u64 (BitVec.toNat (BitVec.ofInt 64 (IntKind.wrap .u64 (IntKind.wrap .u64 (IntKind.wrap .u64 (BitVec.toNat (BitVec.ofInt 64 ((AV.fld (.agg o2_1) (Int.toNat x11_1)).toInt) &&& BitVec.ofInt 64 4294967295)) + IntKind.wrap .u64 (BitVec.toNat (BitVec.ofInt 64 ((AV.fld (.agg o3_1) (Int.toNat x11_1)).toInt) &&& BitVec.ofInt 64 4294967295))) + x7_1)) &&& BitVec.ofInt 64 4294967295))))))))
  else none
  else none
  else none
  else none
  else none
  else
    bif !(eqI x7_1 0) then
    some ⟨[.agg [.int 0, .int 0, .int 0, .int 0, .int 0], .bool false], [], f233_fresh⟩
  else
    some ⟨[.agg o6_1, .bool true], [], f233_fresh⟩ := by kernel_rfl
noncomputable def f233 (run : Run) (n : Nat) (a0_1 : List AV) (a1_1 : List AV) : Option Res := evalK G run n f233_info.keep 0 f233_info.body (retE G f233_info) (f233_info.start [.agg a0_1, .agg a1_1])
theorem f233_eq (run : Run) (n : Nat) (a0_1 : List AV) (a1_1 : List AV) : f233 run n a0_1 a1_1 =
  f233_l0 run n n 0 0 a0_1 a1_1 (List.replicate 5 (.int 0)) (List.replicate 5 (.int 0)) := by kernel_rfl
theorem f233_run (ext : Run) (n : Nat) (a0_1 : List AV) (a1_1 : List AV) : runE G ext (n + 1) 233 [.agg a0_1, .agg a1_1] = f233 (runE G ext n) n a0_1 a1_1 := runE_succ f233_at f233_in

noncomputable def f224 (run : Run) (n : Nat) (a0_1 : List AV) (a1_1 : Int) : Option Res := evalK G run n f224_info.keep 0 f224_info.body (retE G f224_info) (f224_info.start [.agg a0_1, .int a1_1])
theorem f224_eq (run : Run) (n : Nat) (a0_1 : List AV) (a1_1 : Int) : f224 run n a0_1 a1_1 =
  (run 232 [.agg a0_1, .int (IntKind.wrap .u64 (BitVec.toNat (BitVec.ofInt 64 a1_1 &&& BitVec.ofInt 64 4294967295)))]).bind fun r1 =>
    nilV r1.outs (consV r1.vals fun v1 vs1 =>
    consV vs1 fun v2 vs2 =>
    nilV vs2 (bif !v2.toBool then
    some ⟨[.agg [.int 0, .int 0, .int 0, .int 0, .int 0], .bool false], [], f224_fresh⟩
  else
    (run 232 [.agg a0_1, .int (Int.fdiv a1_1 (2 ^ 32))]).bind fun r2 =>
    nilV r2.outs (consV r2.vals fun v3 vs3 =>
    consV vs3 fun v4 vs4 =>
    nilV vs4 (bif !v4.toBool then
    some ⟨[.agg [.int 0, .int 0, .int 0, .int 0, .int 0], .bool false], [], f224_fresh⟩
  else
    (run 226 [.agg v3.toAgg, .int 32]).bind fun r3 =>
    nilV r3.outs (consV r3.vals fun v5 vs5 =>
    consV vs5 fun v6 vs6 =>
    nilV vs6 (bif !v6.toBool then
    some ⟨[.agg [.int 0, .int 0, .int 0, .int 0, .int 0], .bool false], [], f224_fresh⟩
  else
    (run 233 [.agg v1.toAgg, .agg v5.toAgg]).bind fun r4 =>
    nilV r4.outs (consV r4.vals fun v7 vs7 =>
    consV vs7 fun v8 vs8 =>
    nilV vs8 (some ⟨[.agg v7.toAgg, .bool v8.toBool], [], f224_fresh⟩)))))))) := by kernel_rfl
theorem f224_run (ext : Run) (n : Nat) (a0_1 : List AV) (a1_1 : Int) : runE G ext (n + 1) 224 [.agg a0_1, .int a1_1] = f224 (runE G ext n) n a0_1 a1_1 := runE_succ f224_at f224_in

noncomputable def f215 (run : Run) (n : Nat) (a0_1 : Int) (a1_1 : Int) (a2_1 : Int) : Option Res := evalK G run n f215_info.keep 0 f215_info.body (retE G f215_info) (f215_info.start [.int a0_1, .int a1_1, .int a2_1])
theorem f215_eq (run : Run) (n : Nat) (a0_1 : Int) (a1_1 : Int) (a2_1 : Int) : f215 run n a0_1 a1_1 a2_1 =
  (run 225 [.int (IntKind.wrap .u64 a0_1)]).bind fun r1 =>
    nilV r1.outs (consV r1.vals fun v1 vs1 =>
    nilV vs1 ((run 224 [.agg v1.toAgg, .int (IntKind.wrap .u64 a1_1)]).bind fun r2 =>
    nilV r2.outs (consV r2.vals fun v2 vs2 =>
    consV vs2 fun _v3 vs3 =>
    nilV vs3 (bif ltI a2_1 0 then
    some ⟨[.agg [.int 0, .int 0, .int 0, .int 0, .int 0], .bool false], [], f215_fresh⟩
  else
    bif ltI 255 a2_1 then
    some ⟨[.agg [.int 0, .int 0, .int 0, .int 0, .int 0], .bool false], [], f215_fresh⟩
  else
    (run 226 [.agg v2.toAgg, .int a2_1]).bind fun r3 =>
    nilV r3.outs (consV r3.vals fun v4 vs4 =>
    consV vs4 fun v5 vs5 =>
    nilV vs5 (some ⟨[.agg v4.toAgg, .bool v5.toBool], [], f215_fresh⟩)))))) := by kernel_rfl
theorem f215_run (ext : Run) (n : Nat) (a0_1 : Int) (a1_1 : Int) (a2_1 : Int) : runE G ext (n + 1) 215 [.int a0_1, .int a1_1, .int a2_1] = f215 (runE G ext n) n a0_1 a1_1 a2_1 := runE_succ f215_at f215_in

noncomputable def f196 (run : Run) (n : Nat) (a0_1 : Int) (a1_1 : Int) (a2_1 : Int) (a3_1 : Int) (a4_1 : Int) : Option Res := evalK G run n f196_info.keep 0 f196_info.body (retE G f196_info) (f196_info.start [.int a0_1, .int a1_1, .int a2_1, .int a3_1, .int a4_1])
theorem f196_eq (run : Run) (n : Nat) (a0_1 : Int) (a1_1 : Int) (a2_1 : Int) (a3_1 : Int) (a4_1 : Int) : f196 run n a0_1 a1_1 a2_1 a3_1 a4_1 =
  (run 38 [.int a3_1, .int a4_1]).bind fun r1 =>
    nilV r1.outs (consV r1.vals fun v1 vs1 =>
    nilV vs1 (bif !v1.toBool then
    some ⟨[.agg [.int 0, .int 0, .int 0, .int 0, .int 0], .agg [.int 0, .int 0, .int 0, .int 0, .int 0], .bool false], [], f196_fresh⟩
  else
    (run 215 [.int a0_1, .int (IntKind.wrap .u32 a4_1), .int a2_1]).bind fun r2 =>
    nilV r2.outs (consV r2.vals fun v2 vs2 =>
    consV vs2 fun v3 vs3 =>
    nilV vs3 ((run 215 [.int a1_1, .int (IntKind.wrap .u32 (IntKind.wrap .i64 (a4_1 - a3_1))), .int 0]).bind fun r3 =>
    nilV r3.outs (consV r3.vals fun v4 vs4 =>
    consV vs4 fun _v5 vs5 =>
    nilV vs5 (some ⟨[.agg v2.toAgg, .agg v4.toAgg, .bool v3.toBool], [], f196_fresh⟩)))))) := by kernel_rfl
theorem f196_run (ext : Run) (n : Nat) (a0_1 : Int) (a1_1 : Int) (a2_1 : Int) (a3_1 : Int) (a4_1 : Int) : runE G ext (n + 1) 196 [.int a0_1, .int a1_1, .int a2_1, .int a3_1, .int a4_1] = f196 (runE G ext n) n a0_1 a1_1 a2_1 a3_1 a4_1 := runE_succ f196_at f196_in

noncomputable def f197_l0 (run : Run) (n : Nat) (k0 : Nat) (x8_1 : Int) (o2_1 : List AV) (o3_1 : List AV) : Option Res :=
  iterK (evalK G run n f197_keep 0 (sub [1, 0, 1, 0, 0] f197_body)) f197_t0 f197_o0 (blockK 0 (seqK (evalK G run n f197_keep 0 (sub [1, 1] f197_body) (retE G f197_info)) (retE G f197_info))) k0
    ⟨[.any, .any, .ptr ⟨(.arr 5 (.int .u64)), 2, 1, []⟩, .ptr ⟨(.arr 5 (.int .u64)), 3, 1, []⟩, .any, .any, .any, .any, .val (.int .i64) none (.int x8_1), .any, .any, .any, .any, .any, .any, .any, .any, .any, .any, .any, .any, .any, .any, .any, .any, .any], [⟨0, none⟩, ⟨0, none⟩, ⟨1, some ⟨(.arr 5 (.int .u64)), .agg o2_1⟩⟩, ⟨1, some ⟨(.arr 5 (.int .u64)), .agg o3_1⟩⟩, ⟨0, none⟩, ⟨0, none⟩, ⟨0, none⟩, ⟨0, none⟩, ⟨0, none⟩, ⟨0, none⟩, ⟨0, none⟩, ⟨0, none⟩, ⟨0, none⟩, ⟨0, none⟩, ⟨0, none⟩, ⟨0, none⟩, ⟨0, none⟩, ⟨0, none⟩, ⟨0, none⟩, ⟨0, none⟩, ⟨0, none⟩, ⟨0, none⟩, ⟨0, none⟩, ⟨0, none⟩, ⟨0, none⟩, ⟨0, none⟩], List.replicate 26 0⟩
theorem f197_l0_eq (run : Run) (n : Nat) (k0 : Nat) (x8_1 : Int) (o2_1 : List AV) (o3_1 : List AV) : f197_l0 run n (k0 + 1) x8_1 o2_1 o3_1 =
  bif ltI x8_1 5 then
    bif inR (IntKind.wrap .i64 (4 - x8_1)) 5 then
    bif inR (IntKind.wrap .i64 (4 - x8_1)) 5 then
    bif !(eqI ((AV.fld (.agg o2_1) (Int.toNat (IntKind.wrap .i64 (4 - x8_1)))).toInt) ((AV.fld (.agg o3_1) (Int.toNat (IntKind.wrap .i64 (4 - x8_1)))).toInt)) then
    bif ltI ((AV.fld (.agg o2_1) (Int.toNat (IntKind.wrap .i64 (4 - x8_1)))).toInt) ((AV.fld (.agg o3_1) (Int.toNat (IntKind.wrap .i64 (4 - x8_1)))).toInt) then
    some ⟨[.int (-1)], [], f197_fresh⟩
  else
    some ⟨[.int 1], [], f197_fresh⟩
  else
    f197_l0 run n k0 (IntKind.wrap .i64 (x8_1 + 1)) o2_1 o3_1
  else none
  else none
  else
    some ⟨[.int 0], [], f197_fresh⟩ := by kernel_rfl
noncomputable def f197 (run : Run) (n : Nat) (a0_1 : List AV) (a1_1 : List AV) : Option Res := evalK G run n f197_info.keep 0 f197_info.body (retE G f197_info) (f197_info.start [.agg a0_1, .agg a1_1])
theorem f197_eq (run : Run) (n : Nat) (a0_1 : List AV) (a1_1 : List AV) : f197 run n a0_1 a1_1 =
  f197_l0 run n n 0 a0_1 a1_1 := by kernel_rfl
theorem f197_run (ext : Run) (n : Nat) (a0_1 : List AV) (a1_1 : List AV) : runE G ext (n + 1) 197 [.agg a0_1, .agg a1_1] = f197 (runE G ext n) n a0_1 a1_1 := runE_succ f197_at f197_in

noncomputable def f175 (run : Run) (n : Nat) (a0_1 : Int) (a1_1 : Int) (a2_1 : Int) (a3_1 : Int) (a4_1 : Int) : Option Res := evalK G run n f175_info.keep 0 f175_info.body (retE G f175_info) (f175_info.start [.int a0_1, .int a1_1, .int a2_1, .int a3_1, .int a4_1])
theorem f175_eq (run : Run) (n : Nat) (a0_1 : Int) (a1_1 : Int) (a2_1 : Int) (a3_1 : Int) (a4_1 : Int) : f175 run n a0_1 a1_1 a2_1 a3_1 a4_1 =
  (run 196 [.int a0_1, .int a1_1, .int a2_1, .int a3_1, .int a4_1]).bind fun r1 =>
    nilV r1.outs (consV r1.vals fun v1 vs1 =>
    consV vs1 fun v2 vs2 =>
    consV vs2 fun v3 vs3 =>
    nilV vs3 (bif v3.toBool then
    (run 197 [.agg v1.toAgg, .agg v2.toAgg]).bind fun r2 =>
    nilV r2.outs (consV r2.vals fun v4 vs4 =>
    nilV vs4 (some ⟨[.bool (ltI 0 v4.toInt)], [], f175_fresh⟩))
  else
    some ⟨[.bool false], [], f175_fresh⟩)) := by kernel_rfl
theorem f175_run (ext : Run) (n : Nat) (a0_1 : Int) (a1_1 : Int) (a2_1 : Int) (a3_1 : Int) (a4_1 : Int) : runE G ext (n + 1) 175 [.int a0_1, .int a1_1, .int a2_1, .int a3_1, .int a4_1] = f175 (runE G ext n) n a0_1 a1_1 a2_1 a3_1 a4_1 := runE_succ f175_at f175_in

noncomputable def f146 (run : Run) (n : Nat) (a0_1 : Int) (a1_1 : Int) (a2_1 : Int) (a3_1 : Int) (a4_1 : Int) : Option Res := evalK G run n f146_info.keep 0 f146_info.body (retE G f146_info) (f146_info.start [.int a0_1, .int a1_1, .int a2_1, .int a3_1, .int a4_1])
theorem f146_eq (run : Run) (n : Nat) (a0_1 : Int) (a1_1 : Int) (a2_1 : Int) (a3_1 : Int) (a4_1 : Int) : f146 run n a0_1 a1_1 a2_1 a3_1 a4_1 =
  bif leI 0 a0_1 then
    bif leI 0 a1_1 then
    bif leI a0_1 1024 then
    bif leI a1_1 1024 then
    (run 175 [.int (IntKind.wrap .u32 a0_1), .int (IntKind.wrap .u32 a1_1), .int a2_1, .int a3_1, .int a4_1]).bind fun r1 =>
    nilV r1.outs (consV r1.vals fun v1 vs1 =>
    nilV vs1 (some ⟨[.bool v1.toBool], [], f146_fresh⟩))
  else
    some ⟨[.bool false], [], f146_fresh⟩
  else
    some ⟨[.bool false], [], f146_fresh⟩
  else
    some ⟨[.bool false], [], f146_fresh⟩
  else
    some ⟨[.bool false], [], f146_fresh⟩ := by kernel_rfl
theorem f146_run (ext : Run) (n : Nat) (a0_1 : Int) (a1_1 : Int) (a2_1 : Int) (a3_1 : Int) (a4_1 : Int) : runE G ext (n + 1) 146 [.int a0_1, .int a1_1, .int a2_1, .int a3_1, .int a4_1] = f146 (runE G ext n) n a0_1 a1_1 a2_1 a3_1 a4_1 := runE_succ f146_at f146_in

noncomputable def f117_l0 (run : Run) (n : Nat) (k0 : Nat) (x0_1 : List AV) (x1_1 : Int) (x3_1 : Int) (x4_1 : Int) (x11_1 : List AV) (x12_1 : Int) : Option Res :=
  iterK (evalK G run n f117_keep 0 (sub [1, 1, 1, 0, 1, 0, 0] f117_body)) f117_t0 f117_o0 (blockK 0 (seqK (evalK G run n f117_keep 0 (sub [1, 1, 1, 1] f117_body) (retE G f117_info)) (retE G f117_info))) k0
    ⟨[.val (.slice (.int .i64)) none (.slice x0_1), .val (.int .i64) none (.int x1_1), .any, .val (.int .i64) none (.int x3_1), .val (.int .i64) none (.int x4_1), .any, .any, .any, .any, .any, .any, .val (.slice (.int .i64)) (some (11, 0)) (.slice x11_1), .val (.int .i64) none (.int x12_1), .any, .any, .any, .any, .any, .any, .any, .any, .any, .any, .any, .any, .any, .any, .any, .any, .any, .any, .any, .any, .any, .any, .any, .any, .any, .any, .any, .any, .any, .any], [⟨0, none⟩, ⟨0, none⟩, ⟨0, none⟩, ⟨0, none⟩, ⟨0, none⟩, ⟨0, none⟩, ⟨0, none⟩, ⟨0, none⟩, ⟨0, none⟩, ⟨0, none⟩, ⟨0, none⟩, ⟨0, none⟩, ⟨0, none⟩, ⟨0, none⟩, ⟨0, none⟩, ⟨0, none⟩, ⟨0, none⟩, ⟨0, none⟩, ⟨0, none⟩, ⟨0, none⟩, ⟨0, none⟩, ⟨0, none⟩, ⟨0, none⟩, ⟨0, none⟩, ⟨0, none⟩, ⟨0, none⟩, ⟨0, none⟩, ⟨0, none⟩, ⟨0, none⟩, ⟨0, none⟩, ⟨0, none⟩, ⟨0, none⟩, ⟨0, none⟩, ⟨0, none⟩, ⟨0, none⟩, ⟨0, none⟩, ⟨0, none⟩, ⟨0, none⟩, ⟨0, none⟩, ⟨0, none⟩, ⟨0, none⟩, ⟨0, none⟩, ⟨0, none⟩], List.replicate 43 0⟩
theorem f117_l0_eq (run : Run) (n : Nat) (k0 : Nat) (x0_1 : List AV) (x1_1 : Int) (x3_1 : Int) (x4_1 : Int) (x11_1 : List AV) (x12_1 : Int) : f117_l0 run n (k0 + 1) x0_1 x1_1 x3_1 x4_1 x11_1 x12_1 =
  bif leI x12_1 (x11_1.length : Int) then
    bif inR (IntKind.wrap .i64 ((x11_1.length : Int) - x12_1)) x11_1.length then
    (run 146 [.int x12_1, .int (IntKind.wrap .i64 ((x0_1.length : Int) - (nth x11_1 (Int.toNat (IntKind.wrap .i64 ((x11_1.length : Int) - x12_1)))).toInt)), .int x1_1, .int x3_1, .int x4_1]).bind fun r2 =>
    nilV r2.outs (consV r2.vals fun v2 vs2 =>
    nilV vs2 (bif !v2.toBool then
    some ⟨[.bool false], [], f117_fresh⟩
  else
    f117_l0 run n k0 x0_1 x1_1 x3_1 x4_1 x11_1 (IntKind.wrap .i64 (x12_1 + 1))))
  else none
  else
    some ⟨[.bool true], [], f117_fresh⟩ := by kernel_rfl
noncomputable def f117 (run : Run) (n : Nat) (a0_1 : List AV) (a1_1 : Int) (a2_1 : Int) (a3_1 : Int) (a4_1 : Int) : Option Res := evalK G run n f117_info.keep 0 f117_info.body (retE G f117_info) (f117_info.start [.slice a0_1, .int a1_1, .int a2_1, .int a3_1, .int a4_1])
theorem f117_eq (run : Run) (n : Nat) (a0_1 : List AV) (a1_1 : Int) (a2_1 : Int) (a3_1 : Int) (a4_1 : Int) : f117 run n a0_1 a1_1 a2_1 a3_1 a4_1 =
  (run 46 [.slice a0_1, .int 0, .int a1_1]).bind fun r1 =>
    bif r1.fresh then
    nilV r1.outs (consV r1.vals fun v1 vs1 =>
    nilV vs1 (bif ltI 1024 (a0_1.length : Int) then
    some ⟨[.bool false], [], f117_fresh⟩
  else
    f117_l0 run n n a0_1 a1_1 a3_1 a4_1 v1.toSlice (mx2 a2_1 1)))
  else none := by kernel_rfl
theorem f117_run (ext : Run) (n : Nat) (a0_1 : List AV) (a1_1 : Int) (a2_1 : Int) (a3_1 : Int) (a4_1 : Int) : runE G ext (n + 1) 117 [.slice a0_1, .int a1_1, .int a2_1, .int a3_1, .int a4_1] = f117 (runE G ext n) n a0_1 a1_1 a2_1 a3_1 a4_1 := runE_succ f117_at f117_in

noncomputable def f147_l0 (run : Run) (n : Nat) (k0 : Nat) (x1_1 : Int) (m1 : Nat) (x12_1 : List AV) (x13_1 : Int) (x14_1 : Int) (o11_1 : List AV) : Option Res :=
  iterK (evalK G run n f147_keep 0 (sub [1, 1, 0, 1, 0, 0] f147_body)) f147_t0 f147_o0 (blockK 0 (seqK (evalK G run n f147_keep 0 (sub [1, 1, 1] f147_body) (retE G f147_info)) (retE G f147_info))) k0
    ⟨[.any, .val (.int .i64) none (.int x1_1), .any, .any, .any, .ref ⟨(.arr m1 (.int .i64)), 11, 1, []⟩ 0 m1, .any, .any, .any, .any, .any, .any, .val (.slice (.int .i64)) none (.slice x12_1), .val (.int .i64) none (.int x13_1), .val (.int .i64) none (.int x14_1), .any, .any, .any, .any, .any, .any, .any, .any, .any, .any, .any, .any, .any, .any, .any, .any, .any, .any, .any, .any, .any, .any, .any, .any], [⟨0, none⟩, ⟨0, none⟩, ⟨0, none⟩, ⟨0, none⟩, ⟨0, none⟩, ⟨0, none⟩, ⟨0, none⟩, ⟨0, none⟩, ⟨0, none⟩, ⟨0, none⟩, ⟨0, none⟩, ⟨1, some ⟨(.arr m1 (.int .i64)), .agg o11_1⟩⟩, ⟨0, none⟩, ⟨0, none⟩, ⟨0, none⟩, ⟨0, none⟩, ⟨0, none⟩, ⟨0, none⟩, ⟨0, none⟩, ⟨0, none⟩, ⟨0, none⟩, ⟨0, none⟩, ⟨0, none⟩, ⟨0, none⟩, ⟨0, none⟩, ⟨0, none⟩, ⟨0, none⟩, ⟨0, none⟩, ⟨0, none⟩, ⟨0, none⟩, ⟨0, none⟩, ⟨0, none⟩, ⟨0, none⟩, ⟨0, none⟩, ⟨0, none⟩, ⟨0, none⟩, ⟨0, none⟩, ⟨0, none⟩, ⟨0, none⟩], List.replicate 39 0⟩
theorem f147_l0_eq (run : Run) (n : Nat) (k0 : Nat) (x1_1 : Int) (m1 : Nat) (x12_1 : List AV) (x13_1 : Int) (x14_1 : Int) (o11_1 : List AV) : f147_l0 run n (k0 + 1) x1_1 m1 x12_1 x13_1 x14_1 o11_1 =
  bif ltI x14_1 x13_1 then
    bif inR x14_1 x12_1.length then
    bif inR x14_1 m1 then
    bif inR (IntKind.wrap .i64 (x14_1 + 1)) m1 then
    bif leI x1_1 ((nth x12_1 (Int.toNat x14_1)).toInt) then
    bif inR (IntKind.wrap .i64 (x14_1 + 1)) m1 then
    bif inR (IntKind.wrap .i64 (x14_1 + 1)) m1 then
    f147_l0 run n k0 x1_1 m1 x12_1 x13_1 (IntKind.wrap .i64 (x14_1 + 1)) ((o11_1.set (0 + (Int.toNat (IntKind.wrap .i64 (x14_1 + 1)))) (.int ((AV.fld (.agg o11_1) (0 + (Int.toNat x14_1))).toInt))).set (0 + (Int.toNat (IntKind.wrap .i64 (x14_1 + 1)))) (.int (IntKind.wrap .i64 ((AV.fld (.agg (o11_1.set (0 + (Int.toNat (IntKind.wrap .i64 (x14_1 + 1)))) (.int ((AV.fld (.agg o11_1) (0 + (Int.toNat x14_1))).toInt)))) (0 + (Int.toNat (IntKind.wrap .i64 (x14_1 + 1))))).toInt + 1))))
  else none
  else none
  else
    f147_l0 run n k0 x1_1 m1 x12_1 x13_1 (IntKind.wrap .i64 (x14_1 + 1)) (o11_1.set (0 + (Int.toNat (IntKind.wrap .i64 (x14_1 + 1)))) (.int ((AV.fld (.agg o11_1) (0 + (Int.toNat x14_1))).toInt)))
  else none
  else none
  else none
  else
    some ⟨[.slice (List.drop 0 (List.take m1 o11_1))], [], f147_fresh⟩ := by kernel_rfl
noncomputable def f147 (run : Run) (n : Nat) (a0_1 : List AV) (a1_1 : Int) : Option Res := evalK G run n f147_info.keep 0 f147_info.body (retE G f147_info) (f147_info.start [.slice a0_1, .int a1_1])
theorem f147_eq (run : Run) (n : Nat) (a0_1 : List AV) (a1_1 : Int) : f147 run n a0_1 a1_1 =
  bif eqI (IntKind.wrap .i64 ((a0_1.length : Int) + 1)) (IntKind.wrap .i64 ((a0_1.length : Int) + 1)) && leI 0 (IntKind.wrap .i64 ((a0_1.length : Int) + 1)) && Nat.ble (Int.toNat (IntKind.wrap .i64 ((a0_1.length : Int) + 1)) * 8) 140737488355328 then
    f147_l0 run n n a1_1 (Int.toNat (IntKind.wrap .i64 ((a0_1.length : Int) + 1))) a0_1 (a0_1.length : Int) 0 (List.replicate (Int.toNat (IntKind.wrap .i64 ((a0_1.length : Int) + 1))) (.int 0))
  else none := by kernel_rfl
theorem f147_run (ext : Run) (n : Nat) (a0_1 : List AV) (a1_1 : Int) : runE G ext (n + 1) 147 [.slice a0_1, .int a1_1] = f147 (runE G ext n) n a0_1 a1_1 := runE_succ f147_at f147_in

noncomputable def f176 (run : Run) (n : Nat) (a0_1 : Int) (a1_1 : Int) (a2_1 : Int) (a3_1 : Int) (a4_1 : Int) : Option Res := evalK G run n f176_info.keep 0 f176_info.body (retE G f176_info) (f176_info.start [.int a0_1, .int a1_1, .int a2_1, .int a3_1, .int a4_1])
theorem f176_eq (run : Run) (n : Nat) (a0_1 : Int) (a1_1 : Int) (a2_1 : Int) (a3_1 : Int) (a4_1 : Int) : f176 run n a0_1 a1_1 a2_1 a3_1 a4_1 =
  (run 196 [.int a0_1, .int a1_1, .int a2_1, .int a3_1, .int a4_1]).bind fun r1 =>
    nilV r1.outs (consV r1.vals fun v1 vs1 =>
    consV vs1 fun v2 vs2 =>
    consV vs2 fun v3 vs3 =>
    nilV vs3 (bif v3.toBool then
    (run 197 [.agg v1.toAgg, .agg v2.toAgg]).bind fun r2 =>
    nilV r2.outs (consV r2.vals fun v4 vs4 =>
    nilV vs4 (some ⟨[.bool (leI 0 v4.toInt)], [], f176_fresh⟩))
  else
    some ⟨[.bool false], [], f176_fresh⟩)) := by kernel_rfl
theorem f176_run (ext : Run) (n : Nat) (a0_1 : Int) (a1_1 : Int) (a2_1 : Int) (a3_1 : Int) (a4_1 : Int) : runE G ext (n + 1) 176 [.int a0_1, .int a1_1, .int a2_1, .int a3_1, .int a4_1] = f176 (runE G ext n) n a0_1 a1_1 a2_1 a3_1 a4_1 := runE_succ f176_at f176_in

noncomputable def f148_l2 (run : Run) (n : Nat) (k0 : Nat) (k2 : Nat) (x0_2 : List AV) (x1_2 : List AV) (x2_2 : Int) (x3_2 : Int) (x4_2 : Int) (x5_2 : Int) (x13_1 : Int) (x14_1 : Int) (x18_2 : Int) (x19_2 : Int) : Option Res :=
  iterK (evalK G run n f148_keep 2 (sub [1, 0, 1, 0, 0, 1, 1, 0, 0, 1, 1, 0, 0] f148_body)) f148_t2 f148_o2 (blockK 2 (blockK 1 (seqK (evalK G run n f148_keep 0 (sub [1, 0, 1, 0, 0, 1, 1, 1] f148_body) (seqK (fun t => iterK (evalK G run n f148_keep 0 (sub [1, 0, 1, 0, 0] f148_body)) f148_t0 f148_o0 (blockK 0 (seqK (evalK G run n f148_keep 0 (sub [1, 1] f148_body) (retE G f148_info)) (retE G f148_info))) k0 (t.clear f148_t0 f148_o0)) (blockK 0 (seqK (evalK G run n f148_keep 0 (sub [1, 1] f148_body) (retE G f148_info)) (retE G f148_info))))) (seqK (fun t => iterK (evalK G run n f148_keep 0 (sub [1, 0, 1, 0, 0] f148_body)) f148_t0 f148_o0 (blockK 0 (seqK (evalK G run n f148_keep 0 (sub [1, 1] f148_body) (retE G f148_info)) (retE G f148_info))) k0 (t.clear f148_t0 f148_o0)) (blockK 0 (seqK (evalK G run n f148_keep 0 (sub [1, 1] f148_body) (retE G f148_info)) (retE G f148_info))))))) k2
    ⟨[.val (.slice (.int .i64)) none (.slice x0_2), .val (.slice (.int .i64)) none (.slice x1_2), .val (.int .i64) none (.int x2_2), .val (.int .i64) none (.int x3_2), .val (.int .i64) none (.int x4_2), .val (.int .i64) none (.int x5_2), .any, .any, .any, .any, .any, .any, .any, .val (.int .i64) none (.int x13_1), .val (.int .i64) none (.int x14_1), .any, .any, .any, .val (.int .i64) none (.int x18_2), .val (.int .i64) none (.int x19_2), .any, .any, .any, .any, .any, .any, .any, .any, .any, .any, .any, .any, .any, .any, .any, .any, .any, .any, .any, .any, .any, .any, .any, .any, .any, .any, .any, .any, .any, .any, .any, .any, .any, .any, .any, .any, .any, .any, .any, .any, .any, .any, .any], [⟨0, none⟩, ⟨0, none⟩, ⟨0, none⟩, ⟨0, none⟩, ⟨0, none⟩, ⟨0, none⟩, ⟨0, none⟩, ⟨0, none⟩, ⟨0, none⟩, ⟨0, none⟩, ⟨0, none⟩, ⟨0, none⟩, ⟨0, none⟩, ⟨0, none⟩, ⟨0, none⟩, ⟨0, none⟩, ⟨0, none⟩, ⟨0, none⟩, ⟨0, none⟩, ⟨0, none⟩, ⟨0, none⟩, ⟨0, none⟩, ⟨0, none⟩, ⟨0, none⟩, ⟨0, none⟩, ⟨0, none⟩, ⟨0, none⟩, ⟨0, none⟩, ⟨0, none⟩, ⟨0, none⟩, ⟨0, none⟩, ⟨0, none⟩, ⟨0, none⟩, ⟨0, none⟩, ⟨0, none⟩, ⟨0, none⟩, ⟨0, none⟩, ⟨0, none⟩, ⟨0, none⟩, ⟨0, none⟩, ⟨0, none⟩, ⟨0, none⟩, ⟨0, none⟩, ⟨0, none⟩, ⟨0, none⟩, ⟨0, none⟩, ⟨0, none⟩, ⟨0, none⟩, ⟨0, none⟩, ⟨0, none⟩, ⟨0, none⟩, ⟨0, none⟩, ⟨0, none⟩, ⟨0, none⟩, ⟨0, none⟩, ⟨0, none⟩, ⟨0, none⟩, ⟨0, none⟩, ⟨0, none⟩, ⟨0, none⟩, ⟨0, none⟩, ⟨0, none⟩, ⟨0, none⟩], List.replicate 63 0⟩
noncomputable def f148_l0 (run : Run) (n : Nat) (k0 : Nat) (x0_1 : List AV) (x1_1 : List AV) (x2_1 : Int) (x3_1 : Int) (x4_1 : Int) (x5_1 : Int) (x18_1 : Int) (x19_1 : Int) : Option Res :=
  iterK (evalK G run n f148_keep 0 (sub [1, 0, 1, 0, 0] f148_body)) f148_t0 f148_o0 (blockK 0 (seqK (evalK G run n f148_keep 0 (sub [1, 1] f148_body) (retE G f148_info)) (retE G f148_info))) k0
    ⟨[.val (.slice (.int .i64)) none (.slice x0_1), .val (.slice (.int .i64)) none (.slice x1_1), .val (.int .i64) none (.int x2_1), .val (.int .i64) none (.int x3_1), .val (.int .i64) none (.int x4_1), .val (.int .i64) none (.int x5_1), .any, .any, .any, .any, .any, .any, .any, .any, .any, .any, .any, .any, .val (.int .i64) none (.int x18_1), .val (.int .i64) none (.int x19_1), .any, .any, .any, .any, .any, .any, .any, .any, .any, .any, .any, .any, .any, .any, .any, .any, .any, .any, .any, .any, .any, .any, .any, .any, .any, .any, .any, .any, .any, .any, .any, .any, .any, .any, .any, .any, .any, .any, .any, .any, .any, .any, .any], [⟨0, none⟩, ⟨0, none⟩, ⟨0, none⟩, ⟨0, none⟩, ⟨0, none⟩, ⟨0, none⟩, ⟨0, none⟩, ⟨0, none⟩, ⟨0, none⟩, ⟨0, none⟩, ⟨0, none⟩, ⟨0, none⟩, ⟨0, none⟩, ⟨0, none⟩, ⟨0, none⟩, ⟨0, none⟩, ⟨0, none⟩, ⟨0, none⟩, ⟨0, none⟩, ⟨0, none⟩, ⟨0, none⟩, ⟨0, none⟩, ⟨0, none⟩, ⟨0, none⟩, ⟨0, none⟩, ⟨0, none⟩, ⟨0, none⟩, ⟨0, none⟩, ⟨0, none⟩, ⟨0, none⟩, ⟨0, none⟩, ⟨0, none⟩, ⟨0, none⟩, ⟨0, none⟩, ⟨0, none⟩, ⟨0, none⟩, ⟨0, none⟩, ⟨0, none⟩, ⟨0, none⟩, ⟨0, none⟩, ⟨0, none⟩, ⟨0, none⟩, ⟨0, none⟩, ⟨0, none⟩, ⟨0, none⟩, ⟨0, none⟩, ⟨0, none⟩, ⟨0, none⟩, ⟨0, none⟩, ⟨0, none⟩, ⟨0, none⟩, ⟨0, none⟩, ⟨0, none⟩, ⟨0, none⟩, ⟨0, none⟩, ⟨0, none⟩, ⟨0, none⟩, ⟨0, none⟩, ⟨0, none⟩, ⟨0, none⟩, ⟨0, none⟩, ⟨0, none⟩, ⟨0, none⟩], List.replicate 63 0⟩
theorem f148_l2_eq (run : Run) (n : Nat) (k0 : Nat) (k2 : Nat) (x0_2 : List AV) (x1_2 : List AV) (x2_2 : Int) (x3_2 : Int) (x4_2 : Int) (x5_2 : Int) (x13_1 : Int) (x14_1 : Int) (x18_2 : Int) (x19_2 : Int) : f148_l2 run n k0 (k2 + 1) x0_2 x1_2 x2_2 x3_2 x4_2 x5_2 x13_1 x14_1 x18_2 x19_2 =
  bif ltI x14_1 (x1_2.length : Int) then
    bif inR x14_1 x0_2.length then
    bif inR x13_1 x0_2.length then
    bif inR x14_1 x1_2.length then
    bif inR x13_1 x1_2.length then
    bif leI x3_2 (IntKind.wrap .i64 ((nth x1_2 (Int.toNat x14_1)).toInt - (nth x1_2 (Int.toNat x13_1)).toInt)) then
    (run 176 [.int (IntKind.wrap .u32 (IntKind.wrap .i64 ((nth x0_2 (Int.toNat x14_1)).toInt - (nth x0_2 (Int.toNat x13_1)).toInt))), .int (IntKind.wrap .u32 (IntKind.wrap .i64 ((nth x1_2 (Int.toNat x14_1)).toInt - (nth x1_2 (Int.toNat x13_1)).toInt))), .int x2_2, .int x4_2, .int x5_2]).bind fun r1 =>
    nilV r1.outs (consV r1.vals fun v1 vs1 =>
    nilV vs1 (bif !v1.toBool then
    some ⟨[.bool false], [], f148_fresh⟩
  else
    f148_l2 run n k0 k2 x0_2 x1_2 x2_2 x3_2 x4_2 x5_2 x13_1 (IntKind.wrap .i64 (x14_1 + 1)) x18_2 x19_2))
  else
    f148_l2 run n k0 k2 x0_2 x1_2 x2_2 x3_2 x4_2 x5_2 x13_1 (IntKind.wrap .i64 (x14_1 + 1)) x18_2 x19_2
  else none
  else none
  else none
  else none
  else
    f148_l0 run n k0 x0_2 x1_2 x2_2 x3_2 x4_2 x5_2 x18_2 (IntKind.wrap .i64 (x19_2 + 1)) := by kernel_rfl
theorem f148_l0_eq (run : Run) (n : Nat) (k0 : Nat) (x0_1 : List AV) (x1_1 : List AV) (x2_1 : Int) (x3_1 : Int) (x4_1 : Int) (x5_1 : Int) (x18_1 : Int) (x19_1 : Int) : f148_l0 run n (k0 + 1) x0_1 x1_1 x2_1 x3_1 x4_1 x5_1 x18_1 x19_1 =
  bif ltI x19_1 x18_1 then
    f148_l2 run n k0 n x0_1 x1_1 x2_1 x3_1 x4_1 x5_1 x19_1 (IntKind.wrap .i64 (x19_1 + 1)) x18_1 x19_1
  else
    some ⟨[.bool true], [], f148_fresh⟩ := by kernel_rfl
noncomputable def f148 (run : Run) (n : Nat) (a0_1 : List AV) (a1_1 : List AV) (a2_1 : Int) (a3_1 : Int) (a4_1 : Int) (a5_1 : Int) : Option Res := evalK G run n f148_info.keep 0 f148_info.body (retE G f148_info) (f148_info.start [.slice a0_1, .slice a1_1, .int a2_1, .int a3_1, .int a4_1, .int a5_1])
theorem f148_eq (run : Run) (n : Nat) (a0_1 : List AV) (a1_1 : List AV) (a2_1 : Int) (a3_1 : Int) (a4_1 : Int) (a5_1 : Int) : f148 run n a0_1 a1_1 a2_1 a3_1 a4_1 a5_1 =
  f148_l0 run n n a0_1 a1_1 a2_1 a3_1 a4_1 a5_1 (a1_1.length : Int) 0 := by kernel_rfl
theorem f148_run (ext : Run) (n : Nat) (a0_1 : List AV) (a1_1 : List AV) (a2_1 : Int) (a3_1 : Int) (a4_1 : Int) (a5_1 : Int) : runE G ext (n + 1) 148 [.slice a0_1, .slice a1_1, .int a2_1, .int a3_1, .int a4_1, .int a5_1] = f148 (runE G ext n) n a0_1 a1_1 a2_1 a3_1 a4_1 a5_1 := runE_succ f148_at f148_in

noncomputable def f118_l0 (run : Run) (n : Nat) (k0 : Nat) (x0_1 : List AV) (x1_1 : Int) (x2_1 : Int) (x3_1 : Int) (x4_1 : Int) (x11_1 : List AV) (x24_1 : Int) (x25_1 : Int) : Option Res :=
  iterK (evalK G run n f118_keep 0 (sub [1, 1, 1, 0, 1, 0, 0] f118_body)) f118_t0 f118_o0 (blockK 0 (seqK (evalK G run n f118_keep 0 (sub [1, 1, 1, 1] f118_body) (retE G f118_info)) (retE G f118_info))) k0
    ⟨[.val (.slice (.int .i64)) none (.slice x0_1), .val (.int .i64) none (.int x1_1), .val (.int .i64) none (.int x2_1), .val (.int .i64) none (.int x3_1), .val (.int .i64) none (.int x4_1), .any, .any, .any, .any, .any, .any, .val (.slice (.int .i64)) none (.slice x11_1), .any, .any, .any, .any, .any, .any, .any, .any, .any, .any, .any, .any, .val (.int .i64) none (.int x24_1), .val (.int .i64) none (.int x25_1), .any, .any, .any, .any, .any, .any, .any, .any, .any, .any, .any, .any, .any, .any, .any, .any], [⟨0, none⟩, ⟨0, none⟩, ⟨0, none⟩, ⟨0, none⟩, ⟨0, none⟩, ⟨0, none⟩, ⟨0, none⟩, ⟨0, none⟩, ⟨0, none⟩, ⟨0, none⟩, ⟨0, none⟩, ⟨0, none⟩, ⟨0, none⟩, ⟨0, none⟩, ⟨0, none⟩, ⟨0, none⟩, ⟨0, none⟩, ⟨0, none⟩, ⟨0, none⟩, ⟨0, none⟩, ⟨0, none⟩, ⟨0, none⟩, ⟨0, none⟩, ⟨0, none⟩, ⟨0, none⟩, ⟨0, none⟩, ⟨0, none⟩, ⟨0, none⟩, ⟨0, none⟩, ⟨0, none⟩, ⟨0, none⟩, ⟨0, none⟩, ⟨0, none⟩, ⟨0, none⟩, ⟨0, none⟩, ⟨0, none⟩, ⟨0, none⟩, ⟨0, none⟩, ⟨0, none⟩, ⟨0, none⟩, ⟨0, none⟩, ⟨0, none⟩], List.replicate 42 0⟩
theorem f118_l0_eq (run : Run) (n : Nat) (k0 : Nat) (x0_1 : List AV) (x1_1 : Int) (x2_1 : Int) (x3_1 : Int) (x4_1 : Int) (x11_1 : List AV) (x24_1 : Int) (x25_1 : Int) : f118_l0 run n (k0 + 1) x0_1 x1_1 x2_1 x3_1 x4_1 x11_1 x24_1 x25_1 =
  bif ltI x25_1 x24_1 then
    (run 147 [.slice x0_1, .int x25_1]).bind fun r2 =>
    nilV r2.outs (consV r2.vals fun v2 vs2 =>
    nilV vs2 ((run 148 [.slice x11_1, .slice v2.toSlice, .int (IntKind.wrap .i64 (x1_1 - x25_1)), .int (mx2 x2_1 1), .int x3_1, .int x4_1]).bind fun r3 =>
    nilV r3.outs (consV r3.vals fun v3 vs3 =>
    nilV vs3 (bif !v3.toBool then
    some ⟨[.bool false], [], f118_fresh⟩
  else
    f118_l0 run n k0 x0_1 x1_1 x2_1 x3_1 x4_1 x11_1 x24_1 (IntKind.wrap .i64 (x25_1 + 1))))))
  else
    some ⟨[.bool true], [], f118_fresh⟩ := by kernel_rfl
noncomputable def f118 (run : Run) (n : Nat) (a0_1 : List AV) (a1_1 : Int) (a2_1 : Int) (a3_1 : Int) (a4_1 : Int) : Option Res := evalK G run n f118_info.keep 0 f118_info.body (retE G f118_info) (f118_info.start [.slice a0_1, .int a1_1, .int a2_1, .int a3_1, .int a4_1])
theorem f118_eq (run : Run) (n : Nat) (a0_1 : List AV) (a1_1 : Int) (a2_1 : Int) (a3_1 : Int) (a4_1 : Int) : f118 run n a0_1 a1_1 a2_1 a3_1 a4_1 =
  bif ltI 1024 (a0_1.length : Int) then
    some ⟨[.bool false], [], f118_fresh⟩
  else
    bif ltI 255 a1_1 then
    some ⟨[.bool false], [], f118_fresh⟩
  else
    (run 147 [.slice a0_1, .int a1_1]).bind fun r1 =>
    nilV r1.outs (consV r1.vals fun v1 vs1 =>
    nilV vs1 (f118_l0 run n n a0_1 a1_1 a2_1 a3_1 a4_1 v1.toSlice (mx2 a1_1 0) 0)) := by kernel_rfl
theorem f118_run (ext : Run) (n : Nat) (a0_1 : List AV) (a1_1 : Int) (a2_1 : Int) (a3_1 : Int) (a4_1 : Int) : runE G ext (n + 1) 118 [.slice a0_1, .int a1_1, .int a2_1, .int a3_1, .int a4_1] = f118 (runE G ext n) n a0_1 a1_1 a2_1 a3_1 a4_1 := runE_succ f118_at f118_in

noncomputable def f81 (run : Run) (n : Nat) (a0_1 : List AV) (a1_1 : Int) (a2_1 : Int) (a3_1 : Int) (a4_1 : Int) : Option Res := evalK G run n f81_info.keep 0 f81_info.body (retE G f81_info) (f81_info.start [.slice a0_1, .int a1_1, .int a2_1, .int a3_1, .int a4_1])
theorem f81_eq (run : Run) (n : Nat) (a0_1 : List AV) (a1_1 : Int) (a2_1 : Int) (a3_1 : Int) (a4_1 : Int) : f81 run n a0_1 a1_1 a2_1 a3_1 a4_1 =
  (run 117 [.slice a0_1, .int a1_1, .int a2_1, .int a3_1, .int a4_1]).bind fun r1 =>
    nilV r1.outs (consV r1.vals fun v1 vs1 =>
    nilV vs1 (bif v1.toBool then
    (run 118 [.slice a0_1, .int a1_1, .int a2_1, .int a3_1, .int a4_1]).bind fun r2 =>
    nilV r2.outs (consV r2.vals fun v2 vs2 =>
    nilV vs2 (some ⟨[.bool v2.toBool], [], f81_fresh⟩))
  else
    some ⟨[.bool false], [], f81_fresh⟩)) := by kernel_rfl
theorem f81_run (ext : Run) (n : Nat) (a0_1 : List AV) (a1_1 : Int) (a2_1 : Int) (a3_1 : Int) (a4_1 : Int) : runE G ext (n + 1) 81 [.slice a0_1, .int a1_1, .int a2_1, .int a3_1, .int a4_1] = f81 (runE G ext n) n a0_1 a1_1 a2_1 a3_1 a4_1 := runE_succ f81_at f81_in

noncomputable def f47 (run : Run) (n : Nat) (a0_1 : List AV) (a1_1 : Int) (a2_1 : Int) (a3_1 : Int) (a4_1 : Int) (a5_1 : Int) : Option Res := evalK G run n f47_info.keep 0 f47_info.body (retE G f47_info) (f47_info.start [.slice a0_1, .int a1_1, .int a2_1, .int a3_1, .int a4_1, .int a5_1])
theorem f47_eq (run : Run) (n : Nat) (a0_1 : List AV) (a1_1 : Int) (a2_1 : Int) (a3_1 : Int) (a4_1 : Int) (a5_1 : Int) : f47 run n a0_1 a1_1 a2_1 a3_1 a4_1 a5_1 =
  (run 46 [.slice a0_1, .int a1_1, .int a2_1]).bind fun r1 =>
    bif r1.fresh then
    nilV r1.outs (consV r1.vals fun v1 vs1 =>
    nilV vs1 (bif ltI a3_1 1 then
    some ⟨[.int a1_1], [], f47_fresh⟩
  else
    bif leI (v1.toSlice.length : Int) a3_1 then
    some ⟨[.int a1_1], [], f47_fresh⟩
  else
    bif ltI a1_1 0 then
    some ⟨[.int a1_1], [], f47_fresh⟩
  else
    bif boundsOk a1_1 (a0_1.length : Int) (a0_1.length : Int) (a0_1.length : Int) && true then
    (run 81 [.slice (List.drop (Int.toNat a1_1) (List.take (Int.toNat (a0_1.length : Int)) a0_1)), .int a2_1, .int a3_1, .int a4_1, .int a5_1]).bind fun r2 =>
    nilV r2.outs (consV r2.vals fun v2 vs2 =>
    nilV vs2 (bif !v2.toBool then
    some ⟨[.int a1_1], [], f47_fresh⟩
  else
    bif inR (IntKind.wrap .i64 ((v1.toSlice.length : Int) - a3_1)) v1.toSlice.length then
    some ⟨[.int ((nth v1.toSlice (Int.toNat (IntKind.wrap .i64 ((v1.toSlice.length : Int) - a3_1)))).toInt)], [], f47_fresh⟩
  else none))
  else none))
  else none := by kernel_rfl
theorem f47_run (ext : Run) (n : Nat) (a0_1 : List AV) (a1_1 : Int) (a2_1 : Int) (a3_1 : Int) (a4_1 : Int) (a5_1 : Int) : runE G ext (n + 1) 47 [.slice a0_1, .int a1_1, .int a2_1, .int a3_1, .int a4_1, .int a5_1] = f47 (runE G ext n) n a0_1 a1_1 a2_1 a3_1 a4_1 a5_1 := runE_succ f47_at f47_in

noncomputable def f14_l2 (run : Run) (n : Nat) (k0 : Nat) (k2 : Nat) (x1_2 : Int) (x3_2 : Int) (x4_2 : Int) (x11_2 : List AV) (m2 : Nat) (x13_2 : Int) (x14_2 : Int) (x55_1 : List AV) (x56_1 : Int) (x57_1 : Int) (o45_2 : List AV) : Option Res :=
  iterK (evalK G run n f14_keep 2 (sub [1, 1, 1, 1, 1, 0, 1, 0, 0, 1, 0, 0, 0, 1, 0, 0] f14_body)) f14_t2 f14_o2 (blockK 2 (seqK (evalK G run n f14_keep 1 (sub [1, 1, 1, 1, 1, 0, 1, 0, 0, 1, 0, 0, 1] f14_body) (blockK 1 (seqK (evalK G run n f14_keep 0 (sub [1, 1, 1, 1, 1, 0, 1, 0, 0, 1, 1] f14_body) (seqK (fun t => iterK (evalK G run n f14_keep 0 (sub [1, 1, 1, 1, 1, 0, 1, 0, 0] f14_body)) f14_t0 f14_o0 (blockK 0 (seqK (evalK G run n f14_keep 0 (sub [1, 1, 1, 1, 1, 1] f14_body) (retE G f14_info)) (retE G f14_info))) k0 (t.clear f14_t0 f14_o0)) (blockK 0 (seqK (evalK G run n f14_keep 0 (sub [1, 1, 1, 1, 1, 1] f14_body) (retE G f14_info)) (retE G f14_info))))) (seqK (fun t => iterK (evalK G run n f14_keep 0 (sub [1, 1, 1, 1, 1, 0, 1, 0, 0] f14_body)) f14_t0 f14_o0 (blockK 0 (seqK (evalK G run n f14_keep 0 (sub [1, 1, 1, 1, 1, 1] f14_body) (retE G f14_info)) (retE G f14_info))) k0 (t.clear f14_t0 f14_o0)) (blockK 0 (seqK (evalK G run n f14_keep 0 (sub [1, 1, 1, 1, 1, 1] f14_body) (retE G f14_info)) (retE G f14_info))))))) (blockK 1 (seqK (evalK G run n f14_keep 0 (sub [1, 1, 1, 1, 1, 0, 1, 0, 0, 1, 1] f14_body) (seqK (fun t => iterK (evalK G run n f14_keep 0 (sub [1, 1, 1, 1, 1, 0, 1, 0, 0] f14_body)) f14_t0 f14_o0 (blockK 0 (seqK (evalK G run n f14_keep 0 (sub [1, 1, 1, 1, 1, 1] f14_body) (retE G f14_info)) (retE G f14_info))) k0 (t.clear f14_t0 f14_o0)) (blockK 0 (seqK (evalK G run n f14_keep 0 (sub [1, 1, 1, 1, 1, 1] f14_body) (retE G f14_info)) (retE G f14_info))))) (seqK (fun t => iterK (evalK G run n f14_keep 0 (sub [1, 1, 1, 1, 1, 0, 1, 0, 0] f14_body)) f14_t0 f14_o0 (blockK 0 (seqK (evalK G run n f14_keep 0 (sub [1, 1, 1, 1, 1, 1] f14_body) (retE G f14_info)) (retE G f14_info))) k0 (t.clear f14_t0 f14_o0)) (blockK 0 (seqK (evalK G run n f14_keep 0 (sub [1, 1, 1, 1, 1, 1] f14_body) (retE G f14_info)) (retE G f14_info)))))))) k2
    ⟨[.any, .val (.int .i64) none (.int x1_2), .any, .val (.int .i64) none (.int x3_2), .val (.int .i64) none (.int x4_2), .any, .any, .any, .any, .any, .any, .val (.slice (.int .i64)) none (.slice x11_2), .ref ⟨(.arr m2 .bool), 45, 1, []⟩ 0 m2, .val (.int .i64) none (.int x13_2), .val (.int .i64) none (.int x14_2), .any, .any, .any, .any, .any, .any, .any, .any, .any, .any, .any, .any, .any, .any, .any, .any, .any, .any, .any, .any, .any, .any, .any, .any, .any, .any, .any, .any, .any, .any, .any, .any, .any, .any, .any, .any, .any, .any, .any, .any, .val (.slice (.int .i64)) (some (55, 0)) (.slice x55_1), .val (.int .i64) none (.int x56_1), .val (.int .i64) none (.int x57_1), .any, .any, .any, .any, .any, .any, .any, .any, .any, .any, .any, .any, .any, .any, .any, .any, .any, .any, .any, .any, .any, .any, .any, .any, .any, .any, .any, .any], [⟨0, none⟩, ⟨0, none⟩, ⟨0, none⟩, ⟨0, none⟩, ⟨0, none⟩, ⟨0, none⟩, ⟨0, none⟩, ⟨0, none⟩, ⟨0, none⟩, ⟨0, none⟩, ⟨0, none⟩, ⟨0, none⟩, ⟨0, none⟩, ⟨0, none⟩, ⟨0, none⟩, ⟨0, none⟩, ⟨0, none⟩, ⟨0, none⟩, ⟨0, none⟩, ⟨0, none⟩, ⟨0, none⟩, ⟨0, none⟩, ⟨0, none⟩, ⟨0, none⟩, ⟨0, none⟩, ⟨0, none⟩, ⟨0, none⟩, ⟨0, none⟩, ⟨0, none⟩, ⟨0, none⟩, ⟨0, none⟩, ⟨0, none⟩, ⟨0, none⟩, ⟨0, none⟩, ⟨0, none⟩, ⟨0, none⟩, ⟨0, none⟩, ⟨0, none⟩, ⟨0, none⟩, ⟨0, none⟩, ⟨0, none⟩, ⟨0, none⟩, ⟨0, none⟩, ⟨0, none⟩, ⟨0, none⟩, ⟨1, some ⟨(.arr m2 .bool), .agg o45_2⟩⟩, ⟨0, none⟩, ⟨0, none⟩, ⟨0, none⟩, ⟨0, none⟩, ⟨0, none⟩, ⟨0, none⟩, ⟨0, none⟩, ⟨0, none⟩, ⟨0, none⟩, ⟨0, none⟩, ⟨0, none⟩, ⟨0, none⟩, ⟨0, none⟩, ⟨0, none⟩, ⟨0, none⟩, ⟨0, none⟩, ⟨0, none⟩, ⟨0, none⟩, ⟨0, none⟩, ⟨0, none⟩, ⟨0, none⟩, ⟨0, none⟩, ⟨0, none⟩, ⟨0, none⟩, ⟨0, none⟩, ⟨0, none⟩, ⟨0, none⟩, ⟨0, none⟩, ⟨0, none⟩, ⟨0, none⟩, ⟨0, none⟩, ⟨0, none⟩, ⟨0, none⟩, ⟨0, none⟩, ⟨0, none⟩, ⟨0, none⟩, ⟨0, none⟩, ⟨0, none⟩, ⟨0, none⟩, ⟨0, none⟩], List.replicate 86 0⟩
noncomputable def f14_l4 (run : Run) (n : Nat) (_k0 : Nat) (k4 : Nat) (x17_1 : List AV) (m5 : Nat) (x73_1 : Int) (x74_1 : Int) (o45_5 : List AV) : Option Res :=
  iterK (evalK G run n f14_keep 4 (sub [1, 1, 1, 1, 1, 1, 1, 0, 1, 0, 0] f14_body)) f14_t4 f14_o4 (blockK 4 (seqK (evalK G run n f14_keep 0 (sub [1, 1, 1, 1, 1, 1, 1, 1] f14_body) (retE G f14_info)) (retE G f14_info))) k4
    ⟨[.any, .any, .any, .any, .any, .any, .any, .any, .any, .any, .any, .any, .any, .any, .any, .any, .any, .val (.slice (.int .i64)) (some (17, 0)) (.slice x17_1), .any, .any, .any, .any, .any, .any, .any, .any, .any, .any, .any, .any, .any, .any, .any, .any, .any, .any, .any, .any, .any, .any, .any, .any, .any, .any, .any, .any, .any, .any, .any, .any, .any, .any, .any, .any, .any, .any, .any, .any, .any, .any, .any, .any, .any, .any, .any, .any, .any, .any, .any, .any, .any, .any, .ref ⟨(.arr m5 .bool), 45, 1, []⟩ 0 m5, .val (.int .i64) none (.int x73_1), .val (.int .i64) none (.int x74_1), .any, .any, .any, .any, .any, .any, .any, .any, .any, .any, .any], [⟨0, none⟩, ⟨0, none⟩, ⟨0, none⟩, ⟨0, none⟩, ⟨0, none⟩, ⟨0, none⟩, ⟨0, none⟩, ⟨0, none⟩, ⟨0, none⟩, ⟨0, none⟩, ⟨0, none⟩, ⟨0, none⟩, ⟨0, none⟩, ⟨0, none⟩, ⟨0, none⟩, ⟨0, none⟩, ⟨0, none⟩, ⟨0, none⟩, ⟨0, none⟩, ⟨0, none⟩, ⟨0, none⟩, ⟨0, none⟩, ⟨0, none⟩, ⟨0, none⟩, ⟨0, none⟩, ⟨0, none⟩, ⟨0, none⟩, ⟨0, none⟩, ⟨0, none⟩, ⟨0, none⟩, ⟨0, none⟩, ⟨0, none⟩, ⟨0, none⟩, ⟨0, none⟩, ⟨0, none⟩, ⟨0, none⟩, ⟨0, none⟩, ⟨0, none⟩, ⟨0, none⟩, ⟨0, none⟩, ⟨0, none⟩, ⟨0, none⟩, ⟨0, none⟩, ⟨0, none⟩, ⟨0, none⟩, ⟨1, some ⟨(.arr m5 .bool), .agg o45_5⟩⟩, ⟨0, none⟩, ⟨0, none⟩, ⟨0, none⟩, ⟨0, none⟩, ⟨0, none⟩, ⟨0, none⟩, ⟨0, none⟩, ⟨0, none⟩, ⟨0, none⟩, ⟨0, none⟩, ⟨0, none⟩, ⟨0, none⟩, ⟨0, none⟩, ⟨0, none⟩, ⟨0, none⟩, ⟨0, none⟩, ⟨0, none⟩, ⟨0, none⟩, ⟨0, none⟩, ⟨0, none⟩, ⟨0, none⟩, ⟨0, none⟩, ⟨0, none⟩, ⟨0, none⟩, ⟨0, none⟩, ⟨0, none⟩, ⟨0, none⟩, ⟨0, none⟩, ⟨0, none⟩, ⟨0, none⟩, ⟨0, none⟩, ⟨0, none⟩, ⟨0, none⟩, ⟨0, none⟩, ⟨0, none⟩, ⟨0, none⟩, ⟨0, none⟩, ⟨0, none⟩, ⟨0, none⟩, ⟨0, none⟩], List.replicate 86 0⟩
noncomputable def f14_l0 (run : Run) (n : Nat) (k0 : Nat) (x1_1 : Int) (x3_1 : Int) (x4_1 : Int) (x11_1 : List AV) (m1 : Nat) (x13_1 : Int) (x14_1 : Int) (o45_1 : List AV) : Option Res :=
  iterK (evalK G run n f14_keep 0 (sub [1, 1, 1, 1, 1, 0, 1, 0, 0] f14_body)) f14_t0 f14_o0 (blockK 0 (seqK (evalK G run n f14_keep 0 (sub [1, 1, 1, 1, 1, 1] f14_body) (retE G f14_info)) (retE G f14_info))) k0
    ⟨[.any, .val (.int .i64) none (.int x1_1), .any, .val (.int .i64) none (.int x3_1), .val (.int .i64) none (.int x4_1), .any, .any, .any, .any, .any, .any, .val (.slice (.int .i64)) none (.slice x11_1), .ref ⟨(.arr m1 .bool), 45, 1, []⟩ 0 m1, .val (.int .i64) none (.int x13_1), .val (.int .i64) none (.int x14_1), .any, .any, .any, .any, .any, .any, .any, .any, .any, .any, .any, .any, .any, .any, .any, .any, .any, .any, .any, .any, .any, .any, .any, .any, .any, .any, .any, .any, .any, .any, .any, .any, .any, .any, .any, .any, .any, .any, .any, .any, .any, .any, .any, .any, .any, .any, .any, .any, .any, .any, .any, .any, .any, .any, .any, .any, .any, .any, .any, .any, .any, .any, .any, .any, .any, .any, .any, .any, .any, .any, .any], [⟨0, none⟩, ⟨0, none⟩, ⟨0, none⟩, ⟨0, none⟩, ⟨0, none⟩, ⟨0, none⟩, ⟨0, none⟩, ⟨0, none⟩, ⟨0, none⟩, ⟨0, none⟩, ⟨0, none⟩, ⟨0, none⟩, ⟨0, none⟩, ⟨0, none⟩, ⟨0, none⟩, ⟨0, none⟩, ⟨0, none⟩, ⟨0, none⟩, ⟨0, none⟩, ⟨0, none⟩, ⟨0, none⟩, ⟨0, none⟩, ⟨0, none⟩, ⟨0, none⟩, ⟨0, none⟩, ⟨0, none⟩, ⟨0, none⟩, ⟨0, none⟩, ⟨0, none⟩, ⟨0, none⟩, ⟨0, none⟩, ⟨0, none⟩, ⟨0, none⟩, ⟨0, none⟩, ⟨0, none⟩, ⟨0, none⟩, ⟨0, none⟩, ⟨0, none⟩, ⟨0, none⟩, ⟨0, none⟩, ⟨0, none⟩, ⟨0, none⟩, ⟨0, none⟩, ⟨0, none⟩, ⟨0, none⟩, ⟨1, some ⟨(.arr m1 .bool), .agg o45_1⟩⟩, ⟨0, none⟩, ⟨0, none⟩, ⟨0, none⟩, ⟨0, none⟩, ⟨0, none⟩, ⟨0, none⟩, ⟨0, none⟩, ⟨0, none⟩, ⟨0, none⟩, ⟨0, none⟩, ⟨0, none⟩, ⟨0, none⟩, ⟨0, none⟩, ⟨0, none⟩, ⟨0, none⟩, ⟨0, none⟩, ⟨0, none⟩, ⟨0, none⟩, ⟨0, none⟩, ⟨0, none⟩, ⟨0, none⟩, ⟨0, none⟩, ⟨0, none⟩, ⟨0, none⟩, ⟨0, none⟩, ⟨0, none⟩, ⟨0, none⟩, ⟨0, none⟩, ⟨0, none⟩, ⟨0, none⟩, ⟨0, none⟩, ⟨0, none⟩, ⟨0, none⟩, ⟨0, none⟩, ⟨0, none⟩, ⟨0, none⟩, ⟨0, none⟩, ⟨0, none⟩, ⟨0, none⟩, ⟨0, none⟩], List.replicate 86 0⟩
theorem f14_l2_eq (run : Run) (n : Nat) (k0 : Nat) (k2 : Nat) (x1_2 : Int) (x3_2 : Int) (x4_2 : Int) (x11_2 : List AV) (m2 : Nat) (x13_2 : Int) (x14_2 : Int) (x55_1 : List AV) (x56_1 : Int) (x57_1 : Int) (o45_2 : List AV) : f14_l2 run n k0 (k2 + 1) x1_2 x3_2 x4_2 x11_2 m2 x13_2 x14_2 x55_1 x56_1 x57_1 o45_2 =
  bif ltI x57_1 x56_1 then
    bif inR x57_1 x55_1.length then
    bif inR ((nth x55_1 (Int.toNat x57_1)).toInt) m2 then
    f14_l2 run n k0 k2 x1_2 x3_2 x4_2 x11_2 m2 x13_2 x14_2 x55_1 x56_1 (IntKind.wrap .i64 (x57_1 + 1)) (o45_2.set (0 + (Int.toNat ((nth x55_1 (Int.toNat x57_1)).toInt))) (.bool true))
  else none
  else none
  else
    (run 47 [.slice x11_2, .int x13_2, .int x14_2, .int x1_2, .int x3_2, .int x4_2]).bind fun r4 =>
    nilV r4.outs (consV r4.vals fun v4 vs4 =>
    nilV vs4 (f14_l0 run n k0 x1_2 x3_2 x4_2 x11_2 m2 v4.toInt (IntKind.wrap .i64 (x14_2 - 1)) o45_2)) := by kernel_rfl
theorem f14_l4_eq (run : Run) (n : Nat) (k0 : Nat) (k4 : Nat) (x17_1 : List AV) (m5 : Nat) (x73_1 : Int) (x74_1 : Int) (o45_5 : List AV) : f14_l4 run n k0 (k4 + 1) x17_1 m5 x73_1 x74_1 o45_5 =
  bif ltI x74_1 x73_1 then
    bif inR x74_1 m5 then
    bif (AV.fld (.agg o45_5) (0 + (Int.toNat x74_1))).toBool then
    bif Nat.ble ((x17_1.length + 1) * 8) 140737488355328 then
    f14_l4 run n k0 k4 (x17_1 ++ [.int x74_1]) m5 x73_1 (IntKind.wrap .i64 (x74_1 + 1)) o45_5
  else none
  else
    f14_l4 run n k0 k4 x17_1 m5 x73_1 (IntKind.wrap .i64 (x74_1 + 1)) o45_5
  else none
  else
    some ⟨[.slice x17_1], [], f14_fresh⟩ := by kernel_rfl
theorem f14_l0_eq (run : Run) (n : Nat) (k0 : Nat) (x1_1 : Int) (x3_1 : Int) (x4_1 : Int) (x11_1 : List AV) (m1 : Nat) (x13_1 : Int) (x14_1 : Int) (o45_1 : List AV) : f14_l0 run n (k0 + 1) x1_1 x3_1 x4_1 x11_1 m1 x13_1 x14_1 o45_1 =
  bif leI 0 x14_1 then
    (run 46 [.slice x11_1, .int x13_1, .int x14_1]).bind fun r3 =>
    bif r3.fresh then
    nilV r3.outs (consV r3.vals fun v3 vs3 =>
    nilV vs3 (f14_l2 run n k0 n x1_1 x3_1 x4_1 x11_1 m1 x13_1 x14_1 v3.toSlice (v3.toSlice.length : Int) 0 o45_1))
  else none
  else
    f14_l4 run n k0 n [] m1 (m1 : Int) 0 o45_1 := by kernel_rfl
noncomputable def f14 (run : Run) (n : Nat) (a0_1 : List AV) (a1_1 : Int) (a2_1 : Int) (a3_1 : Int) (a4_1 : Int) : Option Res := evalK G run n f14_info.keep 0 f14_info.body (retE G f14_info) (f14_info.start [.slice a0_1, .int a1_1, .int a2_1, .int a3_1, .int a4_1])
theorem f14_eq (run : Run) (n : Nat) (a0_1 : List AV) (a1_1 : Int) (a2_1 : Int) (a3_1 : Int) (a4_1 : Int) : f14 run n a0_1 a1_1 a2_1 a3_1 a4_1 =
  (run 10 [.int a1_1, .int a2_1, .int a3_1, .int a4_1]).bind fun r1 =>
    nilV r1.outs (consV r1.vals fun v1 vs1 =>
    nilV vs1 (bif !v1.toBool then
    some ⟨[.slice []], [], f14_fresh⟩
  else
    bif leI (a0_1.length : Int) a2_1 then
    some ⟨[.slice []], [], f14_fresh⟩
  else
    bif ltI 1024 (a0_1.length : Int) then
    some ⟨[.slice []], [], f14_fresh⟩
  else
    bif boundsOk 0 (IntKind.wrap .i64 ((a0_1.length : Int) - a2_1)) (a0_1.length : Int) (a0_1.length : Int) && true then
    bif eqI ((List.drop 0 (List.take (Int.toNat (IntKind.wrap .i64 ((a0_1.length : Int) - a2_1))) a0_1)).length : Int) ((List.drop 0 (List.take (Int.toNat (IntKind.wrap .i64 ((a0_1.length : Int) - a2_1))) a0_1)).length : Int) && leI 0 ((List.drop 0 (List.take (Int.toNat (IntKind.wrap .i64 ((a0_1.length : Int) - a2_1))) a0_1)).length : Int) && Nat.ble (Int.toNat ((List.drop 0 (List.take (Int.toNat (IntKind.wrap .i64 ((a0_1.length : Int) - a2_1))) a0_1)).length : Int) * 1) 140737488355328 then
    (run 45 [.slice (List.drop 0 (List.take (Int.toNat (IntKind.wrap .i64 ((a0_1.length : Int) - a2_1))) a0_1))]).bind fun r2 =>
    nilV r2.outs (consV r2.vals fun v2 vs2 =>
    nilV vs2 (f14_l0 run n n a1_1 a3_1 a4_1 (List.drop 0 (List.take (Int.toNat (IntKind.wrap .i64 ((a0_1.length : Int) - a2_1))) a0_1)) (Int.toNat ((List.drop 0 (List.take (Int.toNat (IntKind.wrap .i64 ((a0_1.length : Int) - a2_1))) a0_1)).length : Int)) 0 v2.toInt (List.replicate (Int.toNat ((List.drop 0 (List.take (Int.toNat (IntKind.wrap .i64 ((a0_1.length : Int) - a2_1))) a0_1)).length : Int)) (.bool false))))
  else none
  else none)) := by kernel_rfl
theorem f14_run (ext : Run) (n : Nat) (a0_1 : List AV) (a1_1 : Int) (a2_1 : Int) (a3_1 : Int) (a4_1 : Int) : runE G ext (n + 1) 14 [.slice a0_1, .int a1_1, .int a2_1, .int a3_1, .int a4_1] = f14 (runE G ext n) n a0_1 a1_1 a2_1 a3_1 a4_1 := runE_succ f14_at f14_in

noncomputable def f20_l0 (run : Run) (n : Nat) (k0 : Nat) (x0_1 : List AV) (x1_1 : List AV) (x5_1 : Int) : Option Res :=
  iterK (evalK G run n f20_keep 0 (sub [1, 1, 0, 1, 0, 0] f20_body)) f20_t0 f20_o0 (blockK 0 (seqK (evalK G run n f20_keep 0 (sub [1, 1, 1] f20_body) (retE G f20_info)) (retE G f20_info))) k0
    ⟨[.val (.slice (.int .i64)) none (.slice x0_1), .val (.slice (.int .i64)) none (.slice x1_1), .any, .any, .any, .val (.int .i64) none (.int x5_1), .any, .any, .any, .any, .any, .any, .any, .any, .any, .any, .any, .any, .any, .any, .any, .any, .any, .any, .any, .any], [⟨0, none⟩, ⟨0, none⟩, ⟨0, none⟩, ⟨0, none⟩, ⟨0, none⟩, ⟨0, none⟩, ⟨0, none⟩, ⟨0, none⟩, ⟨0, none⟩, ⟨0, none⟩, ⟨0, none⟩, ⟨0, none⟩, ⟨0, none⟩, ⟨0, none⟩, ⟨0, none⟩, ⟨0, none⟩, ⟨0, none⟩, ⟨0, none⟩, ⟨0, none⟩, ⟨0, none⟩, ⟨0, none⟩, ⟨0, none⟩, ⟨0, none⟩, ⟨0, none⟩, ⟨0, none⟩, ⟨0, none⟩], List.replicate 26 0⟩
theorem f20_l0_eq (run : Run) (n : Nat) (k0 : Nat) (x0_1 : List AV) (x1_1 : List AV) (x5_1 : Int) : f20_l0 run n (k0 + 1) x0_1 x1_1 x5_1 =
  bif ltI x5_1 (x0_1.length : Int) then
    bif inR x5_1 x0_1.length then
    bif inR x5_1 x1_1.length then
    bif !(eqI ((nth x0_1 (Int.toNat x5_1)).toInt) ((nth x1_1 (Int.toNat x5_1)).toInt)) then
    some ⟨[.bool false], [], f20_fresh⟩
  else
    f20_l0 run n k0 x0_1 x1_1 (IntKind.wrap .i64 (x5_1 + 1))
  else none
  else none
  else
    some ⟨[.bool true], [], f20_fresh⟩ := by kernel_rfl
noncomputable def f20 (run : Run) (n : Nat) (a0_1 : List AV) (a1_1 : List AV) : Option Res := evalK G run n f20_info.keep 0 f20_info.body (retE G f20_info) (f20_info.start [.slice a0_1, .slice a1_1])
theorem f20_eq (run : Run) (n : Nat) (a0_1 : List AV) (a1_1 : List AV) : f20 run n a0_1 a1_1 =
  bif !(eqI (a0_1.length : Int) (a1_1.length : Int)) then
    some ⟨[.bool false], [], f20_fresh⟩
  else
    f20_l0 run n n a0_1 a1_1 0 := by kernel_rfl
theorem f20_run (ext : Run) (n : Nat) (a0_1 : List AV) (a1_1 : List AV) : runE G ext (n + 1) 20 [.slice a0_1, .slice a1_1] = f20 (runE G ext n) n a0_1 a1_1 := runE_succ f20_at f20_in

noncomputable def f12 (run : Run) (n : Nat) : Option Res := evalK G run n f12_info.keep 0 f12_info.body (retE G f12_info) (f12_info.start [])
theorem f12_eq (run : Run) (n : Nat) : f12 run n  =
  (run 14 [.slice [.int 256, .int 0, .int 0], .int 1, .int 1, .int 1, .int 2]).bind fun r1 =>
    bif r1.fresh then
    nilV r1.outs (consV r1.vals fun v1 vs1 =>
    nilV vs1 ((run 20 [.slice v1.toSlice, .slice [.int 0, .int 1]]).bind fun r2 =>
    nilV r2.outs (consV r2.vals fun v2 vs2 =>
    nilV vs2 (bif v2.toBool then
    (run 10 [.int 1, .int 1, .int 1, .int 2]).bind fun r3 =>
    nilV r3.outs (consV r3.vals fun v3 vs3 =>
    nilV vs3 (bif v3.toBool then
    (run 10 [.int 0, .int 1, .int 1, .int 2]).bind fun r4 =>
    nilV r4.outs (consV r4.vals fun v4 vs4 =>
    nilV vs4 (some ⟨[.bool (!v4.toBool)], [], f12_fresh⟩))
  else
    some ⟨[.bool false], [], f12_fresh⟩))
  else
    some ⟨[.bool false], [], f12_fresh⟩))))
  else none := by kernel_rfl
theorem f12_run (ext : Run) (n : Nat) : runE G ext (n + 1) 12 [] = f12 (runE G ext n) n  := runE_succ f12_at f12_in

noncomputable def f174_l0 (run : Run) (n : Nat) (k0 : Nat) (x0_1 : Int) (x1_1 : Int) (m1 : Nat) (x9_1 : Int) (x10_1 : Int) (o8_1 : List AV) : Option Res :=
  iterK (evalK G run n f174_keep 0 (sub [1, 1, 0, 1, 0, 0] f174_body)) f174_t0 f174_o0 (blockK 0 (seqK (evalK G run n f174_keep 0 (sub [1, 1, 1] f174_body) (retE G f174_info)) (retE G f174_info))) k0
    ⟨[.val (.int .u64) none (.int x0_1), .val (.int .i64) none (.int x1_1), .any, .any, .any, .ref ⟨(.arr m1 (.int .u8)), 8, 1, []⟩ 0 m1, .any, .any, .any, .val (.int .i64) none (.int x9_1), .val (.int .i64) none (.int x10_1), .any, .any, .any, .any, .any, .any, .any, .any, .any, .any, .any, .any, .any, .any, .any], [⟨0, none⟩, ⟨0, none⟩, ⟨0, none⟩, ⟨0, none⟩, ⟨0, none⟩, ⟨0, none⟩, ⟨0, none⟩, ⟨0, none⟩, ⟨1, some ⟨(.arr m1 (.int .u8)), .agg o8_1⟩⟩, ⟨0, none⟩, ⟨0, none⟩, ⟨0, none⟩, ⟨0, none⟩, ⟨0, none⟩, ⟨0, none⟩, ⟨0, none⟩, ⟨0, none⟩, ⟨0, none⟩, ⟨0, none⟩, ⟨0, none⟩, ⟨0, none⟩, ⟨0, none⟩, ⟨0, none⟩, ⟨0, none⟩, ⟨0, none⟩, ⟨0, none⟩], List.replicate 26 0⟩
theorem f174_l0_eq (run : Run) (n : Nat) (k0 : Nat) (x0_1 : Int) (x1_1 : Int) (m1 : Nat) (x9_1 : Int) (x10_1 : Int) (o8_1 : List AV) : f174_l0 run n (k0 + 1) x0_1 x1_1 m1 x9_1 x10_1 o8_1 =
  bif ltI x10_1 x9_1 then
    bif inR (IntKind.wrap .i64 (IntKind.wrap .i64 (x1_1 - 1) - x10_1)) m1 then
    f174_l0 run n k0 (Int.fdiv x0_1 (2 ^ 8)) x1_1 m1 x9_1 (IntKind.wrap .i64 (x10_1 + 1)) (o8_1.set (0 + (Int.toNat (IntKind.wrap .i64 (IntKind.wrap .i64 (x1_1 - 1) - x10_1)))) (.int (IntKind.wrap .u8 x0_1)))
  else none
  else
    some ⟨[.str (bytesOf (List.drop 0 (List.take m1 o8_1)))], [], f174_fresh⟩ := by kernel_rfl
noncomputable def f174 (run : Run) (n : Nat) (a0_1 : Int) (a1_1 : Int) : Option Res := evalK G run n f174_info.keep 0 f174_info.body (retE G f174_info) (f174_info.start [.int a0_1, .int a1_1])
theorem f174_eq (run : Run) (n : Nat) (a0_1 : Int) (a1_1 : Int) : f174 run n a0_1 a1_1 =
  bif eqI a1_1 a1_1 && leI 0 a1_1 && Nat.ble (Int.toNat a1_1 * 1) 140737488355328 then
    f174_l0 run n n a0_1 a1_1 (Int.toNat a1_1) a1_1 0 (List.replicate (Int.toNat a1_1) (.int 0))
  else none := by kernel_rfl
theorem f174_run (ext : Run) (n : Nat) (a0_1 : Int) (a1_1 : Int) : runE G ext (n + 1) 174 [.int a0_1, .int a1_1] = f174 (runE G ext n) n a0_1 a1_1 := runE_succ f174_at f174_in

noncomputable def f144 (run : Run) (n : Nat) (a0_1 : Int) : Option Res := evalK G run n f144_info.keep 0 f144_info.body (retE G f144_info) (f144_info.start [.int a0_1])
theorem f144_eq (run : Run) (n : Nat) (a0_1 : Int) : f144 run n a0_1 =
  (run 174 [.int (IntKind.wrap .u64 a0_1), .int 4]).bind fun r1 =>
    nilV r1.outs (consV r1.vals fun v1 vs1 =>
    nilV vs1 (some ⟨[.str v1.toStr], [], f144_fresh⟩)) := by kernel_rfl
theorem f144_run (ext : Run) (n : Nat) (a0_1 : Int) : runE G ext (n + 1) 144 [.int a0_1] = f144 (runE G ext n) n a0_1 := runE_succ f144_at f144_in

noncomputable def f145 (run : Run) (n : Nat) (a0_1 : Int) : Option Res := evalK G run n f145_info.keep 0 f145_info.body (retE G f145_info) (f145_info.start [.int a0_1])
theorem f145_eq (run : Run) (n : Nat) (a0_1 : Int) : f145 run n a0_1 =
  (run 174 [.int a0_1, .int 8]).bind fun r1 =>
    nilV r1.outs (consV r1.vals fun v1 vs1 =>
    nilV vs1 (some ⟨[.str v1.toStr], [], f145_fresh⟩)) := by kernel_rfl
theorem f145_run (ext : Run) (n : Nat) (a0_1 : Int) : runE G ext (n + 1) 145 [.int a0_1] = f145 (runE G ext n) n a0_1 := runE_succ f145_at f145_in

noncomputable def f115 (run : Run) (n : Nat) (a0_1 : Int) (a0_2 : List UInt8) (a0_3 : List UInt8) (a0_4 : Int) : Option Res := evalK G run n f115_info.keep 0 f115_info.body (retE G f115_info) (f115_info.start [.agg [.int a0_1, .blob a0_2, .blob a0_3, .int a0_4]])
theorem f115_eq (run : Run) (n : Nat) (a0_1 : Int) (a0_2 : List UInt8) (a0_3 : List UInt8) (a0_4 : Int) : f115 run n a0_1 a0_2 a0_3 a0_4 =
  (run 144 [.int a0_1]).bind fun r1 =>
    nilV r1.outs (consV r1.vals fun v1 vs1 =>
    nilV vs1 (bif Nat.ble (v1.toStr.length + (bytesOf (List.drop 0 (List.take 32 (ofBytes a0_2)))).length) maxLen then
    bif Nat.ble ((v1.toStr ++ (bytesOf (List.drop 0 (List.take 32 (ofBytes a0_2))))).length + (bytesOf (List.drop 0 (List.take 32 (ofBytes a0_3)))).length) maxLen then
    (run 145 [.int a0_4]).bind fun r2 =>
    nilV r2.outs (consV r2.vals fun v2 vs2 =>
    nilV vs2 (bif Nat.ble (((v1.toStr ++ (bytesOf (List.drop 0 (List.take 32 (ofBytes a0_2))))) ++ (bytesOf (List.drop 0 (List.take 32 (ofBytes a0_3))))).length + v2.toStr.length) maxLen then
    some ⟨[.str (((v1.toStr ++ (bytesOf (List.drop 0 (List.take 32 (ofBytes a0_2))))) ++ (bytesOf (List.drop 0 (List.take 32 (ofBytes a0_3))))) ++ v2.toStr)], [], f115_fresh⟩
  else none))
  else none
  else none)) := by kernel_rfl
theorem f115_run (ext : Run) (n : Nat) (a0_1 : Int) (a0_2 : List UInt8) (a0_3 : List UInt8) (a0_4 : Int) : runE G ext (n + 1) 115 [.agg [.int a0_1, .blob a0_2, .blob a0_3, .int a0_4]] = f115 (runE G ext n) n a0_1 a0_2 a0_3 a0_4 := runE_succ f115_at f115_in

noncomputable def f173 (run : Run) (n : Nat) (a0_1 : Int) (a1_1 : List AV) : Option Res := evalK G run n f173_info.keep 0 f173_info.body (retE G f173_info) (f173_info.start [.int a0_1, .slice a1_1])
theorem f173_eq (run : Run) (n : Nat) (a0_1 : Int) (a1_1 : List AV) : f173 run n a0_1 a1_1 =
  (run 195 [.slice a1_1, .str []]).bind fun r1 =>
    nilV r1.outs (consV r1.vals fun v1 vs1 =>
    nilV vs1 (bif Nat.ble ((bytesOf [.int a0_1]).length + v1.toStr.length) maxLen then
    some ⟨[.str ((bytesOf [.int a0_1]) ++ v1.toStr)], [], f173_fresh⟩
  else none)) := by kernel_rfl
theorem f173_run (ext : Run) (n : Nat) (a0_1 : Int) (a1_1 : List AV) : runE G ext (n + 1) 173 [.int a0_1, .slice a1_1] = f173 (runE G ext n) n a0_1 a1_1 := runE_succ f173_at f173_in

noncomputable def f143 (run : Run) (n : Nat) (a0_1 : List UInt8) : Option Res := evalK G run n f143_info.keep 0 f143_info.body (retE G f143_info) (f143_info.start [.str a0_1])
theorem f143_eq (run : Run) (n : Nat) (a0_1 : List UInt8) : f143 run n a0_1 =
  (run 173 [.int 3, .slice [.str a0_1]]).bind fun r1 =>
    nilV r1.outs (consV r1.vals fun v1 vs1 =>
    nilV vs1 (some ⟨[.str v1.toStr], [], f143_fresh⟩)) := by kernel_rfl
theorem f143_run (ext : Run) (n : Nat) (a0_1 : List UInt8) : runE G ext (n + 1) 143 [.str a0_1] = f143 (runE G ext n) n a0_1 := runE_succ f143_at f143_in

noncomputable def f170 (run : Run) (n : Nat) : Option Res := evalK G run n f170_info.keep 0 f170_info.body (retE G f170_info) (f170_info.start [])
theorem f170_eq (run : Run) (n : Nat) : f170 run n  =
  some ⟨[.agg [.agg (List.replicate 8 (.int 0)), .str [], .int 0, .bool false]], [], f170_fresh⟩ := by kernel_rfl
theorem f170_run (ext : Run) (n : Nat) : runE G ext (n + 1) 170 [] = f170 (runE G ext n) n  := runE_succ f170_at f170_in

noncomputable def f192 (run : Run) (n : Nat) : Option Res := evalK G run n f192_info.keep 0 f192_info.body (retE G f192_info) (f192_info.start [])
theorem f192_eq (run : Run) (n : Nat) : f192 run n  =
  some ⟨[.agg [.int 1779033703, .int 3144134277, .int 1013904242, .int 2773480762, .int 1359893119, .int 2600822924, .int 528734635, .int 1541459225]], [], f192_fresh⟩ := by kernel_rfl
theorem f192_run (ext : Run) (n : Nat) : runE G ext (n + 1) 192 [] = f192 (runE G ext n) n  := runE_succ f192_at f192_in

noncomputable def f141_l0 (run : Run) (n : Nat) (k0 : Nat) (x0_1 : List UInt8) (x1_1 : Int) (x7_1 : Int) (x9_1 : Int) (x10_1 : Int) : Option Res :=
  iterK (evalK G run n f141_keep 0 (sub [1, 1, 0, 1, 0, 0] f141_body)) f141_t0 f141_o0 (blockK 0 (seqK (evalK G run n f141_keep 0 (sub [1, 1, 1] f141_body) (retE G f141_info)) (retE G f141_info))) k0
    ⟨[.val .str none (.str x0_1), .val (.int .i64) none (.int x1_1), .any, .any, .any, .any, .any, .val (.int .u64) none (.int x7_1), .any, .val (.int .i64) none (.int x9_1), .val (.int .i64) none (.int x10_1), .any, .any, .any, .any, .any, .any, .any, .any, .any, .any, .any, .any, .any, .any, .any, .any, .any, .any, .any, .any, .any, .any, .any, .any, .any, .any, .any, .any, .any, .any], [⟨0, none⟩, ⟨0, none⟩, ⟨0, none⟩, ⟨0, none⟩, ⟨0, none⟩, ⟨0, none⟩, ⟨0, none⟩, ⟨0, none⟩, ⟨0, none⟩, ⟨0, none⟩, ⟨0, none⟩, ⟨0, none⟩, ⟨0, none⟩, ⟨0, none⟩, ⟨0, none⟩, ⟨0, none⟩, ⟨0, none⟩, ⟨0, none⟩, ⟨0, none⟩, ⟨0, none⟩, ⟨0, none⟩, ⟨0, none⟩, ⟨0, none⟩, ⟨0, none⟩, ⟨0, none⟩, ⟨0, none⟩, ⟨0, none⟩, ⟨0, none⟩, ⟨0, none⟩, ⟨0, none⟩, ⟨0, none⟩, ⟨0, none⟩, ⟨0, none⟩, ⟨0, none⟩, ⟨0, none⟩, ⟨0, none⟩, ⟨0, none⟩, ⟨0, none⟩, ⟨0, none⟩, ⟨0, none⟩, ⟨0, none⟩], List.replicate 41 0⟩
theorem f141_l0_eq (run : Run) (n : Nat) (k0 : Nat) (x0_1 : List UInt8) (x1_1 : Int) (x7_1 : Int) (x9_1 : Int) (x10_1 : Int) : f141_l0 run n (k0 + 1) x0_1 x1_1 x7_1 x9_1 x10_1 =
  bif ltI x10_1 x9_1 then
    bif leI 0 x1_1 then
    bif ltI x1_1 (x0_1.length : Int) then
    bif ltI x10_1 (IntKind.wrap .i64 ((x0_1.length : Int) - x1_1)) then
    bif inR (IntKind.wrap .i64 (x1_1 + x10_1)) x0_1.length then
    f141_l0 run n k0 x0_1 x1_1 (IntKind.wrap .u64 (BitVec.toNat (BitVec.ofInt 64 (IntKind.wrap .u64 (x7_1 * 2 ^ 8)) ||| BitVec.ofInt 64 (IntKind.wrap .u64 ((x0_1.getD (Int.toNat (IntKind.wrap .i64 (x1_1 + x10_1))) 0).toNat : Int))))) x9_1 (IntKind.wrap .i64 (x10_1 + 1))
  else none
  else
    f141_l0 run n k0 x0_1 x1_1 (IntKind.wrap .u64 (x7_1 * 2 ^ 8)) x9_1 (IntKind.wrap .i64 (x10_1 + 1))
  else
    f141_l0 run n k0 x0_1 x1_1 (IntKind.wrap .u64 (x7_1 * 2 ^ 8)) x9_1 (IntKind.wrap .i64 (x10_1 + 1))
  else
    f141_l0 run n k0 x0_1 x1_1 (IntKind.wrap .u64 (x7_1 * 2 ^ 8)) x9_1 (IntKind.wrap .i64 (x10_1 + 1))
  else
    some ⟨[.int x7_1], [], f141_fresh⟩ := by kernel_rfl
noncomputable def f141 (run : Run) (n : Nat) (a0_1 : List UInt8) (a1_1 : Int) (a2_1 : Int) : Option Res := evalK G run n f141_info.keep 0 f141_info.body (retE G f141_info) (f141_info.start [.str a0_1, .int a1_1, .int a2_1])
theorem f141_eq (run : Run) (n : Nat) (a0_1 : List UInt8) (a1_1 : Int) (a2_1 : Int) : f141 run n a0_1 a1_1 a2_1 =
  f141_l0 run n n a0_1 a1_1 0 a2_1 0 := by kernel_rfl
theorem f141_run (ext : Run) (n : Nat) (a0_1 : List UInt8) (a1_1 : Int) (a2_1 : Int) : runE G ext (n + 1) 141 [.str a0_1, .int a1_1, .int a2_1] = f141 (runE G ext n) n a0_1 a1_1 a2_1 := runE_succ f141_at f141_in

noncomputable def f218 (run : Run) (n : Nat) (a0_1 : List UInt8) (a1_1 : Int) : Option Res := evalK G run n f218_info.keep 0 f218_info.body (retE G f218_info) (f218_info.start [.str a0_1, .int a1_1])
theorem f218_eq (run : Run) (n : Nat) (a0_1 : List UInt8) (a1_1 : Int) : f218 run n a0_1 a1_1 =
  (run 141 [.str a0_1, .int a1_1, .int 4]).bind fun r1 =>
    nilV r1.outs (consV r1.vals fun v1 vs1 =>
    nilV vs1 (some ⟨[.int (IntKind.wrap .u32 v1.toInt)], [], f218_fresh⟩)) := by kernel_rfl
theorem f218_run (ext : Run) (n : Nat) (a0_1 : List UInt8) (a1_1 : Int) : runE G ext (n + 1) 218 [.str a0_1, .int a1_1] = f218 (runE G ext n) n a0_1 a1_1 := runE_succ f218_at f218_in

noncomputable def f210 (run : Run) (n : Nat) (a0_1 : Int) (a1_1 : Int) : Option Res := evalK G run n f210_info.keep 0 f210_info.body (retE G f210_info) (f210_info.start [.int a0_1, .int a1_1])
theorem f210_eq (run : Run) (n : Nat) (a0_1 : Int) (a1_1 : Int) : f210 run n a0_1 a1_1 =
  bif leI 0 (IntKind.wrap .u64 (BitVec.toNat (BitVec.ofInt 64 (IntKind.wrap .u64 a1_1) &&& BitVec.ofInt 64 31))) then
    bif leI 0 (IntKind.wrap .u64 (32 - IntKind.wrap .u64 (BitVec.toNat (BitVec.ofInt 64 (IntKind.wrap .u64 a1_1) &&& BitVec.ofInt 64 31)))) then
    some ⟨[.int (IntKind.wrap .u32 (BitVec.toNat (BitVec.ofInt 32 (Int.fdiv a0_1 (2 ^ (min (Int.toNat (IntKind.wrap .u64 (BitVec.toNat (BitVec.ofInt 64 (IntKind.wrap .u64 a1_1) &&& BitVec.ofInt 64 31)))) 32))) ||| BitVec.ofInt 32 (IntKind.wrap .u32 (a0_1 * 2 ^ (min (Int.toNat (IntKind.wrap .u64 (32 - IntKind.wrap .u64 (BitVec.toNat (BitVec.ofInt 64 (IntKind.wrap .u64 a1_1) &&& BitVec.ofInt 64 31))))) 32))))))], [], f210_fresh⟩
  else none
  else none := by kernel_rfl
theorem f210_run (ext : Run) (n : Nat) (a0_1 : Int) (a1_1 : Int) : runE G ext (n + 1) 210 [.int a0_1, .int a1_1] = f210 (runE G ext n) n a0_1 a1_1 := runE_succ f210_at f210_in

end Go.Proofs.YtogehijjhibdkaaGreat.Ev
