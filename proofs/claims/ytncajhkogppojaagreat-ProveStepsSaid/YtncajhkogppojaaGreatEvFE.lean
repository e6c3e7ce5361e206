/- What the evaluator does with the functions, as programs over plain values: printed by gen.py, checked by the kernel. -/
import Derived.Test.YtncajhkogppojaaGreatEvFA
namespace Go.Proofs.YtncajhkogppojaaGreat.Ev
open Go Go.RowKit
set_option maxRecDepth 100000


noncomputable def f22_l2 (run : Run) (n : Nat) (k0 : Nat) (k2 : Nat) (x1_2 : Int) (x3_2 : Int) (x4_2 : Int) (x11_2 : List AV) (m2 : Nat) (x13_2 : Int) (x14_2 : Int) (x55_1 : List AV) (x56_1 : Int) (x57_1 : Int) (o45_2 : List AV) : Option Res :=
  iterK (evalK G run n f22_keep 2 (sub [1, 1, 1, 1, 1, 0, 1, 0, 0, 1, 0, 0, 0, 1, 0, 0] f22_body)) f22_t2 f22_o2 (blockK 2 (seqK (evalK G run n f22_keep 1 (sub [1, 1, 1, 1, 1, 0, 1, 0, 0, 1, 0, 0, 1] f22_body) (blockK 1 (seqK (evalK G run n f22_keep 0 (sub [1, 1, 1, 1, 1, 0, 1, 0, 0, 1, 1] f22_body) (seqK (fun t => iterK (evalK G run n f22_keep 0 (sub [1, 1, 1, 1, 1, 0, 1, 0, 0] f22_body)) f22_t0 f22_o0 (blockK 0 (seqK (evalK G run n f22_keep 0 (sub [1, 1, 1, 1, 1, 1] f22_body) (retE G f22_info)) (retE G f22_info))) k0 (t.clear f22_t0 f22_o0)) (blockK 0 (seqK (evalK G run n f22_keep 0 (sub [1, 1, 1, 1, 1, 1] f22_body) (retE G f22_info)) (retE G f22_info))))) (seqK (fun t => iterK (evalK G run n f22_keep 0 (sub [1, 1, 1, 1, 1, 0, 1, 0, 0] f22_body)) f22_t0 f22_o0 (blockK 0 (seqK (evalK G run n f22_keep 0 (sub [1, 1, 1, 1, 1, 1] f22_body) (retE G f22_info)) (retE G f22_info))) k0 (t.clear f22_t0 f22_o0)) (blockK 0 (seqK (evalK G run n f22_keep 0 (sub [1, 1, 1, 1, 1, 1] f22_body) (retE G f22_info)) (retE G f22_info))))))) (blockK 1 (seqK (evalK G run n f22_keep 0 (sub [1, 1, 1, 1, 1, 0, 1, 0, 0, 1, 1] f22_body) (seqK (fun t => iterK (evalK G run n f22_keep 0 (sub [1, 1, 1, 1, 1, 0, 1, 0, 0] f22_body)) f22_t0 f22_o0 (blockK 0 (seqK (evalK G run n f22_keep 0 (sub [1, 1, 1, 1, 1, 1] f22_body) (retE G f22_info)) (retE G f22_info))) k0 (t.clear f22_t0 f22_o0)) (blockK 0 (seqK (evalK G run n f22_keep 0 (sub [1, 1, 1, 1, 1, 1] f22_body) (retE G f22_info)) (retE G f22_info))))) (seqK (fun t => iterK (evalK G run n f22_keep 0 (sub [1, 1, 1, 1, 1, 0, 1, 0, 0] f22_body)) f22_t0 f22_o0 (blockK 0 (seqK (evalK G run n f22_keep 0 (sub [1, 1, 1, 1, 1, 1] f22_body) (retE G f22_info)) (retE G f22_info))) k0 (t.clear f22_t0 f22_o0)) (blockK 0 (seqK (evalK G run n f22_keep 0 (sub [1, 1, 1, 1, 1, 1] f22_body) (retE G f22_info)) (retE G f22_info)))))))) k2
    ⟨[.any, .val (.int .i64) none (.int x1_2), .any, .val (.int .i64) none (.int x3_2), .val (.int .i64) none (.int x4_2), .any, .any, .any, .any, .any, .any, .val (.slice (.int .i64)) none (.slice x11_2), .ref ⟨(.arr m2 .bool), 45, 1, []⟩ 0 m2, .val (.int .i64) none (.int x13_2), .val (.int .i64) none (.int x14_2), .any, .any, .any, .any, .any, .any, .any, .any, .any, .any, .any, .any, .any, .any, .any, .any, .any, .any, .any, .any, .any, .any, .any, .any, .any, .any, .any, .any, .any, .any, .any, .any, .any, .any, .any, .any, .any, .any, .any, .any, .val (.slice (.int .i64)) (some (55, 0)) (.slice x55_1), .val (.int .i64) none (.int x56_1), .val (.int .i64) none (.int x57_1), .any, .any, .any, .any, .any, .any, .any, .any, .any, .any, .any, .any, .any, .any, .any, .any, .any, .any, .any, .any, .any, .any, .any, .any, .any, .any, .any, .any], [⟨0, none⟩, ⟨0, none⟩, ⟨0, none⟩, ⟨0, none⟩, ⟨0, none⟩, ⟨0, none⟩, ⟨0, none⟩, ⟨0, none⟩, ⟨0, none⟩, ⟨0, none⟩, ⟨0, none⟩, ⟨0, none⟩, ⟨0, none⟩, ⟨0, none⟩, ⟨0, none⟩, ⟨0, none⟩, ⟨0, none⟩, ⟨0, none⟩, ⟨0, none⟩, ⟨0, none⟩, ⟨0, none⟩, ⟨0, none⟩, ⟨0, none⟩, ⟨0, none⟩, ⟨0, none⟩, ⟨0, none⟩, ⟨0, none⟩, ⟨0, none⟩, ⟨0, none⟩, ⟨0, none⟩, ⟨0, none⟩, ⟨0, none⟩, ⟨0, none⟩, ⟨0, none⟩, ⟨0, none⟩, ⟨0, none⟩, ⟨0, none⟩, ⟨0, none⟩, ⟨0, none⟩, ⟨0, none⟩, ⟨0, none⟩, ⟨0, none⟩, ⟨0, none⟩, ⟨0, none⟩, ⟨0, none⟩, ⟨1, some ⟨(.arr m2 .bool), .agg o45_2⟩⟩, ⟨0, none⟩, ⟨0, none⟩, ⟨0, none⟩, ⟨0, none⟩, ⟨0, none⟩, ⟨0, none⟩, ⟨0, none⟩, ⟨0, none⟩, ⟨0, none⟩, ⟨0, none⟩, ⟨0, none⟩, ⟨0, none⟩, ⟨0, none⟩, ⟨0, none⟩, ⟨0, none⟩, ⟨0, none⟩, ⟨0, none⟩, ⟨0, none⟩, ⟨0, none⟩, ⟨0, none⟩, ⟨0, none⟩, ⟨0, none⟩, ⟨0, none⟩, ⟨0, none⟩, ⟨0, none⟩, ⟨0, none⟩, ⟨0, none⟩, ⟨0, none⟩, ⟨0, none⟩, ⟨0, none⟩, ⟨0, none⟩, ⟨0, none⟩, ⟨0, none⟩, ⟨0, none⟩, ⟨0, none⟩, ⟨0, none⟩, ⟨0, none⟩, ⟨0, none⟩, ⟨0, none⟩, ⟨0, none⟩], List.replicate 86 0⟩
noncomputable def f22_l4 (run : Run) (n : Nat) (_k0 : Nat) (k4 : Nat) (x17_1 : List AV) (m5 : Nat) (x73_1 : Int) (x74_1 : Int) (o45_5 : List AV) : Option Res :=
  iterK (evalK G run n f22_keep 4 (sub [1, 1, 1, 1, 1, 1, 1, 0, 1, 0, 0] f22_body)) f22_t4 f22_o4 (blockK 4 (seqK (evalK G run n f22_keep 0 (sub [1, 1, 1, 1, 1, 1, 1, 1] f22_body) (retE G f22_info)) (retE G f22_info))) k4
    ⟨[.any, .any, .any, .any, .any, .any, .any, .any, .any, .any, .any, .any, .any, .any, .any, .any, .any, .val (.slice (.int .i64)) (some (17, 0)) (.slice x17_1), .any, .any, .any, .any, .any, .any, .any, .any, .any, .any, .any, .any, .any, .any, .any, .any, .any, .any, .any, .any, .any, .any, .any, .any, .any, .any, .any, .any, .any, .any, .any, .any, .any, .any, .any, .any, .any, .any, .any, .any, .any, .any, .any, .any, .any, .any, .any, .any, .any, .any, .any, .any, .any, .any, .ref ⟨(.arr m5 .bool), 45, 1, []⟩ 0 m5, .val (.int .i64) none (.int x73_1), .val (.int .i64) none (.int x74_1), .any, .any, .any, .any, .any, .any, .any, .any, .any, .any, .any], [⟨0, none⟩, ⟨0, none⟩, ⟨0, none⟩, ⟨0, none⟩, ⟨0, none⟩, ⟨0, none⟩, ⟨0, none⟩, ⟨0, none⟩, ⟨0, none⟩, ⟨0, none⟩, ⟨0, none⟩, ⟨0, none⟩, ⟨0, none⟩, ⟨0, none⟩, ⟨0, none⟩, ⟨0, none⟩, ⟨0, none⟩, ⟨0, none⟩, ⟨0, none⟩, ⟨0, none⟩, ⟨0, none⟩, ⟨0, none⟩, ⟨0, none⟩, ⟨0, none⟩, ⟨0, none⟩, ⟨0, none⟩, ⟨0, none⟩, ⟨0, none⟩, ⟨0, none⟩, ⟨0, none⟩, ⟨0, none⟩, ⟨0, none⟩, ⟨0, none⟩, ⟨0, none⟩, ⟨0, none⟩, ⟨0, none⟩, ⟨0, none⟩, ⟨0, none⟩, ⟨0, none⟩, ⟨0, none⟩, ⟨0, none⟩, ⟨0, none⟩, ⟨0, none⟩, ⟨0, none⟩, ⟨0, none⟩, ⟨1, some ⟨(.arr m5 .bool), .agg o45_5⟩⟩, ⟨0, none⟩, ⟨0, none⟩, ⟨0, none⟩, ⟨0, none⟩, ⟨0, none⟩, ⟨0, none⟩, ⟨0, none⟩, ⟨0, none⟩, ⟨0, none⟩, ⟨0, none⟩, ⟨0, none⟩, ⟨0, none⟩, ⟨0, none⟩, ⟨0, none⟩, ⟨0, none⟩, ⟨0, none⟩, ⟨0, none⟩, ⟨0, none⟩, ⟨0, none⟩, ⟨0, none⟩, ⟨0, none⟩, ⟨0, none⟩, ⟨0, none⟩, ⟨0, none⟩, ⟨0, none⟩, ⟨0, none⟩, ⟨0, none⟩, ⟨0, none⟩, ⟨0, none⟩, ⟨0, none⟩, ⟨0, none⟩, ⟨0, none⟩, ⟨0, none⟩, ⟨0, none⟩, ⟨0, none⟩, ⟨0, none⟩, ⟨0, none⟩, ⟨0, none⟩, ⟨0, none⟩, ⟨0, none⟩], List.replicate 86 0⟩
noncomputable def f22_l0 (run : Run) (n : Nat) (k0 : Nat) (x1_1 : Int) (x3_1 : Int) (x4_1 : Int) (x11_1 : List AV) (m1 : Nat) (x13_1 : Int) (x14_1 : Int) (o45_1 : List AV) : Option Res :=
  iterK (evalK G run n f22_keep 0 (sub [1, 1, 1, 1, 1, 0, 1, 0, 0] f22_body)) f22_t0 f22_o0 (blockK 0 (seqK (evalK G run n f22_keep 0 (sub [1, 1, 1, 1, 1, 1] f22_body) (retE G f22_info)) (retE G f22_info))) k0
    ⟨[.any, .val (.int .i64) none (.int x1_1), .any, .val (.int .i64) none (.int x3_1), .val (.int .i64) none (.int x4_1), .any, .any, .any, .any, .any, .any, .val (.slice (.int .i64)) none (.slice x11_1), .ref ⟨(.arr m1 .bool), 45, 1, []⟩ 0 m1, .val (.int .i64) none (.int x13_1), .val (.int .i64) none (.int x14_1), .any, .any, .any, .any, .any, .any, .any, .any, .any, .any, .any, .any, .any, .any, .any, .any, .any, .any, .any, .any, .any, .any, .any, .any, .any, .any, .any, .any, .any, .any, .any, .any, .any, .any, .any, .any, .any, .any, .any, .any, .any, .any, .any, .any, .any, .any, .any, .any, .any, .any, .any, .any, .any, .any, .any, .any, .any, .any, .any, .any, .any, .any, .any, .any, .any, .any, .any, .any, .any, .any, .any], [⟨0, none⟩, ⟨0, none⟩, ⟨0, none⟩, ⟨0, none⟩, ⟨0, none⟩, ⟨0, none⟩, ⟨0, none⟩, ⟨0, none⟩, ⟨0, none⟩, ⟨0, none⟩, ⟨0, none⟩, ⟨0, none⟩, ⟨0, none⟩, ⟨0, none⟩, ⟨0, none⟩, ⟨0, none⟩, ⟨0, none⟩, ⟨0, none⟩, ⟨0, none⟩, ⟨0, none⟩, ⟨0, none⟩, ⟨0, none⟩, ⟨0, none⟩, ⟨0, none⟩, ⟨0, none⟩, ⟨0, none⟩, ⟨0, none⟩, ⟨0, none⟩, ⟨0, none⟩, ⟨0, none⟩, ⟨0, none⟩, ⟨0, none⟩, ⟨0, none⟩, ⟨0, none⟩, ⟨0, none⟩, ⟨0, none⟩, ⟨0, none⟩, ⟨0, none⟩, ⟨0, none⟩, ⟨0, none⟩, ⟨0, none⟩, ⟨0, none⟩, ⟨0, none⟩, ⟨0, none⟩, ⟨0, none⟩, ⟨1, some ⟨(.arr m1 .bool), .agg o45_1⟩⟩, ⟨0, none⟩, ⟨0, none⟩, ⟨0, none⟩, ⟨0, none⟩, ⟨0, none⟩, ⟨0, none⟩, ⟨0, none⟩, ⟨0, none⟩, ⟨0, none⟩, ⟨0, none⟩, ⟨0, none⟩, ⟨0, none⟩, ⟨0, none⟩, ⟨0, none⟩, ⟨0, none⟩, ⟨0, none⟩, ⟨0, none⟩, ⟨0, none⟩, ⟨0, none⟩, ⟨0, none⟩, ⟨0, none⟩, ⟨0, none⟩, ⟨0, none⟩, ⟨0, none⟩, ⟨0, none⟩, ⟨0, none⟩, ⟨0, none⟩, ⟨0, none⟩, ⟨0, none⟩, ⟨0, none⟩, ⟨0, none⟩, ⟨0, none⟩, ⟨0, none⟩, ⟨0, none⟩, ⟨0, none⟩, ⟨0, none⟩, ⟨0, none⟩, ⟨0, none⟩, ⟨0, none⟩, ⟨0, none⟩], List.replicate 86 0⟩
theorem f22_l2_eq (run : Run) (n : Nat) (k0 : Nat) (k2 : Nat) (x1_2 : Int) (x3_2 : Int) (x4_2 : Int) (x11_2 : List AV) (m2 : Nat) (x13_2 : Int) (x14_2 : Int) (x55_1 : List AV) (x56_1 : Int) (x57_1 : Int) (o45_2 : List AV) : f22_l2 run n k0 (k2 + 1) x1_2 x3_2 x4_2 x11_2 m2 x13_2 x14_2 x55_1 x56_1 x57_1 o45_2 =
  bif ltI x57_1 x56_1 then
    bif inR x57_1 x55_1.length then
    bif inR ((nth x55_1 (Int.toNat x57_1)).toInt) m2 then
    f22_l2 run n k0 k2 x1_2 x3_2 x4_2 x11_2 m2 x13_2 x14_2 x55_1 x56_1 (IntKind.wrap .i64 (x57_1 + 1)) (o45_2.set (0 + (Int.toNat ((nth x55_1 (Int.toNat x57_1)).toInt))) (.bool true))
  else none
  else none
  else
    (run 57 [.slice x11_2, .int x13_2, .int x14_2, .int x1_2, .int x3_2, .int x4_2]).bind fun r4 =>
    nilV r4.outs (consV r4.vals fun v4 vs4 =>
    nilV vs4 (f22_l0 run n k0 x1_2 x3_2 x4_2 x11_2 m2 v4.toInt (IntKind.wrap .i64 (x14_2 - 1)) o45_2)) := by kernel_rfl
theorem f22_l4_eq (run : Run) (n : Nat) (k0 : Nat) (k4 : Nat) (x17_1 : List AV) (m5 : Nat) (x73_1 : Int) (x74_1 : Int) (o45_5 : List AV) : f22_l4 run n k0 (k4 + 1) x17_1 m5 x73_1 x74_1 o45_5 =
  bif ltI x74_1 x73_1 then
    bif inR x74_1 m5 then
    bif (AV.fld (.agg o45_5) (0 + (Int.toNat x74_1))).toBool then
    bif Nat.ble ((x17_1.length + 1) * 8) 140737488355328 then
    f22_l4 run n k0 k4 (x17_1 ++ [.int x74_1]) m5 x73_1 (IntKind.wrap .i64 (x74_1 + 1)) o45_5
  else none
  else
    f22_l4 run n k0 k4 x17_1 m5 x73_1 (IntKind.wrap .i64 (x74_1 + 1)) o45_5
  else none
  else
    some ⟨[.slice x17_1], [], f22_fresh⟩ := by kernel_rfl
theorem f22_l0_eq (run : Run) (n : Nat) (k0 : Nat) (x1_1 : Int) (x3_1 : Int) (x4_1 : Int) (x11_1 : List AV) (m1 : Nat) (x13_1 : Int) (x14_1 : Int) (o45_1 : List AV) : f22_l0 run n (k0 + 1) x1_1 x3_1 x4_1 x11_1 m1 x13_1 x14_1 o45_1 =
  bif leI 0 x14_1 then
    (run 56 [.slice x11_1, .int x13_1, .int x14_1]).bind fun r3 =>
    bif r3.fresh then
    nilV r3.outs (consV r3.vals fun v3 vs3 =>
    nilV vs3 (f22_l2 run n k0 n x1_1 x3_1 x4_1 x11_1 m1 x13_1 x14_1 v3.toSlice (v3.toSlice.length : Int) 0 o45_1))
  else none
  else
    f22_l4 run n k0 n [] m1 (m1 : Int) 0 o45_1 := by kernel_rfl
noncomputable def f22 (run : Run) (n : Nat) (a0_1 : List AV) (a1_1 : Int) (a2_1 : Int) (a3_1 : Int) (a4_1 : Int) : Option Res := evalK G run n f22_info.keep 0 f22_info.body (retE G f22_info) (f22_info.start [.slice a0_1, .int a1_1, .int a2_1, .int a3_1, .int a4_1])
theorem f22_eq (run : Run) (n : Nat) (a0_1 : List AV) (a1_1 : Int) (a2_1 : Int) (a3_1 : Int) (a4_1 : Int) : f22 run n a0_1 a1_1 a2_1 a3_1 a4_1 =
  (run 19 [.int a1_1, .int a2_1, .int a3_1, .int a4_1]).bind fun r1 =>
    nilV r1.outs (consV r1.vals fun v1 vs1 =>
    nilV vs1 (bif !v1.toBool then
    some ⟨[.slice []], [], f22_fresh⟩
  else
    bif leI (a0_1.length : Int) a2_1 then
    some ⟨[.slice []], [], f22_fresh⟩
  else
    bif ltI 1024 (a0_1.length : Int) then
    some ⟨[.slice []], [], f22_fresh⟩
  else
    bif boundsOk 0 (IntKind.wrap .i64 ((a0_1.length : Int) - a2_1)) (a0_1.length : Int) (a0_1.length : Int) && true then
    bif eqI ((List.drop 0 (List.take (Int.toNat (IntKind.wrap .i64 ((a0_1.length : Int) - a2_1))) a0_1)).length : Int) ((List.drop 0 (List.take (Int.toNat (IntKind.wrap .i64 ((a0_1.length : Int) - a2_1))) a0_1)).length : Int) && leI 0 ((List.drop 0 (List.take (Int.toNat (IntKind.wrap .i64 ((a0_1.length : Int) - a2_1))) a0_1)).length : Int) && Nat.ble (Int.toNat ((List.drop 0 (List.take (Int.toNat (IntKind.wrap .i64 ((a0_1.length : Int) - a2_1))) a0_1)).length : Int) * 1) 140737488355328 then
    (run 55 [.slice (List.drop 0 (List.take (Int.toNat (IntKind.wrap .i64 ((a0_1.length : Int) - a2_1))) a0_1))]).bind fun r2 =>
    nilV r2.outs (consV r2.vals fun v2 vs2 =>
    nilV vs2 (f22_l0 run n n a1_1 a3_1 a4_1 (List.drop 0 (List.take (Int.toNat (IntKind.wrap .i64 ((a0_1.length : Int) - a2_1))) a0_1)) (Int.toNat ((List.drop 0 (List.take (Int.toNat (IntKind.wrap .i64 ((a0_1.length : Int) - a2_1))) a0_1)).length : Int)) 0 v2.toInt (List.replicate (Int.toNat ((List.drop 0 (List.take (Int.toNat (IntKind.wrap .i64 ((a0_1.length : Int) - a2_1))) a0_1)).length : Int)) (.bool false))))
  else none
  else none)) := by kernel_rfl
theorem f22_run (ext : Run) (n : Nat) (a0_1 : List AV) (a1_1 : Int) (a2_1 : Int) (a3_1 : Int) (a4_1 : Int) : runE G ext (n + 1) 22 [.slice a0_1, .int a1_1, .int a2_1, .int a3_1, .int a4_1] = f22 (runE G ext n) n a0_1 a1_1 a2_1 a3_1 a4_1 := runE_succ f22_at f22_in

noncomputable def f29_l0 (run : Run) (n : Nat) (k0 : Nat) (x1_1 : List AV) (x5_1 : List AV) (x6_1 : Int) : Option Res :=
  iterK (evalK G run n f29_keep 0 (sub [1, 1, 0, 1, 0, 0] f29_body)) f29_t0 f29_o0 (blockK 0 (seqK (evalK G run n f29_keep 0 (sub [1, 1, 1] f29_body) (retE G f29_info)) (retE G f29_info))) k0
    ⟨[.any, .val (.slice (.struct [(.struct [(.int .u32), (.blob 32), (.blob 32), (.int .u64)]), (.slice .str)])) none (.slice x1_1), .any, .any, .any, .val (.slice (.int .i64)) (some (5, 0)) (.slice x5_1), .val (.int .i64) none (.int x6_1), .any, .any, .any, .any, .any, .any, .any, .any, .any, .any, .any, .any, .any, .any, .any, .any, .any, .any, .any, .any, .any, .any, .any, .any, .any, .any, .any, .any, .any, .any, .any, .any, .any, .any, .any, .any], [⟨0, none⟩, ⟨0, none⟩, ⟨0, none⟩, ⟨0, none⟩, ⟨0, none⟩, ⟨0, none⟩, ⟨0, none⟩, ⟨0, none⟩, ⟨0, none⟩, ⟨0, none⟩, ⟨0, none⟩, ⟨0, none⟩, ⟨0, none⟩, ⟨0, none⟩, ⟨0, none⟩, ⟨0, none⟩, ⟨0, none⟩, ⟨0, none⟩, ⟨0, none⟩, ⟨0, none⟩, ⟨0, none⟩, ⟨0, none⟩, ⟨0, none⟩, ⟨0, none⟩, ⟨0, none⟩, ⟨0, none⟩, ⟨0, none⟩, ⟨0, none⟩, ⟨0, none⟩, ⟨0, none⟩, ⟨0, none⟩, ⟨0, none⟩, ⟨0, none⟩, ⟨0, none⟩, ⟨0, none⟩, ⟨0, none⟩, ⟨0, none⟩, ⟨0, none⟩, ⟨0, none⟩, ⟨0, none⟩, ⟨0, none⟩, ⟨0, none⟩, ⟨0, none⟩], List.replicate 43 0⟩
theorem f29_l0_eq (run : Run) (n : Nat) (k0 : Nat) (x1_1 : List AV) (x5_1 : List AV) (x6_1 : Int) : f29_l0 run n (k0 + 1) x1_1 x5_1 x6_1 =
  bif ltI x6_1 (x1_1.length : Int) then
    bif ltI 0 (x5_1.length : Int) then
    bif Nat.ble ((x5_1.length + 1) * 8) 140737488355328 then
    f29_l0 run n k0 x1_1 (x5_1 ++ [.int x6_1]) (IntKind.wrap .i64 (x6_1 + 1))
  else none
  else
    some ⟨[.slice x5_1], [], f29_fresh⟩
  else
    some ⟨[.slice x5_1], [], f29_fresh⟩ := by kernel_rfl
noncomputable def f29 (run : Run) (n : Nat) (a0_1 : Int) (a0_2 : List UInt8) (a0_3 : List UInt8) (a0_4 : Int) (a0_5 : List UInt8) (a0_6 : Int) (a0_7 : Int) (a0_8 : Int) (a0_9 : Int) (a0_10 : Int) (a0_11 : Int) (a1_1 : List AV) : Option Res := evalK G run n f29_info.keep 0 f29_info.body (retE G f29_info) (f29_info.start [.agg [.agg [.int a0_1, .blob a0_2, .blob a0_3, .int a0_4], .blob a0_5, .int a0_6, .int a0_7, .int a0_8, .int a0_9, .int a0_10, .int a0_11], .slice a1_1])
theorem f29_eq (run : Run) (n : Nat) (a0_1 : Int) (a0_2 : List UInt8) (a0_3 : List UInt8) (a0_4 : Int) (a0_5 : List UInt8) (a0_6 : Int) (a0_7 : Int) (a0_8 : Int) (a0_9 : Int) (a0_10 : Int) (a0_11 : Int) (a1_1 : List AV) : f29 run n a0_1 a0_2 a0_3 a0_4 a0_5 a0_6 a0_7 a0_8 a0_9 a0_10 a0_11 a1_1 =
  (run 14 [.blob a0_5, .slice a1_1]).bind fun r1 =>
    bif r1.fresh then
    nilV r1.outs (consV r1.vals fun v1 vs1 =>
    nilV vs1 ((run 22 [.slice v1.toSlice, .int a0_6, .int a0_7, .int a0_8, .int a0_9]).bind fun r2 =>
    bif r2.fresh then
    nilV r2.outs (consV r2.vals fun v2 vs2 =>
    nilV vs2 (f29_l0 run n n a1_1 v2.toSlice (mx2 0 (IntKind.wrap .i64 ((a1_1.length : Int) - mx2 a0_7 0)))))
  else none))
  else none := by kernel_rfl
theorem f29_run (ext : Run) (n : Nat) (a0_1 : Int) (a0_2 : List UInt8) (a0_3 : List UInt8) (a0_4 : Int) (a0_5 : List UInt8) (a0_6 : Int) (a0_7 : Int) (a0_8 : Int) (a0_9 : Int) (a0_10 : Int) (a0_11 : Int) (a1_1 : List AV) : runE G ext (n + 1) 29 [.agg [.agg [.int a0_1, .blob a0_2, .blob a0_3, .int a0_4], .blob a0_5, .int a0_6, .int a0_7, .int a0_8, .int a0_9, .int a0_10, .int a0_11], .slice a1_1] = f29 (runE G ext n) n a0_1 a0_2 a0_3 a0_4 a0_5 a0_6 a0_7 a0_8 a0_9 a0_10 a0_11 a1_1 := runE_succ f29_at f29_in

noncomputable def f59_l0 (run : Run) (n : Nat) (k0 : Nat) (x0_1 : List AV) (x2_1 : Int) (x7_1 : Int) : Option Res :=
  iterK (evalK G run n f59_keep 0 (sub [1, 0, 1, 0, 0] f59_body)) f59_t0 f59_o0 (blockK 0 (seqK (evalK G run n f59_keep 0 (sub [1, 1] f59_body) (retE G f59_info)) (retE G f59_info))) k0
    ⟨[.val (.slice (.int .i64)) none (.slice x0_1), .any, .val (.int .i64) none (.int x2_1), .any, .any, .any, .any, .val (.int .i64) none (.int x7_1), .any, .any, .any, .any, .any, .any, .any, .any, .any, .any, .any, .any, .any, .any, .any, .any], [⟨0, none⟩, ⟨0, none⟩, ⟨0, none⟩, ⟨0, none⟩, ⟨0, none⟩, ⟨0, none⟩, ⟨0, none⟩, ⟨0, none⟩, ⟨0, none⟩, ⟨0, none⟩, ⟨0, none⟩, ⟨0, none⟩, ⟨0, none⟩, ⟨0, none⟩, ⟨0, none⟩, ⟨0, none⟩, ⟨0, none⟩, ⟨0, none⟩, ⟨0, none⟩, ⟨0, none⟩, ⟨0, none⟩, ⟨0, none⟩, ⟨0, none⟩, ⟨0, none⟩], List.replicate 24 0⟩
theorem f59_l0_eq (run : Run) (n : Nat) (k0 : Nat) (x0_1 : List AV) (x2_1 : Int) (x7_1 : Int) : f59_l0 run n (k0 + 1) x0_1 x2_1 x7_1 =
  bif leI 0 x7_1 then
    bif inR x7_1 x0_1.length then
    bif leI x2_1 ((nth x0_1 (Int.toNat x7_1)).toInt) then
    some ⟨[.int x7_1], [], f59_fresh⟩
  else
    f59_l0 run n k0 x0_1 x2_1 (IntKind.wrap .i64 (x7_1 - 1))
  else none
  else
    some ⟨[.int (-1)], [], f59_fresh⟩ := by kernel_rfl
noncomputable def f59 (run : Run) (n : Nat) (a0_1 : List AV) (a1_1 : Int) (a2_1 : Int) : Option Res := evalK G run n f59_info.keep 0 f59_info.body (retE G f59_info) (f59_info.start [.slice a0_1, .int a1_1, .int a2_1])
theorem f59_eq (run : Run) (n : Nat) (a0_1 : List AV) (a1_1 : Int) (a2_1 : Int) : f59 run n a0_1 a1_1 a2_1 =
  f59_l0 run n n a0_1 a2_1 (IntKind.wrap .i64 (mn2 a1_1 (a0_1.length : Int) - 1)) := by kernel_rfl
theorem f59_run (ext : Run) (n : Nat) (a0_1 : List AV) (a1_1 : Int) (a2_1 : Int) : runE G ext (n + 1) 59 [.slice a0_1, .int a1_1, .int a2_1] = f59 (runE G ext n) n a0_1 a1_1 a2_1 := runE_succ f59_at f59_in

noncomputable def f24_l0 (run : Run) (n : Nat) (k0 : Nat) (x0_1 : List AV) (x1_1 : Int) (x5_1 : List AV) (x17_1 : Int) : Option Res :=
  iterK (evalK G run n f24_keep 0 (sub [1, 1, 1, 0, 1, 0, 0] f24_body)) f24_t0 f24_o0 (blockK 0 (seqK (evalK G run n f24_keep 0 (sub [1, 1, 1, 1] f24_body) (retE G f24_info)) (retE G f24_info))) k0
    ⟨[.val (.slice (.int .i64)) none (.slice x0_1), .val (.int .i64) none (.int x1_1), .any, .any, .any, .val (.slice (.int .i64)) (some (5, 0)) (.slice x5_1), .any, .any, .any, .any, .any, .any, .any, .any, .any, .any, .any, .val (.int .i64) none (.int x17_1), .any, .any, .any, .any, .any, .any, .any, .any, .any, .any, .any, .any, .any, .any, .any, .any], [⟨0, none⟩, ⟨0, none⟩, ⟨0, none⟩, ⟨0, none⟩, ⟨0, none⟩, ⟨0, none⟩, ⟨0, none⟩, ⟨0, none⟩, ⟨0, none⟩, ⟨0, none⟩, ⟨0, none⟩, ⟨0, none⟩, ⟨0, none⟩, ⟨0, none⟩, ⟨0, none⟩, ⟨0, none⟩, ⟨0, none⟩, ⟨0, none⟩, ⟨0, none⟩, ⟨0, none⟩, ⟨0, none⟩, ⟨0, none⟩, ⟨0, none⟩, ⟨0, none⟩, ⟨0, none⟩, ⟨0, none⟩, ⟨0, none⟩, ⟨0, none⟩, ⟨0, none⟩, ⟨0, none⟩, ⟨0, none⟩, ⟨0, none⟩, ⟨0, none⟩, ⟨0, none⟩], List.replicate 34 0⟩
theorem f24_l0_eq (run : Run) (n : Nat) (k0 : Nat) (x0_1 : List AV) (x1_1 : Int) (x5_1 : List AV) (x17_1 : Int) : f24_l0 run n (k0 + 1) x0_1 x1_1 x5_1 x17_1 =
  bif ltI x17_1 257 then
    (run 59 [.slice x0_1, .int x1_1, .int x17_1]).bind fun r1 =>
    nilV r1.outs (consV r1.vals fun v1 vs1 =>
    nilV vs1 (bif ltI v1.toInt 0 then
    some ⟨[.slice x5_1], [], f24_fresh⟩
  else
    bif Nat.ble ((x5_1.length + 1) * 8) 140737488355328 then
    bif eqI v1.toInt 0 then
    some ⟨[.slice (x5_1 ++ [.int v1.toInt])], [], f24_fresh⟩
  else
    f24_l0 run n k0 x0_1 x1_1 (x5_1 ++ [.int v1.toInt]) (IntKind.wrap .i64 (x17_1 + 1))
  else none))
  else
    some ⟨[.slice x5_1], [], f24_fresh⟩ := by kernel_rfl
noncomputable def f24 (run : Run) (n : Nat) (a0_1 : List AV) (a1_1 : Int) : Option Res := evalK G run n f24_info.keep 0 f24_info.body (retE G f24_info) (f24_info.start [.slice a0_1, .int a1_1])
theorem f24_eq (run : Run) (n : Nat) (a0_1 : List AV) (a1_1 : Int) : f24 run n a0_1 a1_1 =
  bif ltI a1_1 1 then
    some ⟨[.slice []], [], f24_fresh⟩
  else
    bif ltI (a0_1.length : Int) a1_1 then
    some ⟨[.slice []], [], f24_fresh⟩
  else
    f24_l0 run n n a0_1 a1_1 [] 0 := by kernel_rfl
theorem f24_run (ext : Run) (n : Nat) (a0_1 : List AV) (a1_1 : Int) : runE G ext (n + 1) 24 [.slice a0_1, .int a1_1] = f24 (runE G ext n) n a0_1 a1_1 := runE_succ f24_at f24_in

noncomputable def f64_l0 (run : Run) (n : Nat) (k0 : Nat) (x2_1 : Int) (x11_1 : List AV) (x12_1 : Int) (x13_1 : Int) : Option Res :=
  iterK (evalK G run n f64_keep 0 (sub [1, 0, 1, 0, 0] f64_body)) f64_t0 f64_o0 (blockK 0 (seqK (evalK G run n f64_keep 0 (sub [1, 1] f64_body) (retE G f64_info)) (retE G f64_info))) k0
    ⟨[.any, .any, .val (.int .i64) none (.int x2_1), .any, .any, .any, .any, .any, .any, .any, .any, .val (.slice (.int .i64)) (some (11, 0)) (.slice x11_1), .val (.int .i64) none (.int x12_1), .val (.int .i64) none (.int x13_1), .any, .any, .any, .any, .any, .any, .any, .any, .any], [⟨0, none⟩, ⟨0, none⟩, ⟨0, none⟩, ⟨0, none⟩, ⟨0, none⟩, ⟨0, none⟩, ⟨0, none⟩, ⟨0, none⟩, ⟨0, none⟩, ⟨0, none⟩, ⟨0, none⟩, ⟨0, none⟩, ⟨0, none⟩, ⟨0, none⟩, ⟨0, none⟩, ⟨0, none⟩, ⟨0, none⟩, ⟨0, none⟩, ⟨0, none⟩, ⟨0, none⟩, ⟨0, none⟩, ⟨0, none⟩, ⟨0, none⟩], List.replicate 23 0⟩
theorem f64_l0_eq (run : Run) (n : Nat) (k0 : Nat) (x2_1 : Int) (x11_1 : List AV) (x12_1 : Int) (x13_1 : Int) : f64_l0 run n (k0 + 1) x2_1 x11_1 x12_1 x13_1 =
  bif ltI x13_1 x12_1 then
    bif inR x13_1 x11_1.length then
    bif eqI ((nth x11_1 (Int.toNat x13_1)).toInt) x2_1 then
    some ⟨[.int x13_1], [], f64_fresh⟩
  else
    f64_l0 run n k0 x2_1 x11_1 x12_1 (IntKind.wrap .i64 (x13_1 + 1))
  else none
  else
    some ⟨[.int (-1)], [], f64_fresh⟩ := by kernel_rfl
noncomputable def f64 (run : Run) (n : Nat) (a0_1 : List AV) (a1_1 : Int) (a2_1 : Int) : Option Res := evalK G run n f64_info.keep 0 f64_info.body (retE G f64_info) (f64_info.start [.slice a0_1, .int a1_1, .int a2_1])
theorem f64_eq (run : Run) (n : Nat) (a0_1 : List AV) (a1_1 : Int) (a2_1 : Int) : f64 run n a0_1 a1_1 a2_1 =
  (run 24 [.slice a0_1, .int a1_1]).bind fun r1 =>
    bif r1.fresh then
    nilV r1.outs (consV r1.vals fun v1 vs1 =>
    nilV vs1 (f64_l0 run n n a2_1 v1.toSlice (v1.toSlice.length : Int) 0))
  else none := by kernel_rfl
theorem f64_run (ext : Run) (n : Nat) (a0_1 : List AV) (a1_1 : Int) (a2_1 : Int) : runE G ext (n + 1) 64 [.slice a0_1, .int a1_1, .int a2_1] = f64 (runE G ext n) n a0_1 a1_1 a2_1 := runE_succ f64_at f64_in

noncomputable def f133 (run : Run) (n : Nat) (a0_1 : List AV) (a1_1 : Int) : Option Res := evalK G run n f133_info.keep 0 f133_info.body (retE G f133_info) (f133_info.start [.slice a0_1, .int a1_1])
theorem f133_eq (run : Run) (n : Nat) (a0_1 : List AV) (a1_1 : Int) : f133 run n a0_1 a1_1 =
  bif ltI (a0_1.length : Int) 2 then
    some ⟨[.slice []], [], f133_fresh⟩
  else
    (run 159 [.int (a0_1.length : Int)]).bind fun r1 =>
    nilV r1.outs (consV r1.vals fun v1 vs1 =>
    nilV vs1 (bif ltI a1_1 v1.toInt then
    bif boundsOk 0 v1.toInt (a0_1.length : Int) (a0_1.length : Int) && true then
    (run 133 [.slice (List.drop 0 (List.take (Int.toNat v1.toInt) a0_1)), .int a1_1]).bind fun r2 =>
    bif r2.fresh then
    nilV r2.outs (consV r2.vals fun v2 vs2 =>
    nilV vs2 (bif boundsOk v1.toInt (a0_1.length : Int) (a0_1.length : Int) (a0_1.length : Int) && true then
    (run 160 [.slice (List.drop (Int.toNat v1.toInt) (List.take (Int.toNat (a0_1.length : Int)) a0_1))]).bind fun r3 =>
    nilV r3.outs (consV r3.vals fun v3 vs3 =>
    nilV vs3 (bif Nat.ble ((v2.toSlice.length + 1) * 32) 140737488355328 then
    some ⟨[.slice (v2.toSlice ++ [.blob v3.toBlob])], [], f133_fresh⟩
  else none))
  else none))
  else none
  else none
  else
    bif boundsOk v1.toInt (a0_1.length : Int) (a0_1.length : Int) (a0_1.length : Int) && true then
    (run 133 [.slice (List.drop (Int.toNat v1.toInt) (List.take (Int.toNat (a0_1.length : Int)) a0_1)), .int (IntKind.wrap .i64 (a1_1 - v1.toInt))]).bind fun r4 =>
    bif r4.fresh then
    nilV r4.outs (consV r4.vals fun v4 vs4 =>
    nilV vs4 (bif boundsOk 0 v1.toInt (a0_1.length : Int) (a0_1.length : Int) && true then
    (run 160 [.slice (List.drop 0 (List.take (Int.toNat v1.toInt) a0_1))]).bind fun r5 =>
    nilV r5.outs (consV r5.vals fun v5 vs5 =>
    nilV vs5 (bif Nat.ble ((v4.toSlice.length + 1) * 32) 140737488355328 then
    some ⟨[.slice (v4.toSlice ++ [.blob v5.toBlob])], [], f133_fresh⟩
  else none))
  else none))
  else none
  else none)) := by kernel_rfl
theorem f133_run (ext : Run) (n : Nat) (a0_1 : List AV) (a1_1 : Int) : runE G ext (n + 1) 133 [.slice a0_1, .int a1_1] = f133 (runE G ext n) n a0_1 a1_1 := runE_succ f133_at f133_in

noncomputable def f101 (run : Run) (n : Nat) (a0_1 : List AV) (a1_1 : Int) : Option Res := evalK G run n f101_info.keep 0 f101_info.body (retE G f101_info) (f101_info.start [.slice a0_1, .int a1_1])
theorem f101_eq (run : Run) (n : Nat) (a0_1 : List AV) (a1_1 : Int) : f101 run n a0_1 a1_1 =
  bif ltI 1048576 (a0_1.length : Int) then
    some ⟨[.agg [.int 0, .int 0, .slice []], .int 4], [], f101_fresh⟩
  else
    bif ltI a1_1 0 then
    some ⟨[.agg [.int 0, .int 0, .slice []], .int 3], [], f101_fresh⟩
  else
    bif leI (a0_1.length : Int) a1_1 then
    some ⟨[.agg [.int 0, .int 0, .slice []], .int 3], [], f101_fresh⟩
  else
    (run 134 [.slice a0_1]).bind fun r1 =>
    bif r1.fresh then
    nilV r1.outs (consV r1.vals fun v1 vs1 =>
    nilV vs1 ((run 133 [.slice v1.toSlice, .int a1_1]).bind fun r2 =>
    bif r2.fresh then
    nilV r2.outs (consV r2.vals fun v2 vs2 =>
    nilV vs2 (some ⟨[.agg [.int a1_1, .int (a0_1.length : Int), .slice v2.toSlice], .int 0], [], f101_fresh⟩))
  else none))
  else none := by kernel_rfl
theorem f101_run (ext : Run) (n : Nat) (a0_1 : List AV) (a1_1 : Int) : runE G ext (n + 1) 101 [.slice a0_1, .int a1_1] = f101 (runE G ext n) n a0_1 a1_1 := runE_succ f101_at f101_in

noncomputable def f65 (run : Run) (n : Nat) (a0_1 : List AV) (a1_1 : Int) : Option Res := evalK G run n f65_info.keep 0 f65_info.body (retE G f65_info) (f65_info.start [.slice a0_1, .int a1_1])
theorem f65_eq (run : Run) (n : Nat) (a0_1 : List AV) (a1_1 : Int) : f65 run n a0_1 a1_1 =
  (run 102 [.slice a0_1]).bind fun r1 =>
    bif r1.fresh then
    nilV r1.outs (consV r1.vals fun v1 vs1 =>
    nilV vs1 ((run 101 [.slice v1.toSlice, .int a1_1]).bind fun r2 =>
    nilV r2.outs (consV r2.vals fun v2 vs2 =>
    consV vs2 fun v3 vs3 =>
    nilV vs3 (some ⟨[.agg [.int ((v2.fld 0).toInt), .int ((v2.fld 1).toInt), .slice ((v2.fld 2).toSlice)], .int v3.toInt], [], f65_fresh⟩))))
  else none := by kernel_rfl
theorem f65_run (ext : Run) (n : Nat) (a0_1 : List AV) (a1_1 : Int) : runE G ext (n + 1) 65 [.slice a0_1, .int a1_1] = f65 (runE G ext n) n a0_1 a1_1 := runE_succ f65_at f65_in

noncomputable def f34_l0 (run : Run) (n : Nat) (k0 : Nat) (x1_1 : List AV) (x2_1 : List AV) (x8_1 : List AV) (x9_1 : List AV) (x10_1 : List AV) (x23_1 : List AV) (x24_1 : Int) (x25_1 : Int) : Option Res :=
  iterK (evalK G run n f34_keep 0 (sub [1, 1, 1, 0, 1, 0, 0] f34_body)) f34_t0 f34_o0 (blockK 0 (seqK (evalK G run n f34_keep 0 (sub [1, 1, 1, 1] f34_body) (retE G f34_info)) (retE G f34_info))) k0
    ⟨[.any, .val (.slice (.struct [(.struct [(.int .u32), (.blob 32), (.blob 32), (.int .u64)]), (.slice .str)])) none (.slice x1_1), .val (.slice (.int .i64)) none (.slice x2_1), .any, .any, .any, .any, .any, .val (.slice (.int .i64)) (some (8, 0)) (.slice x8_1), .val (.slice (.slice (.blob 32))) (some (9, 0)) (.slice x9_1), .val (.slice (.struct [(.struct [(.int .u32), (.blob 32), (.blob 32), (.int .u64)]), (.struct [(.int .i64), (.int .i64), (.slice (.blob 32))])])) (some (10, 0)) (.slice x10_1), .any, .any, .any, .any, .any, .any, .any, .any, .any, .any, .any, .any, .val (.slice (.int .i64)) none (.slice x23_1), .val (.int .i64) none (.int x24_1), .val (.int .i64) none (.int x25_1), .any, .any, .any, .any, .any, .any, .any, .any, .any, .any, .any, .any, .any, .any, .any, .any, .any, .any, .any, .any, .any, .any, .any, .any, .any, .any, .any, .any, .any, .any, .any, .any, .any, .any, .any, .any, .any, .any, .any, .any, .any, .any, .any, .any, .any, .any, .any, .any, .any, .any], [⟨0, none⟩, ⟨0, none⟩, ⟨0, none⟩, ⟨0, none⟩, ⟨0, none⟩, ⟨0, none⟩, ⟨0, none⟩, ⟨0, none⟩, ⟨0, none⟩, ⟨0, none⟩, ⟨0, none⟩, ⟨0, none⟩, ⟨0, none⟩, ⟨0, none⟩, ⟨0, none⟩, ⟨0, none⟩, ⟨0, none⟩, ⟨0, none⟩, ⟨0, none⟩, ⟨0, none⟩, ⟨0, none⟩, ⟨0, none⟩, ⟨0, none⟩, ⟨0, none⟩, ⟨0, none⟩, ⟨0, none⟩, ⟨0, none⟩, ⟨0, none⟩, ⟨0, none⟩, ⟨0, none⟩, ⟨0, none⟩, ⟨0, none⟩, ⟨0, none⟩, ⟨0, none⟩, ⟨0, none⟩, ⟨0, none⟩, ⟨0, none⟩, ⟨0, none⟩, ⟨0, none⟩, ⟨0, none⟩, ⟨0, none⟩, ⟨0, none⟩, ⟨0, none⟩, ⟨0, none⟩, ⟨0, none⟩, ⟨0, none⟩, ⟨0, none⟩, ⟨0, none⟩, ⟨0, none⟩, ⟨0, none⟩, ⟨0, none⟩, ⟨0, none⟩, ⟨0, none⟩, ⟨0, none⟩, ⟨0, none⟩, ⟨0, none⟩, ⟨0, none⟩, ⟨0, none⟩, ⟨0, none⟩, ⟨0, none⟩, ⟨0, none⟩, ⟨0, none⟩, ⟨0, none⟩, ⟨0, none⟩, ⟨0, none⟩, ⟨0, none⟩, ⟨0, none⟩, ⟨0, none⟩, ⟨0, none⟩, ⟨0, none⟩, ⟨0, none⟩, ⟨0, none⟩, ⟨0, none⟩, ⟨0, none⟩, ⟨0, none⟩, ⟨0, none⟩], List.replicate 76 0⟩
theorem f34_l0_eq (run : Run) (n : Nat) (k0 : Nat) (x1_1 : List AV) (x2_1 : List AV) (x8_1 : List AV) (x9_1 : List AV) (x10_1 : List AV) (x23_1 : List AV) (x24_1 : Int) (x25_1 : Int) : f34_l0 run n (k0 + 1) x1_1 x2_1 x8_1 x9_1 x10_1 x23_1 x24_1 x25_1 =
  bif ltI x25_1 x24_1 then
    bif inR x25_1 x23_1.length then
    bif ltI ((nth x23_1 (Int.toNat x25_1)).toInt) 0 then
    some ⟨[.slice [], .int 15], [], f34_fresh⟩
  else
    bif leI (x1_1.length : Int) ((nth x23_1 (Int.toNat x25_1)).toInt) then
    some ⟨[.slice [], .int 15], [], f34_fresh⟩
  else
    bif inR ((nth x23_1 (Int.toNat x25_1)).toInt) x1_1.length then
    bif ltI 0 x25_1 then
    bif inR (IntKind.wrap .i64 (x25_1 - 1)) x2_1.length then
    (run 64 [.slice x8_1, .int ((nth x23_1 (Int.toNat x25_1)).toInt), .int ((nth x2_1 (Int.toNat (IntKind.wrap .i64 (x25_1 - 1)))).toInt)]).bind fun r3 =>
    nilV r3.outs (consV r3.vals fun v3 vs3 =>
    nilV vs3 (bif ltI v3.toInt 0 then
    some ⟨[.slice [], .int 10], [], f34_fresh⟩
  else
    bif inR ((nth x23_1 (Int.toNat x25_1)).toInt) x9_1.length then
    (run 65 [.slice ((nth x9_1 (Int.toNat ((nth x23_1 (Int.toNat x25_1)).toInt))).toSlice), .int v3.toInt]).bind fun r4 =>
    nilV r4.outs (consV r4.vals fun v4 vs4 =>
    consV vs4 fun v5 vs5 =>
    nilV vs5 (bif !(eqI v5.toInt 0) then
    some ⟨[.slice [], .int v5.toInt], [], f34_fresh⟩
  else
    bif Nat.ble ((x10_1.length + 1) * 120) 140737488355328 then
    f34_l0 run n k0 x1_1 x2_1 x8_1 x9_1 (x10_1 ++ [.agg [.agg [.int ((((nth x1_1 (Int.toNat ((nth x23_1 (Int.toNat x25_1)).toInt))).fld 0).fld 0).toInt), .blob ((((nth x1_1 (Int.toNat ((nth x23_1 (Int.toNat x25_1)).toInt))).fld 0).fld 1).toBlob), .blob ((((nth x1_1 (Int.toNat ((nth x23_1 (Int.toNat x25_1)).toInt))).fld 0).fld 2).toBlob), .int ((((nth x1_1 (Int.toNat ((nth x23_1 (Int.toNat x25_1)).toInt))).fld 0).fld 3).toInt)], .agg [.int ((v4.fld 0).toInt), .int ((v4.fld 1).toInt), .slice ((v4.fld 2).toSlice)]]]) x23_1 x24_1 (IntKind.wrap .i64 (x25_1 + 1))
  else none))
  else none))
  else none
  else
    bif Nat.ble ((x10_1.length + 1) * 120) 140737488355328 then
    f34_l0 run n k0 x1_1 x2_1 x8_1 x9_1 (x10_1 ++ [.agg [.agg [.int ((((nth x1_1 (Int.toNat ((nth x23_1 (Int.toNat x25_1)).toInt))).fld 0).fld 0).toInt), .blob ((((nth x1_1 (Int.toNat ((nth x23_1 (Int.toNat x25_1)).toInt))).fld 0).fld 1).toBlob), .blob ((((nth x1_1 (Int.toNat ((nth x23_1 (Int.toNat x25_1)).toInt))).fld 0).fld 2).toBlob), .int ((((nth x1_1 (Int.toNat ((nth x23_1 (Int.toNat x25_1)).toInt))).fld 0).fld 3).toInt)], .agg [.int 0, .int 0, .slice []]]]) x23_1 x24_1 (IntKind.wrap .i64 (x25_1 + 1))
  else none
  else none
  else none
  else
    some ⟨[.slice x10_1, .int 0], [], f34_fresh⟩ := by kernel_rfl
noncomputable def f34 (run : Run) (n : Nat) (a0_1 : List UInt8) (a1_1 : List AV) (a2_1 : List AV) : Option Res := evalK G run n f34_info.keep 0 f34_info.body (retE G f34_info) (f34_info.start [.blob a0_1, .slice a1_1, .slice a2_1])
theorem f34_eq (run : Run) (n : Nat) (a0_1 : List UInt8) (a1_1 : List AV) (a2_1 : List AV) : f34 run n a0_1 a1_1 a2_1 =
  (run 14 [.blob a0_1, .slice a1_1]).bind fun r1 =>
    bif r1.fresh then
    nilV r1.outs (consV r1.vals fun v1 vs1 =>
    nilV vs1 ((run 15 [.blob a0_1, .slice a1_1]).bind fun r2 =>
    bif r2.fresh then
    nilV r2.outs (consV r2.vals fun v2 vs2 =>
    nilV vs2 (f34_l0 run n n a1_1 a2_1 v1.toSlice v2.toSlice [] a2_1 (a2_1.length : Int) 0))
  else none))
  else none := by kernel_rfl
theorem f34_run (ext : Run) (n : Nat) (a0_1 : List UInt8) (a1_1 : List AV) (a2_1 : List AV) : runE G ext (n + 1) 34 [.blob a0_1, .slice a1_1, .slice a2_1] = f34 (runE G ext n) n a0_1 a1_1 a2_1 := runE_succ f34_at f34_in

noncomputable def f26 (run : Run) (n : Nat) (a0_1 : Int) (a0_2 : List UInt8) (a0_3 : List UInt8) (a0_4 : Int) (a0_5 : List UInt8) (a0_6 : Int) (a0_7 : Int) (a0_8 : Int) (a0_9 : Int) (a0_10 : Int) (a0_11 : Int) (a1_1 : List AV) : Option Res := evalK G run n f26_info.keep 0 f26_info.body (retE G f26_info) (f26_info.start [.agg [.agg [.int a0_1, .blob a0_2, .blob a0_3, .int a0_4], .blob a0_5, .int a0_6, .int a0_7, .int a0_8, .int a0_9, .int a0_10, .int a0_11], .slice a1_1])
theorem f26_eq (run : Run) (n : Nat) (a0_1 : Int) (a0_2 : List UInt8) (a0_3 : List UInt8) (a0_4 : Int) (a0_5 : List UInt8) (a0_6 : Int) (a0_7 : Int) (a0_8 : Int) (a0_9 : Int) (a0_10 : Int) (a0_11 : Int) (a1_1 : List AV) : f26 run n a0_1 a0_2 a0_3 a0_4 a0_5 a0_6 a0_7 a0_8 a0_9 a0_10 a0_11 a1_1 =
  (run 32 [.agg [.agg [.int a0_1, .blob a0_2, .blob a0_3, .int a0_4], .blob a0_5, .int a0_6, .int a0_7, .int a0_8, .int a0_9, .int a0_10, .int a0_11], .slice a1_1]).bind fun r1 =>
    nilV r1.outs (consV r1.vals fun v1 vs1 =>
    nilV vs1 (bif !(eqI v1.toInt 0) then
    some ⟨[.slice [], .int v1.toInt], [], f26_fresh⟩
  else
    (run 29 [.agg [.agg [.int a0_1, .blob a0_2, .blob a0_3, .int a0_4], .blob a0_5, .int a0_6, .int a0_7, .int a0_8, .int a0_9, .int a0_10, .int a0_11], .slice a1_1]).bind fun r2 =>
    bif r2.fresh then
    nilV r2.outs (consV r2.vals fun v2 vs2 =>
    nilV vs2 ((run 34 [.blob a0_5, .slice a1_1, .slice v2.toSlice]).bind fun r3 =>
    nilV r3.outs (consV r3.vals fun v3 vs3 =>
    consV vs3 fun v4 vs4 =>
    nilV vs4 (some ⟨[.slice v3.toSlice, .int v4.toInt], [], f26_fresh⟩))))
  else none)) := by kernel_rfl
theorem f26_run (ext : Run) (n : Nat) (a0_1 : Int) (a0_2 : List UInt8) (a0_3 : List UInt8) (a0_4 : Int) (a0_5 : List UInt8) (a0_6 : Int) (a0_7 : Int) (a0_8 : Int) (a0_9 : Int) (a0_10 : Int) (a0_11 : Int) (a1_1 : List AV) : runE G ext (n + 1) 26 [.agg [.agg [.int a0_1, .blob a0_2, .blob a0_3, .int a0_4], .blob a0_5, .int a0_6, .int a0_7, .int a0_8, .int a0_9, .int a0_10, .int a0_11], .slice a1_1] = f26 (runE G ext n) n a0_1 a0_2 a0_3 a0_4 a0_5 a0_6 a0_7 a0_8 a0_9 a0_10 a0_11 a1_1 := runE_succ f26_at f26_in

noncomputable def f25 (run : Run) (n : Nat) : Option Res := evalK G run n f25_info.keep 0 f25_info.body (retE G f25_info) (f25_info.start [])
theorem f25_eq (run : Run) (n : Nat) : f25 run n  =
  (run 26 [.agg [.agg [.int 0, .blob (List.replicate 32 0), .blob (List.replicate 32 0), .int 0], .blob (List.replicate 32 0), .int 0, .int 0, .int 0, .int 0, .int 0, .int 0], .slice []]).bind fun r1 =>
    nilV r1.outs (consV r1.vals fun _v1 vs1 =>
    consV vs1 fun v2 vs2 =>
    nilV vs2 ((run 34 [.blob [0, 0, 0, 0, 0, 0, 0, 0, 0, 0, 0, 0, 0, 0, 0, 0, 0, 0, 0, 0, 0, 0, 0, 0, 0, 0, 0, 0, 0, 0, 0, 0], .slice (List.replicate 1 (.agg [.agg [.int 0, .blob (List.replicate 32 0), .blob (List.replicate 32 0), .int 0], .slice []])), .slice [.int 0]]).bind fun r2 =>
    nilV r2.outs (consV r2.vals fun v3 vs3 =>
    consV vs3 fun v4 vs4 =>
    nilV vs4 (bif eqI v2.toInt 6 then
    bif eqI (v3.toSlice.length : Int) 1 then
    some ⟨[.bool (eqI v4.toInt 0)], [], f25_fresh⟩
  else
    some ⟨[.bool false], [], f25_fresh⟩
  else
    some ⟨[.bool false], [], f25_fresh⟩)))) := by kernel_rfl
theorem f25_run (ext : Run) (n : Nat) : runE G ext (n + 1) 25 [] = f25 (runE G ext n) n  := runE_succ f25_at f25_in

noncomputable def f95_l0 (run : Run) (n : Nat) (k0 : Nat) (x0_1 : List AV) (x1_1 : Int) (x2_1 : Int) (x7_1 : Int) (x8_1 : Int) : Option Res :=
  iterK (evalK G run n f95_keep 0 (sub [1, 1, 0, 1, 0, 0] f95_body)) f95_t0 f95_o0 (blockK 0 (seqK (evalK G run n f95_keep 0 (sub [1, 1, 1] f95_body) (retE G f95_info)) (retE G f95_info))) k0
    ⟨[.val (.slice (.int .i64)) none (.slice x0_1), .val (.int .i64) none (.int x1_1), .val (.int .i64) none (.int x2_1), .any, .any, .any, .any, .val (.int .i64) none (.int x7_1), .val (.int .i64) none (.int x8_1), .any, .any, .any, .any, .any, .any, .any, .any, .any, .any, .any, .any, .any, .any, .any, .any, .any, .any, .any], [⟨0, none⟩, ⟨0, none⟩, ⟨0, none⟩, ⟨0, none⟩, ⟨0, none⟩, ⟨0, none⟩, ⟨0, none⟩, ⟨0, none⟩, ⟨0, none⟩, ⟨0, none⟩, ⟨0, none⟩, ⟨0, none⟩, ⟨0, none⟩, ⟨0, none⟩, ⟨0, none⟩, ⟨0, none⟩, ⟨0, none⟩, ⟨0, none⟩, ⟨0, none⟩, ⟨0, none⟩, ⟨0, none⟩, ⟨0, none⟩, ⟨0, none⟩, ⟨0, none⟩, ⟨0, none⟩, ⟨0, none⟩, ⟨0, none⟩, ⟨0, none⟩], List.replicate 28 0⟩
theorem f95_l0_eq (run : Run) (n : Nat) (k0 : Nat) (x0_1 : List AV) (x1_1 : Int) (x2_1 : Int) (x7_1 : Int) (x8_1 : Int) : f95_l0 run n (k0 + 1) x0_1 x1_1 x2_1 x7_1 x8_1 =
  bif ltI x8_1 (x0_1.length : Int) then
    bif ltI x8_1 x1_1 then
    bif inR x8_1 x0_1.length then
    bif leI x2_1 ((nth x0_1 (Int.toNat x8_1)).toInt) then
    f95_l0 run n k0 x0_1 x1_1 x2_1 x8_1 (IntKind.wrap .i64 (x8_1 + 1))
  else
    f95_l0 run n k0 x0_1 x1_1 x2_1 x7_1 (IntKind.wrap .i64 (x8_1 + 1))
  else none
  else
    some ⟨[.int x7_1], [], f95_fresh⟩
  else
    some ⟨[.int x7_1], [], f95_fresh⟩ := by kernel_rfl
noncomputable def f95 (run : Run) (n : Nat) (a0_1 : List AV) (a1_1 : Int) (a2_1 : Int) : Option Res := evalK G run n f95_info.keep 0 f95_info.body (retE G f95_info) (f95_info.start [.slice a0_1, .int a1_1, .int a2_1])
theorem f95_eq (run : Run) (n : Nat) (a0_1 : List AV) (a1_1 : Int) (a2_1 : Int) : f95 run n a0_1 a1_1 a2_1 =
  f95_l0 run n n a0_1 a1_1 a2_1 (-1) 0 := by kernel_rfl
theorem f95_run (ext : Run) (n : Nat) (a0_1 : List AV) (a1_1 : Int) (a2_1 : Int) : runE G ext (n + 1) 95 [.slice a0_1, .int a1_1, .int a2_1] = f95 (runE G ext n) n a0_1 a1_1 a2_1 := runE_succ f95_at f95_in

noncomputable def f58_l0 (run : Run) (n : Nat) (k0 : Nat) (x0_1 : List AV) (x1_1 : Int) (x5_1 : List AV) (x6_1 : Int) : Option Res :=
  iterK (evalK G run n f58_keep 0 (sub [1, 1, 1, 0, 1, 0, 0] f58_body)) f58_t0 f58_o0 (blockK 0 (seqK (evalK G run n f58_keep 0 (sub [1, 1, 1, 1] f58_body) (retE G f58_info)) (retE G f58_info))) k0
    ⟨[.val (.slice (.int .i64)) none (.slice x0_1), .val (.int .i64) none (.int x1_1), .any, .any, .any, .val (.slice (.int .i64)) (some (5, 0)) (.slice x5_1), .val (.int .i64) none (.int x6_1), .any, .any, .any, .any, .any, .any, .any, .any, .any, .any, .any, .any, .any, .any, .any, .any, .any, .any, .any, .any, .any, .any, .any, .any, .any, .any, .any, .any], [⟨0, none⟩, ⟨0, none⟩, ⟨0, none⟩, ⟨0, none⟩, ⟨0, none⟩, ⟨0, none⟩, ⟨0, none⟩, ⟨0, none⟩, ⟨0, none⟩, ⟨0, none⟩, ⟨0, none⟩, ⟨0, none⟩, ⟨0, none⟩, ⟨0, none⟩, ⟨0, none⟩, ⟨0, none⟩, ⟨0, none⟩, ⟨0, none⟩, ⟨0, none⟩, ⟨0, none⟩, ⟨0, none⟩, ⟨0, none⟩, ⟨0, none⟩, ⟨0, none⟩, ⟨0, none⟩, ⟨0, none⟩, ⟨0, none⟩, ⟨0, none⟩, ⟨0, none⟩, ⟨0, none⟩, ⟨0, none⟩, ⟨0, none⟩, ⟨0, none⟩, ⟨0, none⟩, ⟨0, none⟩], List.replicate 35 0⟩
theorem f58_l0_eq (run : Run) (n : Nat) (k0 : Nat) (x0_1 : List AV) (x1_1 : Int) (x5_1 : List AV) (x6_1 : Int) : f58_l0 run n (k0 + 1) x0_1 x1_1 x5_1 x6_1 =
  bif ltI x6_1 257 then
    (run 95 [.slice x0_1, .int x1_1, .int x6_1]).bind fun r1 =>
    nilV r1.outs (consV r1.vals fun v1 vs1 =>
    nilV vs1 (bif ltI v1.toInt 0 then
    some ⟨[.slice x5_1], [], f58_fresh⟩
  else
    bif Nat.ble ((x5_1.length + 1) * 8) 140737488355328 then
    bif eqI v1.toInt 0 then
    some ⟨[.slice (x5_1 ++ [.int v1.toInt])], [], f58_fresh⟩
  else
    f58_l0 run n k0 x0_1 x1_1 (x5_1 ++ [.int v1.toInt]) (IntKind.wrap .i64 (x6_1 + 1))
  else none))
  else
    some ⟨[.slice x5_1], [], f58_fresh⟩ := by kernel_rfl
noncomputable def f58 (run : Run) (n : Nat) (a0_1 : List AV) (a1_1 : Int) : Option Res := evalK G run n f58_info.keep 0 f58_info.body (retE G f58_info) (f58_info.start [.slice a0_1, .int a1_1])
theorem f58_eq (run : Run) (n : Nat) (a0_1 : List AV) (a1_1 : Int) : f58 run n a0_1 a1_1 =
  bif ltI a1_1 1 then
    some ⟨[.slice []], [], f58_fresh⟩
  else
    bif ltI (a0_1.length : Int) a1_1 then
    some ⟨[.slice []], [], f58_fresh⟩
  else
    f58_l0 run n n a0_1 a1_1 [] 0 := by kernel_rfl
theorem f58_run (ext : Run) (n : Nat) (a0_1 : List AV) (a1_1 : Int) : runE G ext (n + 1) 58 [.slice a0_1, .int a1_1] = f58 (runE G ext n) n a0_1 a1_1 := runE_succ f58_at f58_in

noncomputable def f23_l0 (run : Run) (n : Nat) (k0 : Nat) (x2_1 : Int) (x7_1 : List AV) (x8_1 : Int) : Option Res :=
  iterK (evalK G run n f23_keep 0 (sub [1, 1, 0, 1, 0, 0] f23_body)) f23_t0 f23_o0 (blockK 0 (seqK (evalK G run n f23_keep 0 (sub [1, 1, 1] f23_body) (retE G f23_info)) (retE G f23_info))) k0
    ⟨[.any, .any, .val (.int .i64) none (.int x2_1), .any, .any, .any, .any, .val (.slice (.int .i64)) (some (7, 0)) (.slice x7_1), .val (.int .i64) none (.int x8_1), .any, .any, .any, .any, .any, .any, .any, .any, .any, .any, .any, .any, .any, .any, .any, .any], [⟨0, none⟩, ⟨0, none⟩, ⟨0, none⟩, ⟨0, none⟩, ⟨0, none⟩, ⟨0, none⟩, ⟨0, none⟩, ⟨0, none⟩, ⟨0, none⟩, ⟨0, none⟩, ⟨0, none⟩, ⟨0, none⟩, ⟨0, none⟩, ⟨0, none⟩, ⟨0, none⟩, ⟨0, none⟩, ⟨0, none⟩, ⟨0, none⟩, ⟨0, none⟩, ⟨0, none⟩, ⟨0, none⟩, ⟨0, none⟩, ⟨0, none⟩, ⟨0, none⟩, ⟨0, none⟩], List.replicate 25 0⟩
theorem f23_l0_eq (run : Run) (n : Nat) (k0 : Nat) (x2_1 : Int) (x7_1 : List AV) (x8_1 : Int) : f23_l0 run n (k0 + 1) x2_1 x7_1 x8_1 =
  bif ltI x8_1 (x7_1.length : Int) then
    bif inR x8_1 x7_1.length then
    bif eqI ((nth x7_1 (Int.toNat x8_1)).toInt) x2_1 then
    some ⟨[.int x8_1], [], f23_fresh⟩
  else
    f23_l0 run n k0 x2_1 x7_1 (IntKind.wrap .i64 (x8_1 + 1))
  else none
  else
    some ⟨[.int (-1)], [], f23_fresh⟩ := by kernel_rfl
noncomputable def f23 (run : Run) (n : Nat) (a0_1 : List AV) (a1_1 : Int) (a2_1 : Int) : Option Res := evalK G run n f23_info.keep 0 f23_info.body (retE G f23_info) (f23_info.start [.slice a0_1, .int a1_1, .int a2_1])
theorem f23_eq (run : Run) (n : Nat) (a0_1 : List AV) (a1_1 : Int) (a2_1 : Int) : f23 run n a0_1 a1_1 a2_1 =
  (run 58 [.slice a0_1, .int a1_1]).bind fun r1 =>
    bif r1.fresh then
    nilV r1.outs (consV r1.vals fun v1 vs1 =>
    nilV vs1 (f23_l0 run n n a2_1 v1.toSlice 0))
  else none := by kernel_rfl
theorem f23_run (ext : Run) (n : Nat) (a0_1 : List AV) (a1_1 : Int) (a2_1 : Int) : runE G ext (n + 1) 23 [.slice a0_1, .int a1_1, .int a2_1] = f23 (runE G ext n) n a0_1 a1_1 a2_1 := runE_succ f23_at f23_in

noncomputable def f105 (run : Run) (n : Nat) (a0_1 : List UInt8) : Option Res := evalK G run n f105_info.keep 0 f105_info.body (retE G f105_info) (f105_info.start [.blob a0_1])
theorem f105_eq (run : Run) (n : Nat) (a0_1 : List UInt8) : f105 run n a0_1 =
  (run 122 [.blob a0_1]).bind fun r1 =>
    nilV r1.outs (consV r1.vals fun v1 vs1 =>
    nilV vs1 (bif Nat.ble (1 + v1.toStr.length) maxLen then
    some ⟨[.str ([76] ++ v1.toStr)], [], f105_fresh⟩
  else none)) := by kernel_rfl
theorem f105_run (ext : Run) (n : Nat) (a0_1 : List UInt8) : runE G ext (n + 1) 105 [.blob a0_1] = f105 (runE G ext n) n a0_1 := runE_succ f105_at f105_in

noncomputable def f67_l0 (run : Run) (n : Nat) (k0 : Nat) (x0_1 : List AV) (x3_1 : List AV) (x4_1 : Int) : Option Res :=
  iterK (evalK G run n f67_keep 0 (sub [1, 1, 0, 1, 0, 0] f67_body)) f67_t0 f67_o0 (blockK 0 (seqK (evalK G run n f67_keep 0 (sub [1, 1, 1] f67_body) (retE G f67_info)) (retE G f67_info))) k0
    ⟨[.val (.slice (.blob 32)) none (.slice x0_1), .any, .any, .val (.slice .str) (some (3, 0)) (.slice x3_1), .val (.int .i64) none (.int x4_1), .any, .any, .any, .any, .any, .any, .any, .any, .any, .any, .any, .any, .any, .any, .any], [⟨0, none⟩, ⟨0, none⟩, ⟨0, none⟩, ⟨0, none⟩, ⟨0, none⟩, ⟨0, none⟩, ⟨0, none⟩, ⟨0, none⟩, ⟨0, none⟩, ⟨0, none⟩, ⟨0, none⟩, ⟨0, none⟩, ⟨0, none⟩, ⟨0, none⟩, ⟨0, none⟩, ⟨0, none⟩, ⟨0, none⟩, ⟨0, none⟩, ⟨0, none⟩, ⟨0, none⟩], List.replicate 20 0⟩
theorem f67_l0_eq (run : Run) (n : Nat) (k0 : Nat) (x0_1 : List AV) (x3_1 : List AV) (x4_1 : Int) : f67_l0 run n (k0 + 1) x0_1 x3_1 x4_1 =
  bif ltI x4_1 (x0_1.length : Int) then
    bif inR x4_1 x0_1.length then
    (run 105 [.blob ((nth x0_1 (Int.toNat x4_1)).toBlob)]).bind fun r1 =>
    nilV r1.outs (consV r1.vals fun v1 vs1 =>
    nilV vs1 (bif Nat.ble ((x3_1.length + 1) * 16) 140737488355328 then
    f67_l0 run n k0 x0_1 (x3_1 ++ [.str v1.toStr]) (IntKind.wrap .i64 (x4_1 + 1))
  else none))
  else none
  else
    some ⟨[.slice x3_1], [], f67_fresh⟩ := by kernel_rfl
noncomputable def f67 (run : Run) (n : Nat) (a0_1 : List AV) : Option Res := evalK G run n f67_info.keep 0 f67_info.body (retE G f67_info) (f67_info.start [.slice a0_1])
theorem f67_eq (run : Run) (n : Nat) (a0_1 : List AV) : f67 run n a0_1 =
  f67_l0 run n n a0_1 [] 0 := by kernel_rfl
theorem f67_run (ext : Run) (n : Nat) (a0_1 : List AV) : runE G ext (n + 1) 67 [.slice a0_1] = f67 (runE G ext n) n a0_1 := runE_succ f67_at f67_in

noncomputable def f164 (run : Run) (n : Nat) (a0_1 : List UInt8) : Option Res := evalK G run n f164_info.keep 0 f164_info.body (retE G f164_info) (f164_info.start [.str a0_1])
theorem f164_eq (run : Run) (n : Nat) (a0_1 : List UInt8) : f164 run n a0_1 =
  (run 121 [.int 0]).bind fun r1 =>
    nilV r1.outs (consV r1.vals fun v1 vs1 =>
    nilV vs1 (bif Nat.ble (v1.toStr.length + a0_1.length) maxLen then
    some ⟨[.str (v1.toStr ++ a0_1)], [], f164_fresh⟩
  else none)) := by kernel_rfl
theorem f164_run (ext : Run) (n : Nat) (a0_1 : List UInt8) : runE G ext (n + 1) 164 [.str a0_1] = f164 (runE G ext n) n a0_1 := runE_succ f164_at f164_in

noncomputable def f138 (run : Run) (n : Nat) (a0_1 : List UInt8) : Option Res := evalK G run n f138_info.keep 0 f138_info.body (retE G f138_info) (f138_info.start [.str a0_1])
theorem f138_eq (run : Run) (n : Nat) (a0_1 : List UInt8) : f138 run n a0_1 =
  (run 164 [.str a0_1]).bind fun r1 =>
    nilV r1.outs (consV r1.vals fun v1 vs1 =>
    nilV vs1 ((run 79 [.str v1.toStr]).bind fun r2 =>
    nilV r2.outs (consV r2.vals fun v2 vs2 =>
    nilV vs2 (some ⟨[.blob v2.toBlob], [], f138_fresh⟩)))) := by kernel_rfl
theorem f138_run (ext : Run) (n : Nat) (a0_1 : List UInt8) : runE G ext (n + 1) 138 [.str a0_1] = f138 (runE G ext n) n a0_1 := runE_succ f138_at f138_in

noncomputable def f104_l0 (run : Run) (n : Nat) (k0 : Nat) (x0_1 : List AV) (x3_1 : List AV) (x4_1 : Int) : Option Res :=
  iterK (evalK G run n f104_keep 0 (sub [1, 1, 0, 1, 0, 0] f104_body)) f104_t0 f104_o0 (blockK 0 (seqK (evalK G run n f104_keep 0 (sub [1, 1, 1] f104_body) (retE G f104_info)) (retE G f104_info))) k0
    ⟨[.val (.slice .str) none (.slice x0_1), .any, .any, .val (.slice (.blob 32)) (some (3, 0)) (.slice x3_1), .val (.int .i64) none (.int x4_1), .any, .any, .any, .any, .any, .any, .any, .any, .any, .any, .any, .any, .any, .any, .any], [⟨0, none⟩, ⟨0, none⟩, ⟨0, none⟩, ⟨0, none⟩, ⟨0, none⟩, ⟨0, none⟩, ⟨0, none⟩, ⟨0, none⟩, ⟨0, none⟩, ⟨0, none⟩, ⟨0, none⟩, ⟨0, none⟩, ⟨0, none⟩, ⟨0, none⟩, ⟨0, none⟩, ⟨0, none⟩, ⟨0, none⟩, ⟨0, none⟩, ⟨0, none⟩, ⟨0, none⟩], List.replicate 20 0⟩
theorem f104_l0_eq (run : Run) (n : Nat) (k0 : Nat) (x0_1 : List AV) (x3_1 : List AV) (x4_1 : Int) : f104_l0 run n (k0 + 1) x0_1 x3_1 x4_1 =
  bif ltI x4_1 (x0_1.length : Int) then
    bif inR x4_1 x0_1.length then
    (run 138 [.str ((nth x0_1 (Int.toNat x4_1)).toStr)]).bind fun r1 =>
    nilV r1.outs (consV r1.vals fun v1 vs1 =>
    nilV vs1 (bif Nat.ble ((x3_1.length + 1) * 32) 140737488355328 then
    f104_l0 run n k0 x0_1 (x3_1 ++ [.blob v1.toBlob]) (IntKind.wrap .i64 (x4_1 + 1))
  else none))
  else none
  else
    some ⟨[.slice x3_1], [], f104_fresh⟩ := by kernel_rfl
noncomputable def f104 (run : Run) (n : Nat) (a0_1 : List AV) : Option Res := evalK G run n f104_info.keep 0 f104_info.body (retE G f104_info) (f104_info.start [.slice a0_1])
theorem f104_eq (run : Run) (n : Nat) (a0_1 : List AV) : f104 run n a0_1 =
  f104_l0 run n n a0_1 [] 0 := by kernel_rfl
theorem f104_run (ext : Run) (n : Nat) (a0_1 : List AV) : runE G ext (n + 1) 104 [.slice a0_1] = f104 (runE G ext n) n a0_1 := runE_succ f104_at f104_in

noncomputable def f136_l0 (run : Run) (n : Nat) (k0 : Nat) (x0_1 : Int) (x3_1 : Int) (x4_1 : Int) : Option Res :=
  iterK (evalK G run n f136_keep 0 (sub [1, 1, 0, 1, 0, 0] f136_body)) f136_t0 f136_o0 (blockK 0 (seqK (evalK G run n f136_keep 0 (sub [1, 1, 1] f136_body) (retE G f136_info)) (retE G f136_info))) k0
    ⟨[.val (.int .i64) none (.int x0_1), .any, .any, .val (.int .i64) none (.int x3_1), .val (.int .i64) none (.int x4_1), .any, .any, .any, .any, .any, .any, .any, .any, .any, .any, .any], [⟨0, none⟩, ⟨0, none⟩, ⟨0, none⟩, ⟨0, none⟩, ⟨0, none⟩, ⟨0, none⟩, ⟨0, none⟩, ⟨0, none⟩, ⟨0, none⟩, ⟨0, none⟩, ⟨0, none⟩, ⟨0, none⟩, ⟨0, none⟩, ⟨0, none⟩, ⟨0, none⟩, ⟨0, none⟩], List.replicate 16 0⟩
theorem f136_l0_eq (run : Run) (n : Nat) (k0 : Nat) (x0_1 : Int) (x3_1 : Int) (x4_1 : Int) : f136_l0 run n (k0 + 1) x0_1 x3_1 x4_1 =
  bif ltI x4_1 x0_1 then
    bif ltI 0 x4_1 then
    f136_l0 run n k0 x0_1 x4_1 (IntKind.wrap .i64 (x4_1 * 2))
  else
    some ⟨[.int x3_1], [], f136_fresh⟩
  else
    some ⟨[.int x3_1], [], f136_fresh⟩ := by kernel_rfl
noncomputable def f136 (run : Run) (n : Nat) (a0_1 : Int) : Option Res := evalK G run n f136_info.keep 0 f136_info.body (retE G f136_info) (f136_info.start [.int a0_1])
theorem f136_eq (run : Run) (n : Nat) (a0_1 : Int) : f136 run n a0_1 =
  f136_l0 run n n a0_1 0 1 := by kernel_rfl
theorem f136_run (ext : Run) (n : Nat) (a0_1 : Int) : runE G ext (n + 1) 136 [.int a0_1] = f136 (runE G ext n) n a0_1 := runE_succ f136_at f136_in

noncomputable def f182 (run : Run) (n : Nat) (a0_1 : List UInt8) (a1_1 : List UInt8) : Option Res := evalK G run n f182_info.keep 0 f182_info.body (retE G f182_info) (f182_info.start [.blob a0_1, .blob a1_1])
theorem f182_eq (run : Run) (n : Nat) (a0_1 : List UInt8) (a1_1 : List UInt8) : f182 run n a0_1 a1_1 =
  (run 121 [.int 1]).bind fun r1 =>
    nilV r1.outs (consV r1.vals fun v1 vs1 =>
    nilV vs1 ((run 122 [.blob a0_1]).bind fun r2 =>
    nilV r2.outs (consV r2.vals fun v2 vs2 =>
    nilV vs2 (bif Nat.ble (v1.toStr.length + v2.toStr.length) maxLen then
    (run 122 [.blob a1_1]).bind fun r3 =>
    nilV r3.outs (consV r3.vals fun v3 vs3 =>
    nilV vs3 (bif Nat.ble ((v1.toStr ++ v2.toStr).length + v3.toStr.length) maxLen then
    some ⟨[.str ((v1.toStr ++ v2.toStr) ++ v3.toStr)], [], f182_fresh⟩
  else none))
  else none)))) := by kernel_rfl
theorem f182_run (ext : Run) (n : Nat) (a0_1 : List UInt8) (a1_1 : List UInt8) : runE G ext (n + 1) 182 [.blob a0_1, .blob a1_1] = f182 (runE G ext n) n a0_1 a1_1 := runE_succ f182_at f182_in

noncomputable def f163 (run : Run) (n : Nat) (a0_1 : List UInt8) (a1_1 : List UInt8) : Option Res := evalK G run n f163_info.keep 0 f163_info.body (retE G f163_info) (f163_info.start [.blob a0_1, .blob a1_1])
theorem f163_eq (run : Run) (n : Nat) (a0_1 : List UInt8) (a1_1 : List UInt8) : f163 run n a0_1 a1_1 =
  (run 182 [.blob a0_1, .blob a1_1]).bind fun r1 =>
    nilV r1.outs (consV r1.vals fun v1 vs1 =>
    nilV vs1 ((run 79 [.str v1.toStr]).bind fun r2 =>
    nilV r2.outs (consV r2.vals fun v2 vs2 =>
    nilV vs2 (some ⟨[.blob v2.toBlob], [], f163_fresh⟩)))) := by kernel_rfl
theorem f163_run (ext : Run) (n : Nat) (a0_1 : List UInt8) (a1_1 : List UInt8) : runE G ext (n + 1) 163 [.blob a0_1, .blob a1_1] = f163 (runE G ext n) n a0_1 a1_1 := runE_succ f163_at f163_in

noncomputable def f137 (run : Run) (n : Nat) (a0_1 : List AV) : Option Res := evalK G run n f137_info.keep 0 f137_info.body (retE G f137_info) (f137_info.start [.slice a0_1])
theorem f137_eq (run : Run) (n : Nat) (a0_1 : List AV) : f137 run n a0_1 =
  bif eqI (a0_1.length : Int) 0 then
    some ⟨[.blob [0, 0, 0, 0, 0, 0, 0, 0, 0, 0, 0, 0, 0, 0, 0, 0, 0, 0, 0, 0, 0, 0, 0, 0, 0, 0, 0, 0, 0, 0, 0, 0]], [], f137_fresh⟩
  else
    bif eqI (a0_1.length : Int) 1 then
    bif inR 0 a0_1.length then
    some ⟨[.blob ((nth a0_1 0).toBlob)], [], f137_fresh⟩
  else none
  else
    (run 136 [.int (a0_1.length : Int)]).bind fun r1 =>
    nilV r1.outs (consV r1.vals fun v1 vs1 =>
    nilV vs1 (bif boundsOk 0 v1.toInt (a0_1.length : Int) (a0_1.length : Int) && true then
    (run 137 [.slice (List.drop 0 (List.take (Int.toNat v1.toInt) a0_1))]).bind fun r2 =>
    nilV r2.outs (consV r2.vals fun v2 vs2 =>
    nilV vs2 (bif boundsOk v1.toInt (a0_1.length : Int) (a0_1.length : Int) (a0_1.length : Int) && true then
    (run 137 [.slice (List.drop (Int.toNat v1.toInt) (List.take (Int.toNat (a0_1.length : Int)) a0_1))]).bind fun r3 =>
    nilV r3.outs (consV r3.vals fun v3 vs3 =>
    nilV vs3 ((run 163 [.blob v2.toBlob, .blob v3.toBlob]).bind fun r4 =>
    nilV r4.outs (consV r4.vals fun v4 vs4 =>
    nilV vs4 (some ⟨[.blob v4.toBlob], [], f137_fresh⟩))))
  else none))
  else none)) := by kernel_rfl
theorem f137_run (ext : Run) (n : Nat) (a0_1 : List AV) : runE G ext (n + 1) 137 [.slice a0_1] = f137 (runE G ext n) n a0_1 := runE_succ f137_at f137_in

noncomputable def f103 (run : Run) (n : Nat) (a0_1 : List AV) (a1_1 : Int) : Option Res := evalK G run n f103_info.keep 0 f103_info.body (retE G f103_info) (f103_info.start [.slice a0_1, .int a1_1])
theorem f103_eq (run : Run) (n : Nat) (a0_1 : List AV) (a1_1 : Int) : f103 run n a0_1 a1_1 =
  bif eqI (a0_1.length : Int) 1 then
    some ⟨[.slice []], [], f103_fresh⟩
  else
    (run 136 [.int (a0_1.length : Int)]).bind fun r1 =>
    nilV r1.outs (consV r1.vals fun v1 vs1 =>
    nilV vs1 (bif ltI a1_1 v1.toInt then
    bif boundsOk 0 v1.toInt (a0_1.length : Int) (a0_1.length : Int) && true then
    (run 103 [.slice (List.drop 0 (List.take (Int.toNat v1.toInt) a0_1)), .int a1_1]).bind fun r2 =>
    bif r2.fresh then
    nilV r2.outs (consV r2.vals fun v2 vs2 =>
    nilV vs2 (bif boundsOk v1.toInt (a0_1.length : Int) (a0_1.length : Int) (a0_1.length : Int) && true then
    (run 137 [.slice (List.drop (Int.toNat v1.toInt) (List.take (Int.toNat (a0_1.length : Int)) a0_1))]).bind fun r3 =>
    nilV r3.outs (consV r3.vals fun v3 vs3 =>
    nilV vs3 (bif Nat.ble ((v2.toSlice.length + 1) * 32) 140737488355328 then
    some ⟨[.slice (v2.toSlice ++ [.blob v3.toBlob])], [], f103_fresh⟩
  else none))
  else none))
  else none
  else none
  else
    bif boundsOk v1.toInt (a0_1.length : Int) (a0_1.length : Int) (a0_1.length : Int) && true then
    (run 103 [.slice (List.drop (Int.toNat v1.toInt) (List.take (Int.toNat (a0_1.length : Int)) a0_1)), .int (IntKind.wrap .i64 (a1_1 - v1.toInt))]).bind fun r4 =>
    bif r4.fresh then
    nilV r4.outs (consV r4.vals fun v4 vs4 =>
    nilV vs4 (bif boundsOk 0 v1.toInt (a0_1.length : Int) (a0_1.length : Int) && true then
    (run 137 [.slice (List.drop 0 (List.take (Int.toNat v1.toInt) a0_1))]).bind fun r5 =>
    nilV r5.outs (consV r5.vals fun v5 vs5 =>
    nilV vs5 (bif Nat.ble ((v4.toSlice.length + 1) * 32) 140737488355328 then
    some ⟨[.slice (v4.toSlice ++ [.blob v5.toBlob])], [], f103_fresh⟩
  else none))
  else none))
  else none
  else none)) := by kernel_rfl
theorem f103_run (ext : Run) (n : Nat) (a0_1 : List AV) (a1_1 : Int) : runE G ext (n + 1) 103 [.slice a0_1, .int a1_1] = f103 (runE G ext n) n a0_1 a1_1 := runE_succ f103_at f103_in

noncomputable def f66 (run : Run) (n : Nat) (a0_1 : List AV) (a1_1 : Int) : Option Res := evalK G run n f66_info.keep 0 f66_info.body (retE G f66_info) (f66_info.start [.slice a0_1, .int a1_1])
theorem f66_eq (run : Run) (n : Nat) (a0_1 : List AV) (a1_1 : Int) : f66 run n a0_1 a1_1 =
  bif ltI 1048576 (a0_1.length : Int) then
    some ⟨[.agg [.int 0, .int 0, .slice []], .int 4], [], f66_fresh⟩
  else
    bif ltI a1_1 0 then
    some ⟨[.agg [.int 0, .int 0, .slice []], .int 3], [], f66_fresh⟩
  else
    bif leI (a0_1.length : Int) a1_1 then
    some ⟨[.agg [.int 0, .int 0, .slice []], .int 3], [], f66_fresh⟩
  else
    (run 104 [.slice a0_1]).bind fun r1 =>
    bif r1.fresh then
    nilV r1.outs (consV r1.vals fun v1 vs1 =>
    nilV vs1 ((run 103 [.slice v1.toSlice, .int a1_1]).bind fun r2 =>
    bif r2.fresh then
    nilV r2.outs (consV r2.vals fun v2 vs2 =>
    nilV vs2 (some ⟨[.agg [.int a1_1, .int (a0_1.length : Int), .slice v2.toSlice], .int 0], [], f66_fresh⟩))
  else none))
  else none := by kernel_rfl
theorem f66_run (ext : Run) (n : Nat) (a0_1 : List AV) (a1_1 : Int) : runE G ext (n + 1) 66 [.slice a0_1, .int a1_1] = f66 (runE G ext n) n a0_1 a1_1 := runE_succ f66_at f66_in

noncomputable def f35_l0 (run : Run) (n : Nat) (k0 : Nat) (x1_1 : List AV) (x2_1 : List AV) (x8_1 : List AV) (x9_1 : List AV) (x10_1 : List AV) (x11_1 : Int) : Option Res :=
  iterK (evalK G run n f35_keep 0 (sub [1, 1, 1, 1, 0, 1, 0, 0] f35_body)) f35_t0 f35_o0 (blockK 0 (seqK (evalK G run n f35_keep 0 (sub [1, 1, 1, 1, 1] f35_body) (retE G f35_info)) (retE G f35_info))) k0
    ⟨[.any, .val (.slice (.struct [(.struct [(.int .u32), (.blob 32), (.blob 32), (.int .u64)]), (.slice .str)])) none (.slice x1_1), .val (.slice (.int .i64)) none (.slice x2_1), .any, .any, .any, .any, .any, .val (.slice (.blob 32)) (some (8, 0)) (.slice x8_1), .val (.slice (.int .i64)) (some (9, 0)) (.slice x9_1), .val (.slice (.struct [(.struct [(.int .u32), (.blob 32), (.blob 32), (.int .u64)]), (.struct [(.int .i64), (.int .i64), (.slice (.blob 32))])])) (some (10, 0)) (.slice x10_1), .val (.int .i64) none (.int x11_1), .any, .any, .any, .any, .any, .any, .any, .any, .any, .any, .any, .any, .any, .any, .any, .any, .any, .any, .any, .any, .any, .any, .any, .any, .any, .any, .any, .any, .any, .any, .any, .any, .any, .any, .any, .any, .any, .any, .any, .any, .any, .any, .any, .any, .any, .any, .any, .any, .any, .any, .any, .any, .any, .any, .any, .any, .any, .any, .any, .any, .any, .any, .any, .any, .any, .any], [⟨0, none⟩, ⟨0, none⟩, ⟨0, none⟩, ⟨0, none⟩, ⟨0, none⟩, ⟨0, none⟩, ⟨0, none⟩, ⟨0, none⟩, ⟨0, none⟩, ⟨0, none⟩, ⟨0, none⟩, ⟨0, none⟩, ⟨0, none⟩, ⟨0, none⟩, ⟨0, none⟩, ⟨0, none⟩, ⟨0, none⟩, ⟨0, none⟩, ⟨0, none⟩, ⟨0, none⟩, ⟨0, none⟩, ⟨0, none⟩, ⟨0, none⟩, ⟨0, none⟩, ⟨0, none⟩, ⟨0, none⟩, ⟨0, none⟩, ⟨0, none⟩, ⟨0, none⟩, ⟨0, none⟩, ⟨0, none⟩, ⟨0, none⟩, ⟨0, none⟩, ⟨0, none⟩, ⟨0, none⟩, ⟨0, none⟩, ⟨0, none⟩, ⟨0, none⟩, ⟨0, none⟩, ⟨0, none⟩, ⟨0, none⟩, ⟨0, none⟩, ⟨0, none⟩, ⟨0, none⟩, ⟨0, none⟩, ⟨0, none⟩, ⟨0, none⟩, ⟨0, none⟩, ⟨0, none⟩, ⟨0, none⟩, ⟨0, none⟩, ⟨0, none⟩, ⟨0, none⟩, ⟨0, none⟩, ⟨0, none⟩, ⟨0, none⟩, ⟨0, none⟩, ⟨0, none⟩, ⟨0, none⟩, ⟨0, none⟩, ⟨0, none⟩, ⟨0, none⟩, ⟨0, none⟩, ⟨0, none⟩, ⟨0, none⟩, ⟨0, none⟩, ⟨0, none⟩, ⟨0, none⟩, ⟨0, none⟩, ⟨0, none⟩, ⟨0, none⟩, ⟨0, none⟩, ⟨0, none⟩, ⟨0, none⟩, ⟨0, none⟩, ⟨0, none⟩, ⟨0, none⟩, ⟨0, none⟩], List.replicate 78 0⟩
theorem f35_l0_eq (run : Run) (n : Nat) (k0 : Nat) (x1_1 : List AV) (x2_1 : List AV) (x8_1 : List AV) (x9_1 : List AV) (x10_1 : List AV) (x11_1 : Int) : f35_l0 run n (k0 + 1) x1_1 x2_1 x8_1 x9_1 x10_1 x11_1 =
  bif ltI x11_1 (x2_1.length : Int) then
    bif inR x11_1 x2_1.length then
    bif ltI ((nth x2_1 (Int.toNat x11_1)).toInt) 0 then
    some ⟨[.slice [], .int 15], [], f35_fresh⟩
  else
    bif leI (x1_1.length : Int) ((nth x2_1 (Int.toNat x11_1)).toInt) then
    some ⟨[.slice [], .int 15], [], f35_fresh⟩
  else
    bif inR ((nth x2_1 (Int.toNat x11_1)).toInt) x1_1.length then
    bif ltI 0 x11_1 then
    bif inR (IntKind.wrap .i64 (x11_1 - 1)) x2_1.length then
    (run 23 [.slice x9_1, .int ((nth x2_1 (Int.toNat x11_1)).toInt), .int ((nth x2_1 (Int.toNat (IntKind.wrap .i64 (x11_1 - 1)))).toInt)]).bind fun r3 =>
    nilV r3.outs (consV r3.vals fun v3 vs3 =>
    nilV vs3 (bif ltI v3.toInt 0 then
    some ⟨[.slice [], .int 10], [], f35_fresh⟩
  else
    (run 18 [.slice x8_1, .slice x9_1, .int ((nth x2_1 (Int.toNat x11_1)).toInt)]).bind fun r4 =>
    bif r4.fresh then
    nilV r4.outs (consV r4.vals fun v4 vs4 =>
    nilV vs4 ((run 67 [.slice v4.toSlice]).bind fun r5 =>
    bif r5.fresh then
    nilV r5.outs (consV r5.vals fun v5 vs5 =>
    nilV vs5 ((run 66 [.slice v5.toSlice, .int v3.toInt]).bind fun r6 =>
    nilV r6.outs (consV r6.vals fun v6 vs6 =>
    consV vs6 fun v7 vs7 =>
    nilV vs7 (bif !(eqI v7.toInt 0) then
    some ⟨[.slice [], .int v7.toInt], [], f35_fresh⟩
  else
    bif Nat.ble ((x10_1.length + 1) * 120) 140737488355328 then
    f35_l0 run n k0 x1_1 x2_1 x8_1 x9_1 (x10_1 ++ [.agg [.agg [.int ((((nth x1_1 (Int.toNat ((nth x2_1 (Int.toNat x11_1)).toInt))).fld 0).fld 0).toInt), .blob ((((nth x1_1 (Int.toNat ((nth x2_1 (Int.toNat x11_1)).toInt))).fld 0).fld 1).toBlob), .blob ((((nth x1_1 (Int.toNat ((nth x2_1 (Int.toNat x11_1)).toInt))).fld 0).fld 2).toBlob), .int ((((nth x1_1 (Int.toNat ((nth x2_1 (Int.toNat x11_1)).toInt))).fld 0).fld 3).toInt)], .agg [.int ((v6.fld 0).toInt), .int ((v6.fld 1).toInt), .slice ((v6.fld 2).toSlice)]]]) (IntKind.wrap .i64 (x11_1 + 1))
  else none))))
  else none))
  else none))
  else none
  else
    bif Nat.ble ((x10_1.length + 1) * 120) 140737488355328 then
    f35_l0 run n k0 x1_1 x2_1 x8_1 x9_1 (x10_1 ++ [.agg [.agg [.int ((((nth x1_1 (Int.toNat ((nth x2_1 (Int.toNat x11_1)).toInt))).fld 0).fld 0).toInt), .blob ((((nth x1_1 (Int.toNat ((nth x2_1 (Int.toNat x11_1)).toInt))).fld 0).fld 1).toBlob), .blob ((((nth x1_1 (Int.toNat ((nth x2_1 (Int.toNat x11_1)).toInt))).fld 0).fld 2).toBlob), .int ((((nth x1_1 (Int.toNat ((nth x2_1 (Int.toNat x11_1)).toInt))).fld 0).fld 3).toInt)], .agg [.int 0, .int 0, .slice []]]]) (IntKind.wrap .i64 (x11_1 + 1))
  else none
  else none
  else none
  else
    some ⟨[.slice x10_1, .int 0], [], f35_fresh⟩ := by kernel_rfl
noncomputable def f35 (run : Run) (n : Nat) (a0_1 : List UInt8) (a1_1 : List AV) (a2_1 : List AV) : Option Res := evalK G run n f35_info.keep 0 f35_info.body (retE G f35_info) (f35_info.start [.blob a0_1, .slice a1_1, .slice a2_1])
theorem f35_eq (run : Run) (n : Nat) (a0_1 : List UInt8) (a1_1 : List AV) (a2_1 : List AV) : f35 run n a0_1 a1_1 a2_1 =
  (run 12 [.slice a1_1]).bind fun r1 =>
    bif r1.fresh then
    nilV r1.outs (consV r1.vals fun v1 vs1 =>
    nilV vs1 ((run 13 [.blob a0_1, .slice v1.toSlice]).bind fun r2 =>
    bif r2.fresh then
    nilV r2.outs (consV r2.vals fun v2 vs2 =>
    nilV vs2 (f35_l0 run n n a1_1 a2_1 v1.toSlice v2.toSlice [] 0))
  else none))
  else none := by kernel_rfl
theorem f35_run (ext : Run) (n : Nat) (a0_1 : List UInt8) (a1_1 : List AV) (a2_1 : List AV) : runE G ext (n + 1) 35 [.blob a0_1, .slice a1_1, .slice a2_1] = f35 (runE G ext n) n a0_1 a1_1 a2_1 := runE_succ f35_at f35_in

noncomputable def f75 (run : Run) (n : Nat) (a0_1 : Int) (a0_2 : Int) (a0_3 : List AV) (a1_1 : Int) (a1_2 : Int) (a1_3 : List AV) : Option Res := evalK G run n f75_info.keep 0 f75_info.body (retE G f75_info) (f75_info.start [.agg [.int a0_1, .int a0_2, .slice a0_3], .agg [.int a1_1, .int a1_2, .slice a1_3]])
theorem f75_eq (run : Run) (n : Nat) (a0_1 : Int) (a0_2 : Int) (a0_3 : List AV) (a1_1 : Int) (a1_2 : Int) (a1_3 : List AV) : f75 run n a0_1 a0_2 a0_3 a1_1 a1_2 a1_3 =
  bif eqI a0_1 a1_1 then
    bif eqI a0_2 a1_2 then
    (run 16 [.slice a0_3, .slice a1_3]).bind fun r1 =>
    nilV r1.outs (consV r1.vals fun v1 vs1 =>
    nilV vs1 (some ⟨[.bool v1.toBool], [], f75_fresh⟩))
  else
    some ⟨[.bool false], [], f75_fresh⟩
  else
    some ⟨[.bool false], [], f75_fresh⟩ := by kernel_rfl
theorem f75_run (ext : Run) (n : Nat) (a0_1 : Int) (a0_2 : Int) (a0_3 : List AV) (a1_1 : Int) (a1_2 : Int) (a1_3 : List AV) : runE G ext (n + 1) 75 [.agg [.int a0_1, .int a0_2, .slice a0_3], .agg [.int a1_1, .int a1_2, .slice a1_3]] = f75 (runE G ext n) n a0_1 a0_2 a0_3 a1_1 a1_2 a1_3 := runE_succ f75_at f75_in

noncomputable def f61 (run : Run) (n : Nat) (a0_1 : Int) (a0_2 : List UInt8) (a0_3 : List UInt8) (a0_4 : Int) (a0_5 : Int) (a0_6 : Int) (a0_7 : List AV) (a1_1 : Int) (a1_2 : List UInt8) (a1_3 : List UInt8) (a1_4 : Int) (a1_5 : Int) (a1_6 : Int) (a1_7 : List AV) : Option Res := evalK G run n f61_info.keep 0 f61_info.body (retE G f61_info) (f61_info.start [.agg [.agg [.int a0_1, .blob a0_2, .blob a0_3, .int a0_4], .agg [.int a0_5, .int a0_6, .slice a0_7]], .agg [.agg [.int a1_1, .blob a1_2, .blob a1_3, .int a1_4], .agg [.int a1_5, .int a1_6, .slice a1_7]]])
theorem f61_eq (run : Run) (n : Nat) (a0_1 : Int) (a0_2 : List UInt8) (a0_3 : List UInt8) (a0_4 : Int) (a0_5 : Int) (a0_6 : Int) (a0_7 : List AV) (a1_1 : Int) (a1_2 : List UInt8) (a1_3 : List UInt8) (a1_4 : Int) (a1_5 : Int) (a1_6 : Int) (a1_7 : List AV) : f61 run n a0_1 a0_2 a0_3 a0_4 a0_5 a0_6 a0_7 a1_1 a1_2 a1_3 a1_4 a1_5 a1_6 a1_7 =
  bif (eqI a0_1 a1_1 && (eqS a0_2 a1_2 && (eqS a0_3 a1_3 && (eqI a0_4 a1_4 && true)))) then
    (run 75 [.agg [.int a0_5, .int a0_6, .slice a0_7], .agg [.int a1_5, .int a1_6, .slice a1_7]]).bind fun r1 =>
    nilV r1.outs (consV r1.vals fun v1 vs1 =>
    nilV vs1 (some ⟨[.bool v1.toBool], [], f61_fresh⟩))
  else
    some ⟨[.bool false], [], f61_fresh⟩ := by kernel_rfl
theorem f61_run (ext : Run) (n : Nat) (a0_1 : Int) (a0_2 : List UInt8) (a0_3 : List UInt8) (a0_4 : Int) (a0_5 : Int) (a0_6 : Int) (a0_7 : List AV) (a1_1 : Int) (a1_2 : List UInt8) (a1_3 : List UInt8) (a1_4 : Int) (a1_5 : Int) (a1_6 : Int) (a1_7 : List AV) : runE G ext (n + 1) 61 [.agg [.agg [.int a0_1, .blob a0_2, .blob a0_3, .int a0_4], .agg [.int a0_5, .int a0_6, .slice a0_7]], .agg [.agg [.int a1_1, .blob a1_2, .blob a1_3, .int a1_4], .agg [.int a1_5, .int a1_6, .slice a1_7]]] = f61 (runE G ext n) n a0_1 a0_2 a0_3 a0_4 a0_5 a0_6 a0_7 a1_1 a1_2 a1_3 a1_4 a1_5 a1_6 a1_7 := runE_succ f61_at f61_in

noncomputable def f31_l0 (run : Run) (n : Nat) (k0 : Nat) (x0_1 : List AV) (x1_1 : List AV) (x5_1 : Int) : Option Res :=
  iterK (evalK G run n f31_keep 0 (sub [1, 1, 0, 1, 0, 0] f31_body)) f31_t0 f31_o0 (blockK 0 (seqK (evalK G run n f31_keep 0 (sub [1, 1, 1] f31_body) (retE G f31_info)) (retE G f31_info))) k0
    ⟨[.val (.slice (.struct [(.struct [(.int .u32), (.blob 32), (.blob 32), (.int .u64)]), (.struct [(.int .i64), (.int .i64), (.slice (.blob 32))])])) none (.slice x0_1), .val (.slice (.struct [(.struct [(.int .u32), (.blob 32), (.blob 32), (.int .u64)]), (.struct [(.int .i64), (.int .i64), (.slice (.blob 32))])])) none (.slice x1_1), .any, .any, .any, .val (.int .i64) none (.int x5_1), .any, .any, .any, .any, .any, .any, .any, .any, .any, .any, .any, .any, .any, .any, .any, .any, .any, .any, .any, .any, .any], [⟨0, none⟩, ⟨0, none⟩, ⟨0, none⟩, ⟨0, none⟩, ⟨0, none⟩, ⟨0, none⟩, ⟨0, none⟩, ⟨0, none⟩, ⟨0, none⟩, ⟨0, none⟩, ⟨0, none⟩, ⟨0, none⟩, ⟨0, none⟩, ⟨0, none⟩, ⟨0, none⟩, ⟨0, none⟩, ⟨0, none⟩, ⟨0, none⟩, ⟨0, none⟩, ⟨0, none⟩, ⟨0, none⟩, ⟨0, none⟩, ⟨0, none⟩, ⟨0, none⟩, ⟨0, none⟩, ⟨0, none⟩, ⟨0, none⟩], List.replicate 27 0⟩
theorem f31_l0_eq (run : Run) (n : Nat) (k0 : Nat) (x0_1 : List AV) (x1_1 : List AV) (x5_1 : Int) : f31_l0 run n (k0 + 1) x0_1 x1_1 x5_1 =
  bif ltI x5_1 (x0_1.length : Int) then
    bif inR x5_1 x0_1.length then
    bif inR x5_1 x1_1.length then
    (run 61 [.agg [.agg [.int ((((nth x0_1 (Int.toNat x5_1)).fld 0).fld 0).toInt), .blob ((((nth x0_1 (Int.toNat x5_1)).fld 0).fld 1).toBlob), .blob ((((nth x0_1 (Int.toNat x5_1)).fld 0).fld 2).toBlob), .int ((((nth x0_1 (Int.toNat x5_1)).fld 0).fld 3).toInt)], .agg [.int ((((nth x0_1 (Int.toNat x5_1)).fld 1).fld 0).toInt), .int ((((nth x0_1 (Int.toNat x5_1)).fld 1).fld 1).toInt), .slice ((((nth x0_1 (Int.toNat x5_1)).fld 1).fld 2).toSlice)]], .agg [.agg [.int ((((nth x1_1 (Int.toNat x5_1)).fld 0).fld 0).toInt), .blob ((((nth x1_1 (Int.toNat x5_1)).fld 0).fld 1).toBlob), .blob ((((nth x1_1 (Int.toNat x5_1)).fld 0).fld 2).toBlob), .int ((((nth x1_1 (Int.toNat x5_1)).fld 0).fld 3).toInt)], .agg [.int ((((nth x1_1 (Int.toNat x5_1)).fld 1).fld 0).toInt), .int ((((nth x1_1 (Int.toNat x5_1)).fld 1).fld 1).toInt), .slice ((((nth x1_1 (Int.toNat x5_1)).fld 1).fld 2).toSlice)]]]).bind fun r1 =>
    nilV r1.outs (consV r1.vals fun v1 vs1 =>
    nilV vs1 (bif !v1.toBool then
    some ⟨[.bool false], [], f31_fresh⟩
  else
    f31_l0 run n k0 x0_1 x1_1 (IntKind.wrap .i64 (x5_1 + 1))))
  else none
  else none
  else
    some ⟨[.bool true], [], f31_fresh⟩ := by kernel_rfl
noncomputable def f31 (run : Run) (n : Nat) (a0_1 : List AV) (a1_1 : List AV) : Option Res := evalK G run n f31_info.keep 0 f31_info.body (retE G f31_info) (f31_info.start [.slice a0_1, .slice a1_1])
theorem f31_eq (run : Run) (n : Nat) (a0_1 : List AV) (a1_1 : List AV) : f31 run n a0_1 a1_1 =
  bif !(eqI (a0_1.length : Int) (a1_1.length : Int)) then
    some ⟨[.bool false], [], f31_fresh⟩
  else
    f31_l0 run n n a0_1 a1_1 0 := by kernel_rfl
theorem f31_run (ext : Run) (n : Nat) (a0_1 : List AV) (a1_1 : List AV) : runE G ext (n + 1) 31 [.slice a0_1, .slice a1_1] = f31 (runE G ext n) n a0_1 a1_1 := runE_succ f31_at f31_in

noncomputable def f6 (run : Run) (n : Nat) (a0_1 : List UInt8) (a1_1 : List AV) (a2_1 : List AV) : Option Res := evalK G run n f6_info.keep 0 f6_info.body (retE G f6_info) (f6_info.start [.blob a0_1, .slice a1_1, .slice a2_1])
theorem f6_eq (run : Run) (n : Nat) (a0_1 : List UInt8) (a1_1 : List AV) (a2_1 : List AV) : f6 run n a0_1 a1_1 a2_1 =
  (run 10 [.slice a1_1]).bind fun r1 =>
    nilV r1.outs (consV r1.vals fun v1 vs1 =>
    nilV vs1 (bif v1.toBool then
    (run 25 []).bind fun r2 =>
    nilV r2.outs (consV r2.vals fun v2 vs2 =>
    nilV vs2 (some ⟨[.bool v2.toBool], [], f6_fresh⟩))
  else
    bif ltI 40 (a2_1.length : Int) then
    (run 25 []).bind fun r3 =>
    nilV r3.outs (consV r3.vals fun v3 vs3 =>
    nilV vs3 (some ⟨[.bool v3.toBool], [], f6_fresh⟩))
  else
    (run 34 [.blob a0_1, .slice a1_1, .slice a2_1]).bind fun r4 =>
    nilV r4.outs (consV r4.vals fun v4 vs4 =>
    consV vs4 fun v5 vs5 =>
    nilV vs5 ((run 35 [.blob a0_1, .slice a1_1, .slice a2_1]).bind fun r5 =>
    nilV r5.outs (consV r5.vals fun v6 vs6 =>
    consV vs6 fun v7 vs7 =>
    nilV vs7 ((run 31 [.slice v4.toSlice, .slice v6.toSlice]).bind fun r6 =>
    nilV r6.outs (consV r6.vals fun v8 vs8 =>
    nilV vs8 (bif v8.toBool then
    bif eqI v5.toInt v7.toInt then
    (run 25 []).bind fun r7 =>
    nilV r7.outs (consV r7.vals fun v9 vs9 =>
    nilV vs9 (some ⟨[.bool v9.toBool], [], f6_fresh⟩))
  else
    some ⟨[.bool false], [], f6_fresh⟩
  else
    some ⟨[.bool false], [], f6_fresh⟩)))))))) := by kernel_rfl
theorem f6_run (ext : Run) (n : Nat) (a0_1 : List UInt8) (a1_1 : List AV) (a2_1 : List AV) : runE G ext (n + 1) 6 [.blob a0_1, .slice a1_1, .slice a2_1] = f6 (runE G ext n) n a0_1 a1_1 a2_1 := runE_succ f6_at f6_in

noncomputable def f140_l0 (run : Run) (n : Nat) (k0 : Nat) (x29_1 : Int) (x30_1 : Int) (o2_1 : Int) (o2_2 : Int) (o2_3 : List AV) (o3_1 : Int) (o3_2 : Int) (o3_3 : List AV) : Option Res :=
  iterK (evalK G run n f140_keep 0 (sub [1, 1, 0, 1, 0, 0] f140_body)) f140_t0 f140_o0 (blockK 0 (seqK (evalK G run n f140_keep 0 (sub [1, 1, 1] f140_body) (retE G f140_info)) (retE G f140_info))) k0
    ⟨[.any, .any, .ptr ⟨(.struct [(.int .i64), (.int .i64), (.slice (.blob 32))]), 2, 1, []⟩, .ptr ⟨(.struct [(.int .i64), (.int .i64), (.slice (.blob 32))]), 3, 1, []⟩, .any, .any, .any, .any, .any, .any, .any, .any, .any, .any, .any, .any, .any, .any, .any, .any, .any, .any, .any, .any, .any, .any, .any, .any, .any, .val (.int .i64) none (.int x29_1), .val (.int .i64) none (.int x30_1), .any, .any, .any, .any, .any, .any, .any, .any, .any, .any, .any, .any, .any, .any], [⟨0, none⟩, ⟨0, none⟩, ⟨1, some ⟨(.struct [(.int .i64), (.int .i64), (.slice (.blob 32))]), .agg [.int o2_1, .int o2_2, .slice o2_3]⟩⟩, ⟨1, some ⟨(.struct [(.int .i64), (.int .i64), (.slice (.blob 32))]), .agg [.int o3_1, .int o3_2, .slice o3_3]⟩⟩, ⟨0, none⟩, ⟨0, none⟩, ⟨0, none⟩, ⟨0, none⟩, ⟨0, none⟩, ⟨0, none⟩, ⟨0, none⟩, ⟨0, none⟩, ⟨0, none⟩, ⟨0, none⟩, ⟨0, none⟩, ⟨0, none⟩, ⟨0, none⟩, ⟨0, none⟩, ⟨0, none⟩, ⟨0, none⟩, ⟨0, none⟩, ⟨0, none⟩, ⟨0, none⟩, ⟨0, none⟩, ⟨0, none⟩, ⟨0, none⟩, ⟨0, none⟩, ⟨0, none⟩, ⟨0, none⟩, ⟨0, none⟩, ⟨0, none⟩, ⟨0, none⟩, ⟨0, none⟩, ⟨0, none⟩, ⟨0, none⟩, ⟨0, none⟩, ⟨0, none⟩, ⟨0, none⟩, ⟨0, none⟩, ⟨0, none⟩, ⟨0, none⟩, ⟨0, none⟩, ⟨0, none⟩, ⟨0, none⟩, ⟨0, none⟩], List.replicate 45 0⟩
theorem f140_l0_eq (run : Run) (n : Nat) (k0 : Nat) (x29_1 : Int) (x30_1 : Int) (o2_1 : Int) (o2_2 : Int) (o2_3 : List AV) (o3_1 : Int) (o3_2 : Int) (o3_3 : List AV) : f140_l0 run n (k0 + 1) x29_1 x30_1 o2_1 o2_2 o2_3 o3_1 o3_2 o3_3 =
  bif ltI x30_1 x29_1 then
    bif inR x30_1 o2_3.length then
    bif inR x30_1 o3_3.length then
    bif !(eqS ((nth o2_3 (Int.toNat x30_1)).toBlob) ((nth o3_3 (Int.toNat x30_1)).toBlob)) then
    some ⟨[.bool false], [], f140_fresh⟩
  else
    f140_l0 run n k0 x29_1 (IntKind.wrap .i64 (x30_1 + 1)) o2_1 o2_2 o2_3 o3_1 o3_2 o3_3
  else none
  else none
  else
    some ⟨[.bool true], [], f140_fresh⟩ := by kernel_rfl
noncomputable def f140 (run : Run) (n : Nat) (a0_1 : Int) (a0_2 : Int) (a0_3 : List AV) (a1_1 : Int) (a1_2 : Int) (a1_3 : List AV) : Option Res := evalK G run n f140_info.keep 0 f140_info.body (retE G f140_info) (f140_info.start [.agg [.int a0_1, .int a0_2, .slice a0_3], .agg [.int a1_1, .int a1_2, .slice a1_3]])
theorem f140_eq (run : Run) (n : Nat) (a0_1 : Int) (a0_2 : Int) (a0_3 : List AV) (a1_1 : Int) (a1_2 : Int) (a1_3 : List AV) : f140 run n a0_1 a0_2 a0_3 a1_1 a1_2 a1_3 =
  bif !(eqI a0_1 a1_1) then
    some ⟨[.bool false], [], f140_fresh⟩
  else
    bif !(eqI a0_2 a1_2) then
    some ⟨[.bool false], [], f140_fresh⟩
  else
    bif !(eqI (a0_3.length : Int) (a1_3.length : Int)) then
    some ⟨[.bool false], [], f140_fresh⟩
  else
    f140_l0 run n n (a0_3.length : Int) 0 a0_1 a0_2 a0_3 a1_1 a1_2 a1_3 := by kernel_rfl
theorem f140_run (ext : Run) (n : Nat) (a0_1 : Int) (a0_2 : Int) (a0_3 : List AV) (a1_1 : Int) (a1_2 : Int) (a1_3 : List AV) : runE G ext (n + 1) 140 [.agg [.int a0_1, .int a0_2, .slice a0_3], .agg [.int a1_1, .int a1_2, .slice a1_3]] = f140 (runE G ext n) n a0_1 a0_2 a0_3 a1_1 a1_2 a1_3 := runE_succ f140_at f140_in

noncomputable def f111 (run : Run) (n : Nat) (a0_1 : Int) (a0_2 : Int) (a0_3 : List AV) : Option Res := evalK G run n f111_info.keep 0 f111_info.body (retE G f111_info) (f111_info.start [.agg [.int a0_1, .int a0_2, .slice a0_3]])
theorem f111_eq (run : Run) (n : Nat) (a0_1 : Int) (a0_2 : Int) (a0_3 : List AV) : f111 run n a0_1 a0_2 a0_3 =
  (run 140 [.agg [.int a0_1, .int a0_2, .slice a0_3], .agg [.int 0, .int 0, .slice []]]).bind fun r1 =>
    nilV r1.outs (consV r1.vals fun v1 vs1 =>
    nilV vs1 (some ⟨[.bool v1.toBool], [], f111_fresh⟩)) := by kernel_rfl
theorem f111_run (ext : Run) (n : Nat) (a0_1 : Int) (a0_2 : Int) (a0_3 : List AV) : runE G ext (n + 1) 111 [.agg [.int a0_1, .int a0_2, .slice a0_3]] = f111 (runE G ext n) n a0_1 a0_2 a0_3 := runE_succ f111_at f111_in

noncomputable def f76 (run : Run) (n : Nat) (a0_1 : Int) (a0_2 : List UInt8) (a0_3 : List UInt8) (a0_4 : Int) (a1_1 : List AV) : Option Res := evalK G run n f76_info.keep 0 f76_info.body (retE G f76_info) (f76_info.start [.agg [.int a0_1, .blob a0_2, .blob a0_3, .int a0_4], .slice a1_1])
theorem f76_eq (run : Run) (n : Nat) (a0_1 : Int) (a0_2 : List UInt8) (a0_3 : List UInt8) (a0_4 : Int) (a1_1 : List AV) : f76 run n a0_1 a0_2 a0_3 a0_4 a1_1 =
  bif eqI (a1_1.length : Int) 0 then
    some ⟨[.int 6], [], f76_fresh⟩
  else
    bif inR 0 a1_1.length then
    bif !(eqI ((((nth a1_1 0).fld 0).fld 0).toInt) a0_1 && (eqS ((((nth a1_1 0).fld 0).fld 1).toBlob) a0_2 && (eqS ((((nth a1_1 0).fld 0).fld 2).toBlob) a0_3 && (eqI ((((nth a1_1 0).fld 0).fld 3).toInt) a0_4 && true)))) then
    some ⟨[.int 7], [], f76_fresh⟩
  else
    bif inR 0 a1_1.length then
    (run 111 [.agg [.int ((((nth a1_1 0).fld 1).fld 0).toInt), .int ((((nth a1_1 0).fld 1).fld 1).toInt), .slice ((((nth a1_1 0).fld 1).fld 2).toSlice)]]).bind fun r1 =>
    nilV r1.outs (consV r1.vals fun v1 vs1 =>
    nilV vs1 (bif !v1.toBool then
    some ⟨[.int 2], [], f76_fresh⟩
  else
    some ⟨[.int 0], [], f76_fresh⟩))
  else none
  else none := by kernel_rfl
theorem f76_run (ext : Run) (n : Nat) (a0_1 : Int) (a0_2 : List UInt8) (a0_3 : List UInt8) (a0_4 : Int) (a1_1 : List AV) : runE G ext (n + 1) 76 [.agg [.int a0_1, .blob a0_2, .blob a0_3, .int a0_4], .slice a1_1] = f76 (runE G ext n) n a0_1 a0_2 a0_3 a0_4 a1_1 := runE_succ f76_at f76_in

noncomputable def f77 (run : Run) (n : Nat) (a0_1 : Int) (a0_2 : List UInt8) (a0_3 : List UInt8) (a0_4 : Int) (a0_5 : List UInt8) (a0_6 : Int) (a0_7 : Int) (a0_8 : Int) (a0_9 : Int) (a0_10 : Int) (a0_11 : Int) (a1_1 : List AV) : Option Res := evalK G run n f77_info.keep 0 f77_info.body (retE G f77_info) (f77_info.start [.agg [.agg [.int a0_1, .blob a0_2, .blob a0_3, .int a0_4], .blob a0_5, .int a0_6, .int a0_7, .int a0_8, .int a0_9, .int a0_10, .int a0_11], .slice a1_1])
theorem f77_eq (run : Run) (n : Nat) (a0_1 : Int) (a0_2 : List UInt8) (a0_3 : List UInt8) (a0_4 : Int) (a0_5 : List UInt8) (a0_6 : Int) (a0_7 : Int) (a0_8 : Int) (a0_9 : Int) (a0_10 : Int) (a0_11 : Int) (a1_1 : List AV) : f77 run n a0_1 a0_2 a0_3 a0_4 a0_5 a0_6 a0_7 a0_8 a0_9 a0_10 a0_11 a1_1 =
  some ⟨[.slice [.agg [.clo 112 [.slice a1_1], .int 8], .agg [.clo 113 [.slice a1_1, .agg [.agg [.int a0_1, .blob a0_2, .blob a0_3, .int a0_4], .blob a0_5, .int a0_6, .int a0_7, .int a0_8, .int a0_9, .int a0_10, .int a0_11]], .int 9], .agg [.clo 114 [.slice a1_1], .int 10]]], [], f77_fresh⟩ := by kernel_rfl
theorem f77_run (ext : Run) (n : Nat) (a0_1 : Int) (a0_2 : List UInt8) (a0_3 : List UInt8) (a0_4 : Int) (a0_5 : List UInt8) (a0_6 : Int) (a0_7 : Int) (a0_8 : Int) (a0_9 : Int) (a0_10 : Int) (a0_11 : Int) (a1_1 : List AV) : runE G ext (n + 1) 77 [.agg [.agg [.int a0_1, .blob a0_2, .blob a0_3, .int a0_4], .blob a0_5, .int a0_6, .int a0_7, .int a0_8, .int a0_9, .int a0_10, .int a0_11], .slice a1_1] = f77 (runE G ext n) n a0_1 a0_2 a0_3 a0_4 a0_5 a0_6 a0_7 a0_8 a0_9 a0_10 a0_11 a1_1 := runE_succ f77_at f77_in

noncomputable def f210 (run : Run) (n : Nat) (a0_1 : Int) (a1_1 : Int) : Option Res := evalK G run n f210_info.keep 0 f210_info.body (retE G f210_info) (f210_info.start [.int a0_1, .int a1_1])
theorem f210_eq (run : Run) (n : Nat) (a0_1 : Int) (a1_1 : Int) : f210 run n a0_1 a1_1 =
  bif ltI a1_1 0 then
    some ⟨[.int (-1)], [], f210_fresh⟩
  else
    bif leI a0_1 a1_1 then
    some ⟨[.int (-1)], [], f210_fresh⟩
  else
    (run 211 [.int a0_1, .int a1_1]).bind fun r1 =>
    bif r1.fresh then
    nilV r1.outs (consV r1.vals fun v1 vs1 =>
    nilV vs1 (some ⟨[.int (v1.toSlice.length : Int)], [], f210_fresh⟩))
  else none := by kernel_rfl
theorem f210_run (ext : Run) (n : Nat) (a0_1 : Int) (a1_1 : Int) : runE G ext (n + 1) 210 [.int a0_1, .int a1_1] = f210 (runE G ext n) n a0_1 a1_1 := runE_succ f210_at f210_in

noncomputable def f197 (run : Run) (n : Nat) (a0_1 : Int) (a0_2 : Int) (a0_3 : List AV) : Option Res := evalK G run n f197_info.keep 0 f197_info.body (retE G f197_info) (f197_info.start [.agg [.int a0_1, .int a0_2, .slice a0_3]])
theorem f197_eq (run : Run) (n : Nat) (a0_1 : Int) (a0_2 : Int) (a0_3 : List AV) : f197 run n a0_1 a0_2 a0_3 =
  bif ltI a0_2 1 then
    some ⟨[.int 3], [], f197_fresh⟩
  else
    bif ltI 1048576 a0_2 then
    some ⟨[.int 3], [], f197_fresh⟩
  else
    bif ltI a0_1 0 then
    some ⟨[.int 3], [], f197_fresh⟩
  else
    bif leI a0_2 a0_1 then
    some ⟨[.int 3], [], f197_fresh⟩
  else
    (run 210 [.int a0_2, .int a0_1]).bind fun r1 =>
    nilV r1.outs (consV r1.vals fun v1 vs1 =>
    nilV vs1 (bif !(eqI (a0_3.length : Int) v1.toInt) then
    some ⟨[.int 2], [], f197_fresh⟩
  else
    some ⟨[.int 0], [], f197_fresh⟩)) := by kernel_rfl
theorem f197_run (ext : Run) (n : Nat) (a0_1 : Int) (a0_2 : Int) (a0_3 : List AV) : runE G ext (n + 1) 197 [.agg [.int a0_1, .int a0_2, .slice a0_3]] = f197 (runE G ext n) n a0_1 a0_2 a0_3 := runE_succ f197_at f197_in

noncomputable def f198_l0 (run : Run) (n : Nat) (k0 : Nat) (x6_1 : List AV) (x20_1 : List AV) (x21_1 : Int) (x22_1 : Int) (o3_1 : Int) (o3_2 : Int) (o3_3 : List AV) (o5_1 : List UInt8) : Option Res :=
  iterK (evalK G run n f198_keep 0 (sub [1, 1, 1, 1, 0, 1, 0, 0] f198_body)) f198_t0 f198_o0 (blockK 0 (seqK (evalK G run n f198_keep 0 (sub [1, 1, 1, 1, 1] f198_body) (retE G f198_info)) (retE G f198_info))) k0
    ⟨[.any, .any, .any, .ptr ⟨(.struct [(.int .i64), (.int .i64), (.slice (.blob 32))]), 3, 1, []⟩, .any, .ptr ⟨(.blob 32), 5, 1, []⟩, .val (.slice (.blob 32)) (some (6, 0)) (.slice x6_1), .any, .any, .any, .any, .any, .any, .any, .any, .any, .any, .any, .any, .any, .val (.slice .bool) (some (20, 0)) (.slice x20_1), .val (.int .i64) none (.int x21_1), .val (.int .i64) none (.int x22_1), .any, .any, .any, .any, .any, .any, .any, .any, .any, .any, .any, .any, .any, .any, .any, .any, .any, .any, .any, .any, .any, .any, .any, .any, .any], [⟨0, none⟩, ⟨0, none⟩, ⟨0, none⟩, ⟨1, some ⟨(.struct [(.int .i64), (.int .i64), (.slice (.blob 32))]), .agg [.int o3_1, .int o3_2, .slice o3_3]⟩⟩, ⟨0, none⟩, ⟨1, some ⟨(.blob 32), .blob o5_1⟩⟩, ⟨0, none⟩, ⟨0, none⟩, ⟨0, none⟩, ⟨0, none⟩, ⟨0, none⟩, ⟨0, none⟩, ⟨0, none⟩, ⟨0, none⟩, ⟨0, none⟩, ⟨0, none⟩, ⟨0, none⟩, ⟨0, none⟩, ⟨0, none⟩, ⟨0, none⟩, ⟨0, none⟩, ⟨0, none⟩, ⟨0, none⟩, ⟨0, none⟩, ⟨0, none⟩, ⟨0, none⟩, ⟨0, none⟩, ⟨0, none⟩, ⟨0, none⟩, ⟨0, none⟩, ⟨0, none⟩, ⟨0, none⟩, ⟨0, none⟩, ⟨0, none⟩, ⟨0, none⟩, ⟨0, none⟩, ⟨0, none⟩, ⟨0, none⟩, ⟨0, none⟩, ⟨0, none⟩, ⟨0, none⟩, ⟨0, none⟩, ⟨0, none⟩, ⟨0, none⟩, ⟨0, none⟩, ⟨0, none⟩, ⟨0, none⟩, ⟨0, none⟩], List.replicate 48 0⟩
theorem f198_l0_eq (run : Run) (n : Nat) (k0 : Nat) (x6_1 : List AV) (x20_1 : List AV) (x21_1 : Int) (x22_1 : Int) (o3_1 : Int) (o3_2 : Int) (o3_3 : List AV) (o5_1 : List UInt8) : f198_l0 run n (k0 + 1) x6_1 x20_1 x21_1 x22_1 o3_1 o3_2 o3_3 o5_1 =
  bif ltI x22_1 x21_1 then
    bif inR x22_1 x20_1.length then
    bif (nth x20_1 (Int.toNat x22_1)).toBool then
    bif inR x22_1 o3_3.length then
    (run 180 [.blob ((nth o3_3 (Int.toNat x22_1)).toBlob), .blob o5_1]).bind fun r4 =>
    nilV r4.outs (consV r4.vals fun v4 vs4 =>
    nilV vs4 (bif Nat.ble ((x6_1.length + 1) * 32) 140737488355328 then
    f198_l0 run n k0 (x6_1 ++ [.blob v4.toBlob]) x20_1 x21_1 (IntKind.wrap .i64 (x22_1 + 1)) o3_1 o3_2 o3_3 v4.toBlob
  else none))
  else none
  else
    bif inR x22_1 o3_3.length then
    (run 180 [.blob o5_1, .blob ((nth o3_3 (Int.toNat x22_1)).toBlob)]).bind fun r5 =>
    nilV r5.outs (consV r5.vals fun v5 vs5 =>
    nilV vs5 (bif Nat.ble ((x6_1.length + 1) * 32) 140737488355328 then
    f198_l0 run n k0 (x6_1 ++ [.blob v5.toBlob]) x20_1 x21_1 (IntKind.wrap .i64 (x22_1 + 1)) o3_1 o3_2 o3_3 v5.toBlob
  else none))
  else none
  else none
  else
    some ⟨[.slice x6_1], [], f198_fresh⟩ := by kernel_rfl
noncomputable def f198 (run : Run) (n : Nat) (a0_1 : List UInt8) (a1_1 : Int) (a1_2 : Int) (a1_3 : List AV) : Option Res := evalK G run n f198_info.keep 0 f198_info.body (retE G f198_info) (f198_info.start [.str a0_1, .agg [.int a1_1, .int a1_2, .slice a1_3]])
theorem f198_eq (run : Run) (n : Nat) (a0_1 : List UInt8) (a1_1 : Int) (a1_2 : Int) (a1_3 : List AV) : f198 run n a0_1 a1_1 a1_2 a1_3 =
  (run 197 [.agg [.int a1_1, .int a1_2, .slice a1_3]]).bind fun r1 =>
    nilV r1.outs (consV r1.vals fun v1 vs1 =>
    nilV vs1 (bif !(eqI v1.toInt 0) then
    some ⟨[.slice []], [], f198_fresh⟩
  else
    (run 162 [.str a0_1]).bind fun r2 =>
    nilV r2.outs (consV r2.vals fun v2 vs2 =>
    nilV vs2 ((run 211 [.int a1_2, .int a1_1]).bind fun r3 =>
    bif r3.fresh then
    nilV r3.outs (consV r3.vals fun v3 vs3 =>
    nilV vs3 (f198_l0 run n n [.blob v2.toBlob] v3.toSlice (v3.toSlice.length : Int) 0 a1_1 a1_2 a1_3 v2.toBlob))
  else none)))) := by kernel_rfl
theorem f198_run (ext : Run) (n : Nat) (a0_1 : List UInt8) (a1_1 : Int) (a1_2 : Int) (a1_3 : List AV) : runE G ext (n + 1) 198 [.str a0_1, .agg [.int a1_1, .int a1_2, .slice a1_3]] = f198 (runE G ext n) n a0_1 a1_1 a1_2 a1_3 := runE_succ f198_at f198_in

noncomputable def f183 (run : Run) (n : Nat) (a0_1 : List UInt8) (a1_1 : Int) (a1_2 : Int) (a1_3 : List AV) : Option Res := evalK G run n f183_info.keep 0 f183_info.body (retE G f183_info) (f183_info.start [.str a0_1, .agg [.int a1_1, .int a1_2, .slice a1_3]])
theorem f183_eq (run : Run) (n : Nat) (a0_1 : List UInt8) (a1_1 : Int) (a1_2 : Int) (a1_3 : List AV) : f183 run n a0_1 a1_1 a1_2 a1_3 =
  (run 197 [.agg [.int a1_1, .int a1_2, .slice a1_3]]).bind fun r1 =>
    nilV r1.outs (consV r1.vals fun v1 vs1 =>
    nilV vs1 (bif !(eqI v1.toInt 0) then
    some ⟨[.blob [0, 0, 0, 0, 0, 0, 0, 0, 0, 0, 0, 0, 0, 0, 0, 0, 0, 0, 0, 0, 0, 0, 0, 0, 0, 0, 0, 0, 0, 0, 0, 0], .int v1.toInt], [], f183_fresh⟩
  else
    (run 198 [.str a0_1, .agg [.int a1_1, .int a1_2, .slice a1_3]]).bind fun r2 =>
    bif r2.fresh then
    nilV r2.outs (consV r2.vals fun v2 vs2 =>
    nilV vs2 (bif inR (IntKind.wrap .i64 ((v2.toSlice.length : Int) - 1)) v2.toSlice.length then
    (run 188 [.int (IntKind.wrap .u64 a1_2), .blob ((nth v2.toSlice (Int.toNat (IntKind.wrap .i64 ((v2.toSlice.length : Int) - 1)))).toBlob)]).bind fun r3 =>
    nilV r3.outs (consV r3.vals fun v3 vs3 =>
    nilV vs3 (some ⟨[.blob v3.toBlob, .int 0], [], f183_fresh⟩))
  else none))
  else none)) := by kernel_rfl
theorem f183_run (ext : Run) (n : Nat) (a0_1 : List UInt8) (a1_1 : Int) (a1_2 : Int) (a1_3 : List AV) : runE G ext (n + 1) 183 [.str a0_1, .agg [.int a1_1, .int a1_2, .slice a1_3]] = f183 (runE G ext n) n a0_1 a1_1 a1_2 a1_3 := runE_succ f183_at f183_in

end Go.Proofs.YtncajhkogppojaaGreat.Ev
