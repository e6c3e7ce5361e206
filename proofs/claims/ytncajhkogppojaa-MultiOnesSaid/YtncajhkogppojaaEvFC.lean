/- What the evaluator does with the functions, as programs over plain values: printed by gen.py, checked by the kernel. -/
import Derived.Test.YtncajhkogppojaaEvFA
namespace Go.Proofs.Ytncajhkogppojaa.Ev
open Go Go.RowKit
set_option maxRecDepth 100000


noncomputable def f118_l2 (run : Run) (n : Nat) (k0 : Nat) (k2 : Nat) (x7_2 : Int) (x10_1 : Int) (x11_1 : Int) (x12_1 : Int) (o2_2 : List AV) (o4_2 : List AV) (o5_2 : List AV) (o6_2 : List AV) : Option Res :=
  iterK (evalK G run n f118_keep 2 (sub [1, 1, 1, 0, 1, 0, 0, 1, 0, 0, 1, 1, 1, 1, 0, 1, 0, 0] f118_body)) f118_t2 f118_o2 (blockK 2 (seqK (evalK G run n f118_keep 1 (sub [1, 1, 1, 0, 1, 0, 0, 1, 0, 0, 1, 1, 1, 1, 1] f118_body) (blockK 1 (seqK (evalK G run n f118_keep 0 (sub [1, 1, 1, 0, 1, 0, 0, 1, 1] f118_body) (seqK (fun t => iterK (evalK G run n f118_keep 0 (sub [1, 1, 1, 0, 1, 0, 0] f118_body)) f118_t0 f118_o0 (blockK 0 (seqK (evalK G run n f118_keep 0 (sub [1, 1, 1, 1] f118_body) (retE G f118_info)) (retE G f118_info))) k0 (t.clear f118_t0 f118_o0)) (blockK 0 (seqK (evalK G run n f118_keep 0 (sub [1, 1, 1, 1] f118_body) (retE G f118_info)) (retE G f118_info))))) (seqK (fun t => iterK (evalK G run n f118_keep 0 (sub [1, 1, 1, 0, 1, 0, 0] f118_body)) f118_t0 f118_o0 (blockK 0 (seqK (evalK G run n f118_keep 0 (sub [1, 1, 1, 1] f118_body) (retE G f118_info)) (retE G f118_info))) k0 (t.clear f118_t0 f118_o0)) (blockK 0 (seqK (evalK G run n f118_keep 0 (sub [1, 1, 1, 1] f118_body) (retE G f118_info)) (retE G f118_info))))))) (blockK 1 (seqK (evalK G run n f118_keep 0 (sub [1, 1, 1, 0, 1, 0, 0, 1, 1] f118_body) (seqK (fun t => iterK (evalK G run n f118_keep 0 (sub [1, 1, 1, 0, 1, 0, 0] f118_body)) f118_t0 f118_o0 (blockK 0 (seqK (evalK G run n f118_keep 0 (sub [1, 1, 1, 1] f118_body) (retE G f118_info)) (retE G f118_info))) k0 (t.clear f118_t0 f118_o0)) (blockK 0 (seqK (evalK G run n f118_keep 0 (sub [1, 1, 1, 1] f118_body) (retE G f118_info)) (retE G f118_info))))) (seqK (fun t => iterK (evalK G run n f118_keep 0 (sub [1, 1, 1, 0, 1, 0, 0] f118_body)) f118_t0 f118_o0 (blockK 0 (seqK (evalK G run n f118_keep 0 (sub [1, 1, 1, 1] f118_body) (retE G f118_info)) (retE G f118_info))) k0 (t.clear f118_t0 f118_o0)) (blockK 0 (seqK (evalK G run n f118_keep 0 (sub [1, 1, 1, 1] f118_body) (retE G f118_info)) (retE G f118_info)))))))) k2
    ⟨[.any, .any, .ptr ⟨(.arr 8 (.int .u32)), 2, 1, []⟩, .any, .ptr ⟨(.arr 8 (.int .u32)), 4, 1, []⟩, .ptr ⟨(.arr 64 (.int .u32)), 5, 1, []⟩, .ptr ⟨(.arr 8 (.int .u32)), 6, 1, []⟩, .val (.int .i64) none (.int x7_2), .any, .any, .val (.int .u32) none (.int x10_1), .val (.int .u32) none (.int x11_1), .val (.int .i64) none (.int x12_1), .any, .any, .any, .any, .any, .any, .any, .any, .any, .any, .any, .any, .any, .any, .any, .any, .any, .any, .any, .any, .any, .any, .any, .any, .any, .any, .any, .any, .any, .any, .any, .any, .any, .any, .any, .any, .any, .any, .any, .any, .any, .any, .any, .any, .any, .any, .any, .any, .any, .any, .any, .any, .any, .any, .any, .any, .any, .any, .any, .any, .any, .any, .any, .any, .any, .any, .any, .any, .any, .any, .any, .any, .any, .any, .any, .any, .any, .any, .any, .any, .any, .any, .any, .any, .any, .any, .any, .any, .any, .any, .any, .any, .any, .any, .any, .any, .any], [⟨0, none⟩, ⟨0, none⟩, ⟨1, some ⟨(.arr 8 (.int .u32)), .agg o2_2⟩⟩, ⟨0, none⟩, ⟨1, some ⟨(.arr 8 (.int .u32)), .agg o4_2⟩⟩, ⟨1, some ⟨(.arr 64 (.int .u32)), .agg o5_2⟩⟩, ⟨1, some ⟨(.arr 8 (.int .u32)), .agg o6_2⟩⟩, ⟨0, none⟩, ⟨0, none⟩, ⟨0, none⟩, ⟨0, none⟩, ⟨0, none⟩, ⟨0, none⟩, ⟨0, none⟩, ⟨0, none⟩, ⟨0, none⟩, ⟨0, none⟩, ⟨0, none⟩, ⟨0, none⟩, ⟨0, none⟩, ⟨0, none⟩, ⟨0, none⟩, ⟨0, none⟩, ⟨0, none⟩, ⟨0, none⟩, ⟨0, none⟩, ⟨0, none⟩, ⟨0, none⟩, ⟨0, none⟩, ⟨0, none⟩, ⟨0, none⟩, ⟨0, none⟩, ⟨0, none⟩, ⟨0, none⟩, ⟨0, none⟩, ⟨0, none⟩, ⟨0, none⟩, ⟨0, none⟩, ⟨0, none⟩, ⟨0, none⟩, ⟨0, none⟩, ⟨0, none⟩, ⟨0, none⟩, ⟨0, none⟩, ⟨0, none⟩, ⟨0, none⟩, ⟨0, none⟩, ⟨0, none⟩, ⟨0, none⟩, ⟨0, none⟩, ⟨0, none⟩, ⟨0, none⟩, ⟨0, none⟩, ⟨0, none⟩, ⟨0, none⟩, ⟨0, none⟩, ⟨0, none⟩, ⟨0, none⟩, ⟨0, none⟩, ⟨0, none⟩, ⟨0, none⟩, ⟨0, none⟩, ⟨0, none⟩, ⟨0, none⟩, ⟨0, none⟩, ⟨0, none⟩, ⟨0, none⟩, ⟨0, none⟩, ⟨0, none⟩, ⟨0, none⟩, ⟨0, none⟩, ⟨0, none⟩, ⟨0, none⟩, ⟨0, none⟩, ⟨0, none⟩, ⟨0, none⟩, ⟨0, none⟩, ⟨0, none⟩, ⟨0, none⟩, ⟨0, none⟩, ⟨0, none⟩, ⟨0, none⟩, ⟨0, none⟩, ⟨0, none⟩, ⟨0, none⟩, ⟨0, none⟩, ⟨0, none⟩, ⟨0, none⟩, ⟨0, none⟩, ⟨0, none⟩, ⟨0, none⟩, ⟨0, none⟩, ⟨0, none⟩, ⟨0, none⟩, ⟨0, none⟩, ⟨0, none⟩, ⟨0, none⟩, ⟨0, none⟩, ⟨0, none⟩, ⟨0, none⟩, ⟨0, none⟩, ⟨0, none⟩, ⟨0, none⟩, ⟨0, none⟩, ⟨0, none⟩, ⟨0, none⟩, ⟨0, none⟩, ⟨0, none⟩, ⟨0, none⟩, ⟨0, none⟩], List.replicate 110 0⟩
noncomputable def f118_l4 (run : Run) (n : Nat) (_k0 : Nat) (k4 : Nat) (x13_1 : Int) (o2_5 : List AV) (o4_5 : List AV) (o6_5 : List AV) : Option Res :=
  iterK (evalK G run n f118_keep 4 (sub [1, 1, 1, 1, 0, 1, 0, 0] f118_body)) f118_t4 f118_o4 (blockK 4 (seqK (evalK G run n f118_keep 0 (sub [1, 1, 1, 1, 1] f118_body) (retE G f118_info)) (retE G f118_info))) k4
    ⟨[.any, .any, .ptr ⟨(.arr 8 (.int .u32)), 2, 1, []⟩, .any, .ptr ⟨(.arr 8 (.int .u32)), 4, 1, []⟩, .any, .ptr ⟨(.arr 8 (.int .u32)), 6, 1, []⟩, .any, .any, .any, .any, .any, .any, .val (.int .i64) none (.int x13_1), .any, .any, .any, .any, .any, .any, .any, .any, .any, .any, .any, .any, .any, .any, .any, .any, .any, .any, .any, .any, .any, .any, .any, .any, .any, .any, .any, .any, .any, .any, .any, .any, .any, .any, .any, .any, .any, .any, .any, .any, .any, .any, .any, .any, .any, .any, .any, .any, .any, .any, .any, .any, .any, .any, .any, .any, .any, .any, .any, .any, .any, .any, .any, .any, .any, .any, .any, .any, .any, .any, .any, .any, .any, .any, .any, .any, .any, .any, .any, .any, .any, .any, .any, .any, .any, .any, .any, .any, .any, .any, .any, .any, .any, .any, .any, .any], [⟨0, none⟩, ⟨0, none⟩, ⟨1, some ⟨(.arr 8 (.int .u32)), .agg o2_5⟩⟩, ⟨0, none⟩, ⟨1, some ⟨(.arr 8 (.int .u32)), .agg o4_5⟩⟩, ⟨0, none⟩, ⟨1, some ⟨(.arr 8 (.int .u32)), .agg o6_5⟩⟩, ⟨0, none⟩, ⟨0, none⟩, ⟨0, none⟩, ⟨0, none⟩, ⟨0, none⟩, ⟨0, none⟩, ⟨0, none⟩, ⟨0, none⟩, ⟨0, none⟩, ⟨0, none⟩, ⟨0, none⟩, ⟨0, none⟩, ⟨0, none⟩, ⟨0, none⟩, ⟨0, none⟩, ⟨0, none⟩, ⟨0, none⟩, ⟨0, none⟩, ⟨0, none⟩, ⟨0, none⟩, ⟨0, none⟩, ⟨0, none⟩, ⟨0, none⟩, ⟨0, none⟩, ⟨0, none⟩, ⟨0, none⟩, ⟨0, none⟩, ⟨0, none⟩, ⟨0, none⟩, ⟨0, none⟩, ⟨0, none⟩, ⟨0, none⟩, ⟨0, none⟩, ⟨0, none⟩, ⟨0, none⟩, ⟨0, none⟩, ⟨0, none⟩, ⟨0, none⟩, ⟨0, none⟩, ⟨0, none⟩, ⟨0, none⟩, ⟨0, none⟩, ⟨0, none⟩, ⟨0, none⟩, ⟨0, none⟩, ⟨0, none⟩, ⟨0, none⟩, ⟨0, none⟩, ⟨0, none⟩, ⟨0, none⟩, ⟨0, none⟩, ⟨0, none⟩, ⟨0, none⟩, ⟨0, none⟩, ⟨0, none⟩, ⟨0, none⟩, ⟨0, none⟩, ⟨0, none⟩, ⟨0, none⟩, ⟨0, none⟩, ⟨0, none⟩, ⟨0, none⟩, ⟨0, none⟩, ⟨0, none⟩, ⟨0, none⟩, ⟨0, none⟩, ⟨0, none⟩, ⟨0, none⟩, ⟨0, none⟩, ⟨0, none⟩, ⟨0, none⟩, ⟨0, none⟩, ⟨0, none⟩, ⟨0, none⟩, ⟨0, none⟩, ⟨0, none⟩, ⟨0, none⟩, ⟨0, none⟩, ⟨0, none⟩, ⟨0, none⟩, ⟨0, none⟩, ⟨0, none⟩, ⟨0, none⟩, ⟨0, none⟩, ⟨0, none⟩, ⟨0, none⟩, ⟨0, none⟩, ⟨0, none⟩, ⟨0, none⟩, ⟨0, none⟩, ⟨0, none⟩, ⟨0, none⟩, ⟨0, none⟩, ⟨0, none⟩, ⟨0, none⟩, ⟨0, none⟩, ⟨0, none⟩, ⟨0, none⟩, ⟨0, none⟩, ⟨0, none⟩, ⟨0, none⟩, ⟨0, none⟩, ⟨0, none⟩], List.replicate 110 0⟩
noncomputable def f118_l0 (run : Run) (n : Nat) (k0 : Nat) (x7_1 : Int) (o2_1 : List AV) (o4_1 : List AV) (o5_1 : List AV) (o6_1 : List AV) : Option Res :=
  iterK (evalK G run n f118_keep 0 (sub [1, 1, 1, 0, 1, 0, 0] f118_body)) f118_t0 f118_o0 (blockK 0 (seqK (evalK G run n f118_keep 0 (sub [1, 1, 1, 1] f118_body) (retE G f118_info)) (retE G f118_info))) k0
    ⟨[.any, .any, .ptr ⟨(.arr 8 (.int .u32)), 2, 1, []⟩, .any, .ptr ⟨(.arr 8 (.int .u32)), 4, 1, []⟩, .ptr ⟨(.arr 64 (.int .u32)), 5, 1, []⟩, .ptr ⟨(.arr 8 (.int .u32)), 6, 1, []⟩, .val (.int .i64) none (.int x7_1), .any, .any, .any, .any, .any, .any, .any, .any, .any, .any, .any, .any, .any, .any, .any, .any, .any, .any, .any, .any, .any, .any, .any, .any, .any, .any, .any, .any, .any, .any, .any, .any, .any, .any, .any, .any, .any, .any, .any, .any, .any, .any, .any, .any, .any, .any, .any, .any, .any, .any, .any, .any, .any, .any, .any, .any, .any, .any, .any, .any, .any, .any, .any, .any, .any, .any, .any, .any, .any, .any, .any, .any, .any, .any, .any, .any, .any, .any, .any, .any, .any, .any, .any, .any, .any, .any, .any, .any, .any, .any, .any, .any, .any, .any, .any, .any, .any, .any, .any, .any, .any, .any], [⟨0, none⟩, ⟨0, none⟩, ⟨1, some ⟨(.arr 8 (.int .u32)), .agg o2_1⟩⟩, ⟨0, none⟩, ⟨1, some ⟨(.arr 8 (.int .u32)), .agg o4_1⟩⟩, ⟨1, some ⟨(.arr 64 (.int .u32)), .agg o5_1⟩⟩, ⟨1, some ⟨(.arr 8 (.int .u32)), .agg o6_1⟩⟩, ⟨0, none⟩, ⟨0, none⟩, ⟨0, none⟩, ⟨0, none⟩, ⟨0, none⟩, ⟨0, none⟩, ⟨0, none⟩, ⟨0, none⟩, ⟨0, none⟩, ⟨0, none⟩, ⟨0, none⟩, ⟨0, none⟩, ⟨0, none⟩, ⟨0, none⟩, ⟨0, none⟩, ⟨0, none⟩, ⟨0, none⟩, ⟨0, none⟩, ⟨0, none⟩, ⟨0, none⟩, ⟨0, none⟩, ⟨0, none⟩, ⟨0, none⟩, ⟨0, none⟩, ⟨0, none⟩, ⟨0, none⟩, ⟨0, none⟩, ⟨0, none⟩, ⟨0, none⟩, ⟨0, none⟩, ⟨0, none⟩, ⟨0, none⟩, ⟨0, none⟩, ⟨0, none⟩, ⟨0, none⟩, ⟨0, none⟩, ⟨0, none⟩, ⟨0, none⟩, ⟨0, none⟩, ⟨0, none⟩, ⟨0, none⟩, ⟨0, none⟩, ⟨0, none⟩, ⟨0, none⟩, ⟨0, none⟩, ⟨0, none⟩, ⟨0, none⟩, ⟨0, none⟩, ⟨0, none⟩, ⟨0, none⟩, ⟨0, none⟩, ⟨0, none⟩, ⟨0, none⟩, ⟨0, none⟩, ⟨0, none⟩, ⟨0, none⟩, ⟨0, none⟩, ⟨0, none⟩, ⟨0, none⟩, ⟨0, none⟩, ⟨0, none⟩, ⟨0, none⟩, ⟨0, none⟩, ⟨0, none⟩, ⟨0, none⟩, ⟨0, none⟩, ⟨0, none⟩, ⟨0, none⟩, ⟨0, none⟩, ⟨0, none⟩, ⟨0, none⟩, ⟨0, none⟩, ⟨0, none⟩, ⟨0, none⟩, ⟨0, none⟩, ⟨0, none⟩, ⟨0, none⟩, ⟨0, none⟩, ⟨0, none⟩, ⟨0, none⟩, ⟨0, none⟩, ⟨0, none⟩, ⟨0, none⟩, ⟨0, none⟩, ⟨0, none⟩, ⟨0, none⟩, ⟨0, none⟩, ⟨0, none⟩, ⟨0, none⟩, ⟨0, none⟩, ⟨0, none⟩, ⟨0, none⟩, ⟨0, none⟩, ⟨0, none⟩, ⟨0, none⟩, ⟨0, none⟩, ⟨0, none⟩, ⟨0, none⟩, ⟨0, none⟩, ⟨0, none⟩, ⟨0, none⟩, ⟨0, none⟩, ⟨0, none⟩], List.replicate 110 0⟩
theorem f118_l2_eq (run : Run) (n : Nat) (k0 : Nat) (k2 : Nat) (x7_2 : Int) (x10_1 : Int) (x11_1 : Int) (x12_1 : Int) (o2_2 : List AV) (o4_2 : List AV) (o5_2 : List AV) (o6_2 : List AV) : f118_l2 run n k0 (k2 + 1) x7_2 x10_1 x11_1 x12_1 o2_2 o4_2 o5_2 o6_2 =
  bif ltI 0 x12_1 then
    bif inR (IntKind.wrap .i64 (x12_1 - 1)) 8 then
    bif inR x12_1 8 then
    f118_l2 run n k0 k2 x7_2 x10_1 x11_1 (IntKind.wrap .i64 (x12_1 - 1)) (o2_2.set (Int.toNat x12_1) (.int ((AV.fld (.agg o2_2) (Int.toNat (IntKind.wrap .i64 (x12_1 - 1)))).toInt))) o4_2 o5_2 o6_2
  else none
  else none
  else
    f118_l0 run n k0 (IntKind.wrap .i64 (x7_2 + 1)) ((o2_2.set 4 (.int (IntKind.wrap .u32 ((AV.fld (.agg o2_2) 4).toInt + x10_1)))).set 0 (.int (IntKind.wrap .u32 (x10_1 + x11_1)))) o4_2 o5_2 o6_2 := by kernel_rfl
theorem f118_l4_eq (run : Run) (n : Nat) (k0 : Nat) (k4 : Nat) (x13_1 : Int) (o2_5 : List AV) (o4_5 : List AV) (o6_5 : List AV) : f118_l4 run n k0 (k4 + 1) x13_1 o2_5 o4_5 o6_5 =
  bif ltI x13_1 8 then
    bif inR x13_1 8 then
    bif inR x13_1 8 then
    bif inR x13_1 8 then
    f118_l4 run n k0 k4 (IntKind.wrap .i64 (x13_1 + 1)) (o2_5.set (Int.toNat x13_1) (.int (IntKind.wrap .u32 ((AV.fld (.agg o2_5) (Int.toNat x13_1)).toInt + (AV.fld (.agg o6_5) (Int.toNat x13_1)).toInt)))) o4_5 o6_5
  else none
  else none
  else none
  else
    some ⟨[.agg o2_5], [], f118_fresh⟩ := by kernel_rfl
theorem f118_l0_eq (run : Run) (n : Nat) (k0 : Nat) (x7_1 : Int) (o2_1 : List AV) (o4_1 : List AV) (o5_1 : List AV) (o6_1 : List AV) : f118_l0 run n (k0 + 1) x7_1 o2_1 o4_1 o5_1 o6_1 =
  bif ltI x7_1 64 then
    (run 139 [.int ((AV.fld (.agg o2_1) 4).toInt), .int 6]).bind fun r2 =>
    nilV r2.outs (consV r2.vals fun v2 vs2 =>
    nilV vs2 ((run 139 [.int ((AV.fld (.agg o2_1) 4).toInt), .int 11]).bind fun r3 =>
    nilV r3.outs (consV r3.vals fun v3 vs3 =>
    nilV vs3 ((run 139 [.int ((AV.fld (.agg o2_1) 4).toInt), .int 25]).bind fun r4 =>
    nilV r4.outs (consV r4.vals fun v4 vs4 =>
    nilV vs4 ((run 140 [.int x7_1]).bind fun r5 =>
    nilV r5.outs (consV r5.vals fun v5 vs5 =>
    nilV vs5 (bif inR x7_1 64 then
    (run 139 [.int ((AV.fld (.agg o2_1) 0).toInt), .int 2]).bind fun r6 =>
    nilV r6.outs (consV r6.vals fun v6 vs6 =>
    nilV vs6 ((run 139 [.int ((AV.fld (.agg o2_1) 0).toInt), .int 13]).bind fun r7 =>
    nilV r7.outs (consV r7.vals fun v7 vs7 =>
    nilV vs7 ((run 139 [.int ((AV.fld (.agg o2_1) 0).toInt), .int 22]).bind fun r8 =>
    nilV r8.outs (consV r8.vals fun v8 vs8 =>
    nilV vs8 (f118_l2 run n k0 n x7_1 (IntKind.wrap .u32 (IntKind.wrap .u32 (IntKind.wrap .u32 (IntKind.wrap .u32 ((AV.fld (.agg o2_1) 7).toInt + IntKind.wrap .u32 (BitVec.toNat (BitVec.ofInt 32 (IntKind.wrap .u32 (BitVec.toNat (BitVec.ofInt 32 v2.toInt ^^^ BitVec.ofInt 32 v3.toInt))) ^^^ BitVec.ofInt 32 v4.toInt))) + IntKind.wrap .u32 (BitVec.toNat (BitVec.ofInt 32 (IntKind.wrap .u32 (BitVec.toNat (BitVec.ofInt 32 ((AV.fld (.agg o2_1) 4).toInt) &&& BitVec.ofInt 32 ((AV.fld (.agg o2_1) 5).toInt)))) ^^^ BitVec.ofInt 32 (IntKind.wrap .u32 (BitVec.toNat (BitVec.ofInt 32 (IntKind.wrap .u32 (4294967295 - (AV.fld (.agg o2_1) 4).toInt)) &&& BitVec.ofInt 32 ((AV.fld (.agg o2_1) 6).toInt))))))) + v5.toInt) + (AV.fld (.agg o5_1) (Int.toNat x7_1)).toInt)) (IntKind.wrap .u32 (IntKind.wrap .u32 (BitVec.toNat (BitVec.ofInt 32 (IntKind.wrap .u32 (BitVec.toNat (BitVec.ofInt 32 v6.toInt ^^^ BitVec.ofInt 32 v7.toInt))) ^^^ BitVec.ofInt 32 v8.toInt)) + IntKind.wrap .u32 (BitVec.toNat (BitVec.ofInt 32 (IntKind.wrap .u32 (BitVec.toNat (BitVec.ofInt 32 (IntKind.wrap .u32 (BitVec.toNat (BitVec.ofInt 32 ((AV.fld (.agg o2_1) 0).toInt) &&& BitVec.ofInt 32 ((AV.fld (.agg o2_1) 1).toInt)))) ^^^ BitVec.ofInt 32 (IntKind.wrap .u32 (BitVec.toNat (BitVec.ofInt 32 ((AV.fld (.agg o2_1) 0).toInt) &&& BitVec.ofInt 32 ((AV.fld (.agg o2_1) 2).toInt))))))) ^^^ BitVec.ofInt 32 (IntKind.wrap .u32 (BitVec.toNat (BitVec.ofInt 32 ((AV.fld (.agg o2_1) 1).toInt) &&& BitVec.ofInt 32 ((AV.fld (.agg o2_1) 2).toInt)))))))) 7 o2_1 o4_1 o5_1 o6_1))))))
  else none))))))))
  else
    f118_l4 run n k0 n 0 o2_1 o4_1 o6_1 := by kernel_rfl
noncomputable def f118 (run : Run) (n : Nat) (a0_1 : List AV) (a1_1 : List UInt8) : Option Res := evalK G run n f118_info.keep 0 f118_info.body (retE G f118_info) (f118_info.start [.agg a0_1, .str a1_1])
theorem f118_eq (run : Run) (n : Nat) (a0_1 : List AV) (a1_1 : List UInt8) : f118 run n a0_1 a1_1 =
  (run 138 [.str a1_1]).bind fun r1 =>
    nilV r1.outs (consV r1.vals fun v1 vs1 =>
    nilV vs1 (f118_l0 run n n 0 a0_1 (List.replicate 8 (.int 0)) v1.toAgg a0_1)) := by kernel_rfl
theorem f118_run (ext : Run) (n : Nat) (a0_1 : List AV) (a1_1 : List UInt8) : runE G ext (n + 1) 118 [.agg a0_1, .str a1_1] = f118 (runE G ext n) n a0_1 a1_1 := runE_succ f118_at f118_in

noncomputable def f85_l4 (run : Run) (n : Nat) (_k0 : Nat) (k2 : Nat) (k4 : Nat) (x6_2 : Int) (x7_1 : List UInt8) (x8_1 : Int) (o2_4 : List UInt8) (o3_4 : List AV) (o5_2 : List UInt8) : Option Res :=
  iterK (evalK G run n f85_keep 4 (sub [1, 1, 1, 1, 1, 0, 1, 0, 0, 1, 0, 0, 1, 1, 0, 0] f85_body)) f85_t4 f85_o4 (blockK 4 (blockK 3 (seqK (evalK G run n f85_keep 2 (sub [1, 1, 1, 1, 1, 0, 1, 0, 0, 1, 1] f85_body) (seqK (fun t => iterK (evalK G run n f85_keep 2 (sub [1, 1, 1, 1, 1, 0, 1, 0, 0] f85_body)) f85_t2 f85_o2 (blockK 2 (seqK (evalK G run n f85_keep 0 (sub [1, 1, 1, 1, 1, 1] f85_body) (retE G f85_info)) (retE G f85_info))) k2 (t.clear f85_t2 f85_o2)) (blockK 2 (seqK (evalK G run n f85_keep 0 (sub [1, 1, 1, 1, 1, 1] f85_body) (retE G f85_info)) (retE G f85_info))))) (seqK (fun t => iterK (evalK G run n f85_keep 2 (sub [1, 1, 1, 1, 1, 0, 1, 0, 0] f85_body)) f85_t2 f85_o2 (blockK 2 (seqK (evalK G run n f85_keep 0 (sub [1, 1, 1, 1, 1, 1] f85_body) (retE G f85_info)) (retE G f85_info))) k2 (t.clear f85_t2 f85_o2)) (blockK 2 (seqK (evalK G run n f85_keep 0 (sub [1, 1, 1, 1, 1, 1] f85_body) (retE G f85_info)) (retE G f85_info))))))) k4
    ⟨[.any, .any, .ptr ⟨(.blob 32), 2, 1, []⟩, .ptr ⟨(.arr 8 (.int .u32)), 3, 1, []⟩, .any, .ptr ⟨(.blob 32), 5, 1, []⟩, .val (.int .i64) none (.int x6_2), .val .str none (.str x7_1), .val (.int .i64) none (.int x8_1), .any, .any, .any, .any, .any, .any, .any, .any, .any, .any, .any, .any, .any, .any, .any, .any, .any, .any, .any, .any, .any, .any, .any, .any, .any, .any, .any, .any, .any, .any, .any, .any, .any, .any, .any, .any, .any, .any, .any, .any, .any, .any], [⟨0, none⟩, ⟨0, none⟩, ⟨1, some ⟨(.blob 32), .blob o2_4⟩⟩, ⟨1, some ⟨(.arr 8 (.int .u32)), .agg o3_4⟩⟩, ⟨0, none⟩, ⟨1, some ⟨(.blob 32), .blob o5_2⟩⟩, ⟨0, none⟩, ⟨0, none⟩, ⟨0, none⟩, ⟨0, none⟩, ⟨0, none⟩, ⟨0, none⟩, ⟨0, none⟩, ⟨0, none⟩, ⟨0, none⟩, ⟨0, none⟩, ⟨0, none⟩, ⟨0, none⟩, ⟨0, none⟩, ⟨0, none⟩, ⟨0, none⟩, ⟨0, none⟩, ⟨0, none⟩, ⟨0, none⟩, ⟨0, none⟩, ⟨0, none⟩, ⟨0, none⟩, ⟨0, none⟩, ⟨0, none⟩, ⟨0, none⟩, ⟨0, none⟩, ⟨0, none⟩, ⟨0, none⟩, ⟨0, none⟩, ⟨0, none⟩, ⟨0, none⟩, ⟨0, none⟩, ⟨0, none⟩, ⟨0, none⟩, ⟨0, none⟩, ⟨0, none⟩, ⟨0, none⟩, ⟨0, none⟩, ⟨0, none⟩, ⟨0, none⟩, ⟨0, none⟩, ⟨0, none⟩, ⟨0, none⟩, ⟨0, none⟩, ⟨0, none⟩, ⟨0, none⟩], List.replicate 51 0⟩
noncomputable def f85_l2 (run : Run) (n : Nat) (_k0 : Nat) (k2 : Nat) (x6_1 : Int) (o2_3 : List UInt8) (o3_3 : List AV) (o5_1 : List UInt8) : Option Res :=
  iterK (evalK G run n f85_keep 2 (sub [1, 1, 1, 1, 1, 0, 1, 0, 0] f85_body)) f85_t2 f85_o2 (blockK 2 (seqK (evalK G run n f85_keep 0 (sub [1, 1, 1, 1, 1, 1] f85_body) (retE G f85_info)) (retE G f85_info))) k2
    ⟨[.any, .any, .ptr ⟨(.blob 32), 2, 1, []⟩, .ptr ⟨(.arr 8 (.int .u32)), 3, 1, []⟩, .any, .ptr ⟨(.blob 32), 5, 1, []⟩, .val (.int .i64) none (.int x6_1), .any, .any, .any, .any, .any, .any, .any, .any, .any, .any, .any, .any, .any, .any, .any, .any, .any, .any, .any, .any, .any, .any, .any, .any, .any, .any, .any, .any, .any, .any, .any, .any, .any, .any, .any, .any, .any, .any, .any, .any, .any, .any, .any, .any], [⟨0, none⟩, ⟨0, none⟩, ⟨1, some ⟨(.blob 32), .blob o2_3⟩⟩, ⟨1, some ⟨(.arr 8 (.int .u32)), .agg o3_3⟩⟩, ⟨0, none⟩, ⟨1, some ⟨(.blob 32), .blob o5_1⟩⟩, ⟨0, none⟩, ⟨0, none⟩, ⟨0, none⟩, ⟨0, none⟩, ⟨0, none⟩, ⟨0, none⟩, ⟨0, none⟩, ⟨0, none⟩, ⟨0, none⟩, ⟨0, none⟩, ⟨0, none⟩, ⟨0, none⟩, ⟨0, none⟩, ⟨0, none⟩, ⟨0, none⟩, ⟨0, none⟩, ⟨0, none⟩, ⟨0, none⟩, ⟨0, none⟩, ⟨0, none⟩, ⟨0, none⟩, ⟨0, none⟩, ⟨0, none⟩, ⟨0, none⟩, ⟨0, none⟩, ⟨0, none⟩, ⟨0, none⟩, ⟨0, none⟩, ⟨0, none⟩, ⟨0, none⟩, ⟨0, none⟩, ⟨0, none⟩, ⟨0, none⟩, ⟨0, none⟩, ⟨0, none⟩, ⟨0, none⟩, ⟨0, none⟩, ⟨0, none⟩, ⟨0, none⟩, ⟨0, none⟩, ⟨0, none⟩, ⟨0, none⟩, ⟨0, none⟩, ⟨0, none⟩, ⟨0, none⟩], List.replicate 51 0⟩
noncomputable def f85_l0 (run : Run) (n : Nat) (k0 : Nat) (x0_1 : List UInt8) (x4_1 : Int) (o2_1 : List UInt8) (o3_1 : List AV) : Option Res :=
  iterK (evalK G run n f85_keep 0 (sub [1, 1, 1, 0, 1, 0, 0] f85_body)) f85_t0 f85_o0 (blockK 0 (seqK (evalK G run n f85_keep 0 (sub [1, 1, 1, 1] f85_body) (retE G f85_info)) (retE G f85_info))) k0
    ⟨[.val .str none (.str x0_1), .any, .ptr ⟨(.blob 32), 2, 1, []⟩, .ptr ⟨(.arr 8 (.int .u32)), 3, 1, []⟩, .val (.int .i64) none (.int x4_1), .any, .any, .any, .any, .any, .any, .any, .any, .any, .any, .any, .any, .any, .any, .any, .any, .any, .any, .any, .any, .any, .any, .any, .any, .any, .any, .any, .any, .any, .any, .any, .any, .any, .any, .any, .any, .any, .any, .any, .any, .any, .any, .any, .any, .any, .any], [⟨0, none⟩, ⟨0, none⟩, ⟨1, some ⟨(.blob 32), .blob o2_1⟩⟩, ⟨1, some ⟨(.arr 8 (.int .u32)), .agg o3_1⟩⟩, ⟨0, none⟩, ⟨0, none⟩, ⟨0, none⟩, ⟨0, none⟩, ⟨0, none⟩, ⟨0, none⟩, ⟨0, none⟩, ⟨0, none⟩, ⟨0, none⟩, ⟨0, none⟩, ⟨0, none⟩, ⟨0, none⟩, ⟨0, none⟩, ⟨0, none⟩, ⟨0, none⟩, ⟨0, none⟩, ⟨0, none⟩, ⟨0, none⟩, ⟨0, none⟩, ⟨0, none⟩, ⟨0, none⟩, ⟨0, none⟩, ⟨0, none⟩, ⟨0, none⟩, ⟨0, none⟩, ⟨0, none⟩, ⟨0, none⟩, ⟨0, none⟩, ⟨0, none⟩, ⟨0, none⟩, ⟨0, none⟩, ⟨0, none⟩, ⟨0, none⟩, ⟨0, none⟩, ⟨0, none⟩, ⟨0, none⟩, ⟨0, none⟩, ⟨0, none⟩, ⟨0, none⟩, ⟨0, none⟩, ⟨0, none⟩, ⟨0, none⟩, ⟨0, none⟩, ⟨0, none⟩, ⟨0, none⟩, ⟨0, none⟩, ⟨0, none⟩], List.replicate 51 0⟩
theorem f85_l4_eq (run : Run) (n : Nat) (k0 : Nat) (k2 : Nat) (k4 : Nat) (x6_2 : Int) (x7_1 : List UInt8) (x8_1 : Int) (o2_4 : List UInt8) (o3_4 : List AV) (o5_2 : List UInt8) : f85_l4 run n k0 k2 (k4 + 1) x6_2 x7_1 x8_1 o2_4 o3_4 o5_2 =
  bif ltI x8_1 4 then
    bif inR x8_1 x7_1.length then
    bif inR (IntKind.wrap .i64 (IntKind.wrap .i64 (4 * x6_2) + x8_1)) 32 then
    f85_l4 run n k0 k2 k4 x6_2 x7_1 (IntKind.wrap .i64 (x8_1 + 1)) o2_4 o3_4 (o5_2.set (Int.toNat (IntKind.wrap .i64 (IntKind.wrap .i64 (4 * x6_2) + x8_1))) (UInt8.ofNat (Int.toNat ((x7_1.getD (Int.toNat x8_1) 0).toNat : Int))))
  else none
  else none
  else
    f85_l2 run n k0 k2 (IntKind.wrap .i64 (x6_2 + 1)) o2_4 o3_4 o5_2 := by kernel_rfl
theorem f85_l2_eq (run : Run) (n : Nat) (k0 : Nat) (k2 : Nat) (x6_1 : Int) (o2_3 : List UInt8) (o3_3 : List AV) (o5_1 : List UInt8) : f85_l2 run n k0 (k2 + 1) x6_1 o2_3 o3_3 o5_1 =
  bif ltI x6_1 8 then
    bif inR x6_1 8 then
    (run 119 [.int (IntKind.wrap .u64 ((AV.fld (.agg o3_3) (Int.toNat x6_1)).toInt)), .int 4]).bind fun r4 =>
    nilV r4.outs (consV r4.vals fun v4 vs4 =>
    nilV vs4 (f85_l4 run n k0 k2 n x6_1 v4.toStr 0 o2_3 o3_3 o5_1))
  else none
  else
    some ⟨[.blob o5_1], [], f85_fresh⟩ := by kernel_rfl
theorem f85_l0_eq (run : Run) (n : Nat) (k0 : Nat) (x0_1 : List UInt8) (x4_1 : Int) (o2_1 : List UInt8) (o3_1 : List AV) : f85_l0 run n (k0 + 1) x0_1 x4_1 o2_1 o3_1 =
  bif ltI x4_1 (x0_1.length : Int) then
    bif boundsOk x4_1 (IntKind.wrap .i64 (x4_1 + 64)) (x0_1.length : Int) (x0_1.length : Int) then
    (run 118 [.agg o3_1, .str (List.drop (Int.toNat x4_1) (List.take (Int.toNat (IntKind.wrap .i64 (x4_1 + 64))) x0_1))]).bind fun r3 =>
    nilV r3.outs (consV r3.vals fun v3 vs3 =>
    nilV vs3 (f85_l0 run n k0 x0_1 (IntKind.wrap .i64 (x4_1 + 64)) o2_1 v3.toAgg))
  else none
  else
    f85_l2 run n k0 n 0 o2_1 o3_1 (List.replicate 32 0) := by kernel_rfl
noncomputable def f85 (run : Run) (n : Nat) (a0_1 : List UInt8) : Option Res := evalK G run n f85_info.keep 0 f85_info.body (retE G f85_info) (f85_info.start [.str a0_1])
theorem f85_eq (run : Run) (n : Nat) (a0_1 : List UInt8) : f85 run n a0_1 =
  (run 116 []).bind fun r1 =>
    nilV r1.outs (consV r1.vals fun v1 vs1 =>
    nilV vs1 ((run 117 [.int (IntKind.wrap .u64 (a0_1.length : Int))]).bind fun r2 =>
    nilV r2.outs (consV r2.vals fun v2 vs2 =>
    nilV vs2 (bif Nat.ble (a0_1.length + v2.toStr.length) maxLen then
    f85_l0 run n n (a0_1 ++ v2.toStr) 0 (List.replicate 32 0) v1.toAgg
  else none)))) := by kernel_rfl
theorem f85_run (ext : Run) (n : Nat) (a0_1 : List UInt8) : runE G ext (n + 1) 85 [.str a0_1] = f85 (runE G ext n) n a0_1 := runE_succ f85_at f85_in

noncomputable def f89 (run : Run) (n : Nat) (a0_1 : List UInt8) : Option Res := evalK G run n f89_info.keep 0 f89_info.body (retE G f89_info) (f89_info.start [.str a0_1])
theorem f89_eq (run : Run) (n : Nat) (a0_1 : List UInt8) : f89 run n a0_1 =
  (run 123 [.str a0_1]).bind fun r1 =>
    nilV r1.outs (consV r1.vals fun v1 vs1 =>
    nilV vs1 ((run 85 [.str v1.toStr]).bind fun r2 =>
    nilV r2.outs (consV r2.vals fun v2 vs2 =>
    nilV vs2 (some ⟨[.blob v2.toBlob], [], f89_fresh⟩)))) := by kernel_rfl
theorem f89_run (ext : Run) (n : Nat) (a0_1 : List UInt8) : runE G ext (n + 1) 89 [.str a0_1] = f89 (runE G ext n) n a0_1 := runE_succ f89_at f89_in

noncomputable def f48_l0 (run : Run) (n : Nat) (k0 : Nat) (x0_1 : List AV) (x3_1 : List AV) (x4_1 : Int) : Option Res :=
  iterK (evalK G run n f48_keep 0 (sub [1, 1, 0, 1, 0, 0] f48_body)) f48_t0 f48_o0 (blockK 0 (seqK (evalK G run n f48_keep 0 (sub [1, 1, 1] f48_body) (retE G f48_info)) (retE G f48_info))) k0
    ⟨[.val (.slice .str) none (.slice x0_1), .any, .any, .val (.slice (.blob 32)) (some (3, 0)) (.slice x3_1), .val (.int .i64) none (.int x4_1), .any, .any, .any, .any, .any, .any, .any, .any, .any, .any, .any, .any, .any, .any, .any], [⟨0, none⟩, ⟨0, none⟩, ⟨0, none⟩, ⟨0, none⟩, ⟨0, none⟩, ⟨0, none⟩, ⟨0, none⟩, ⟨0, none⟩, ⟨0, none⟩, ⟨0, none⟩, ⟨0, none⟩, ⟨0, none⟩, ⟨0, none⟩, ⟨0, none⟩, ⟨0, none⟩, ⟨0, none⟩, ⟨0, none⟩, ⟨0, none⟩, ⟨0, none⟩, ⟨0, none⟩], List.replicate 20 0⟩
theorem f48_l0_eq (run : Run) (n : Nat) (k0 : Nat) (x0_1 : List AV) (x3_1 : List AV) (x4_1 : Int) : f48_l0 run n (k0 + 1) x0_1 x3_1 x4_1 =
  bif ltI x4_1 (x0_1.length : Int) then
    bif inR x4_1 x0_1.length then
    (run 89 [.str ((nth x0_1 (Int.toNat x4_1)).toStr)]).bind fun r1 =>
    nilV r1.outs (consV r1.vals fun v1 vs1 =>
    nilV vs1 (bif Nat.ble ((x3_1.length + 1) * 32) 140737488355328 then
    f48_l0 run n k0 x0_1 (x3_1 ++ [.blob v1.toBlob]) (IntKind.wrap .i64 (x4_1 + 1))
  else none))
  else none
  else
    some ⟨[.slice x3_1], [], f48_fresh⟩ := by kernel_rfl
noncomputable def f48 (run : Run) (n : Nat) (a0_1 : List AV) : Option Res := evalK G run n f48_info.keep 0 f48_info.body (retE G f48_info) (f48_info.start [.slice a0_1])
theorem f48_eq (run : Run) (n : Nat) (a0_1 : List AV) : f48 run n a0_1 =
  f48_l0 run n n a0_1 [] 0 := by kernel_rfl
theorem f48_run (ext : Run) (n : Nat) (a0_1 : List AV) : runE G ext (n + 1) 48 [.slice a0_1] = f48 (runE G ext n) n a0_1 := runE_succ f48_at f48_in

noncomputable def f87_l0 (run : Run) (n : Nat) (k0 : Nat) (x0_1 : Int) (x3_1 : Int) (x4_1 : Int) : Option Res :=
  iterK (evalK G run n f87_keep 0 (sub [1, 1, 0, 1, 0, 0] f87_body)) f87_t0 f87_o0 (blockK 0 (seqK (evalK G run n f87_keep 0 (sub [1, 1, 1] f87_body) (retE G f87_info)) (retE G f87_info))) k0
    ⟨[.val (.int .i64) none (.int x0_1), .any, .any, .val (.int .i64) none (.int x3_1), .val (.int .i64) none (.int x4_1), .any, .any, .any, .any, .any, .any, .any, .any, .any, .any, .any], [⟨0, none⟩, ⟨0, none⟩, ⟨0, none⟩, ⟨0, none⟩, ⟨0, none⟩, ⟨0, none⟩, ⟨0, none⟩, ⟨0, none⟩, ⟨0, none⟩, ⟨0, none⟩, ⟨0, none⟩, ⟨0, none⟩, ⟨0, none⟩, ⟨0, none⟩, ⟨0, none⟩, ⟨0, none⟩], List.replicate 16 0⟩
theorem f87_l0_eq (run : Run) (n : Nat) (k0 : Nat) (x0_1 : Int) (x3_1 : Int) (x4_1 : Int) : f87_l0 run n (k0 + 1) x0_1 x3_1 x4_1 =
  bif ltI x4_1 x0_1 then
    bif ltI 0 x4_1 then
    f87_l0 run n k0 x0_1 x4_1 (IntKind.wrap .i64 (x4_1 * 2))
  else
    some ⟨[.int x3_1], [], f87_fresh⟩
  else
    some ⟨[.int x3_1], [], f87_fresh⟩ := by kernel_rfl
noncomputable def f87 (run : Run) (n : Nat) (a0_1 : Int) : Option Res := evalK G run n f87_info.keep 0 f87_info.body (retE G f87_info) (f87_info.start [.int a0_1])
theorem f87_eq (run : Run) (n : Nat) (a0_1 : Int) : f87 run n a0_1 =
  f87_l0 run n n a0_1 0 1 := by kernel_rfl
theorem f87_run (ext : Run) (n : Nat) (a0_1 : Int) : runE G ext (n + 1) 87 [.int a0_1] = f87 (runE G ext n) n a0_1 := runE_succ f87_at f87_in

noncomputable def f121_l0 (run : Run) (n : Nat) (k0 : Nat) (x4_1 : Int) (o1_1 : List UInt8) (o5_1 : List AV) : Option Res :=
  iterK (evalK G run n f121_keep 0 (sub [1, 1, 0, 1, 0, 0] f121_body)) f121_t0 f121_o0 (blockK 0 (seqK (evalK G run n f121_keep 0 (sub [1, 1, 1] f121_body) (retE G f121_info)) (retE G f121_info))) k0
    ⟨[.any, .ptr ⟨(.blob 32), 1, 1, []⟩, .any, .ref ⟨(.arr 32 (.int .u8)), 5, 1, []⟩ 0 32, .val (.int .i64) none (.int x4_1), .any, .any, .any, .any, .any, .any, .any, .any, .any, .any, .any, .any, .any], [⟨0, none⟩, ⟨1, some ⟨(.blob 32), .blob o1_1⟩⟩, ⟨0, none⟩, ⟨0, none⟩, ⟨0, none⟩, ⟨1, some ⟨(.arr 32 (.int .u8)), .agg o5_1⟩⟩, ⟨0, none⟩, ⟨0, none⟩, ⟨0, none⟩, ⟨0, none⟩, ⟨0, none⟩, ⟨0, none⟩, ⟨0, none⟩, ⟨0, none⟩, ⟨0, none⟩, ⟨0, none⟩, ⟨0, none⟩, ⟨0, none⟩], List.replicate 18 0⟩
theorem f121_l0_eq (run : Run) (n : Nat) (k0 : Nat) (x4_1 : Int) (o1_1 : List UInt8) (o5_1 : List AV) : f121_l0 run n (k0 + 1) x4_1 o1_1 o5_1 =
  bif ltI x4_1 32 then
    bif inR x4_1 32 then
    bif inR x4_1 32 then
    f121_l0 run n k0 (IntKind.wrap .i64 (x4_1 + 1)) o1_1 (o5_1.set (0 + (Int.toNat x4_1)) (.int (((o1_1).getD (Int.toNat x4_1) 0).toNat : Int)))
  else none
  else none
  else
    some ⟨[.str (bytesOf (List.drop 0 (List.take 32 o5_1)))], [], f121_fresh⟩ := by kernel_rfl
noncomputable def f121 (run : Run) (n : Nat) (a0_1 : List UInt8) : Option Res := evalK G run n f121_info.keep 0 f121_info.body (retE G f121_info) (f121_info.start [.blob a0_1])
theorem f121_eq (run : Run) (n : Nat) (a0_1 : List UInt8) : f121 run n a0_1 =
  f121_l0 run n n 0 a0_1 (List.replicate 32 (.int 0)) := by kernel_rfl
theorem f121_run (ext : Run) (n : Nat) (a0_1 : List UInt8) : runE G ext (n + 1) 121 [.blob a0_1] = f121 (runE G ext n) n a0_1 := runE_succ f121_at f121_in

noncomputable def f122 (run : Run) (n : Nat) (a0_1 : List UInt8) (a1_1 : List UInt8) : Option Res := evalK G run n f122_info.keep 0 f122_info.body (retE G f122_info) (f122_info.start [.blob a0_1, .blob a1_1])
theorem f122_eq (run : Run) (n : Nat) (a0_1 : List UInt8) (a1_1 : List UInt8) : f122 run n a0_1 a1_1 =
  (run 120 [.int 1]).bind fun r1 =>
    nilV r1.outs (consV r1.vals fun v1 vs1 =>
    nilV vs1 ((run 121 [.blob a0_1]).bind fun r2 =>
    nilV r2.outs (consV r2.vals fun v2 vs2 =>
    nilV vs2 (bif Nat.ble (v1.toStr.length + v2.toStr.length) maxLen then
    (run 121 [.blob a1_1]).bind fun r3 =>
    nilV r3.outs (consV r3.vals fun v3 vs3 =>
    nilV vs3 (bif Nat.ble ((v1.toStr ++ v2.toStr).length + v3.toStr.length) maxLen then
    some ⟨[.str ((v1.toStr ++ v2.toStr) ++ v3.toStr)], [], f122_fresh⟩
  else none))
  else none)))) := by kernel_rfl
theorem f122_run (ext : Run) (n : Nat) (a0_1 : List UInt8) (a1_1 : List UInt8) : runE G ext (n + 1) 122 [.blob a0_1, .blob a1_1] = f122 (runE G ext n) n a0_1 a1_1 := runE_succ f122_at f122_in

noncomputable def f88 (run : Run) (n : Nat) (a0_1 : List UInt8) (a1_1 : List UInt8) : Option Res := evalK G run n f88_info.keep 0 f88_info.body (retE G f88_info) (f88_info.start [.blob a0_1, .blob a1_1])
theorem f88_eq (run : Run) (n : Nat) (a0_1 : List UInt8) (a1_1 : List UInt8) : f88 run n a0_1 a1_1 =
  (run 122 [.blob a0_1, .blob a1_1]).bind fun r1 =>
    nilV r1.outs (consV r1.vals fun v1 vs1 =>
    nilV vs1 ((run 85 [.str v1.toStr]).bind fun r2 =>
    nilV r2.outs (consV r2.vals fun v2 vs2 =>
    nilV vs2 (some ⟨[.blob v2.toBlob], [], f88_fresh⟩)))) := by kernel_rfl
theorem f88_run (ext : Run) (n : Nat) (a0_1 : List UInt8) (a1_1 : List UInt8) : runE G ext (n + 1) 88 [.blob a0_1, .blob a1_1] = f88 (runE G ext n) n a0_1 a1_1 := runE_succ f88_at f88_in

noncomputable def f47 (run : Run) (n : Nat) (a0_1 : List AV) : Option Res := evalK G run n f47_info.keep 0 f47_info.body (retE G f47_info) (f47_info.start [.slice a0_1])
theorem f47_eq (run : Run) (n : Nat) (a0_1 : List AV) : f47 run n a0_1 =
  bif eqI (a0_1.length : Int) 0 then
    some ⟨[.blob [0, 0, 0, 0, 0, 0, 0, 0, 0, 0, 0, 0, 0, 0, 0, 0, 0, 0, 0, 0, 0, 0, 0, 0, 0, 0, 0, 0, 0, 0, 0, 0]], [], f47_fresh⟩
  else
    bif eqI (a0_1.length : Int) 1 then
    bif inR 0 a0_1.length then
    some ⟨[.blob ((nth a0_1 0).toBlob)], [], f47_fresh⟩
  else none
  else
    (run 87 [.int (a0_1.length : Int)]).bind fun r1 =>
    nilV r1.outs (consV r1.vals fun v1 vs1 =>
    nilV vs1 (bif boundsOk 0 v1.toInt (a0_1.length : Int) (a0_1.length : Int) && true then
    (run 47 [.slice (List.drop 0 (List.take (Int.toNat v1.toInt) a0_1))]).bind fun r2 =>
    nilV r2.outs (consV r2.vals fun v2 vs2 =>
    nilV vs2 (bif boundsOk v1.toInt (a0_1.length : Int) (a0_1.length : Int) (a0_1.length : Int) && true then
    (run 47 [.slice (List.drop (Int.toNat v1.toInt) (List.take (Int.toNat (a0_1.length : Int)) a0_1))]).bind fun r3 =>
    nilV r3.outs (consV r3.vals fun v3 vs3 =>
    nilV vs3 ((run 88 [.blob v2.toBlob, .blob v3.toBlob]).bind fun r4 =>
    nilV r4.outs (consV r4.vals fun v4 vs4 =>
    nilV vs4 (some ⟨[.blob v4.toBlob], [], f47_fresh⟩))))
  else none))
  else none)) := by kernel_rfl
theorem f47_run (ext : Run) (n : Nat) (a0_1 : List AV) : runE G ext (n + 1) 47 [.slice a0_1] = f47 (runE G ext n) n a0_1 := runE_succ f47_at f47_in

noncomputable def f86 (run : Run) (n : Nat) (a0_1 : Int) (a1_1 : List UInt8) : Option Res := evalK G run n f86_info.keep 0 f86_info.body (retE G f86_info) (f86_info.start [.int a0_1, .blob a1_1])
theorem f86_eq (run : Run) (n : Nat) (a0_1 : Int) (a1_1 : List UInt8) : f86 run n a0_1 a1_1 =
  (run 120 [.int 2]).bind fun r1 =>
    nilV r1.outs (consV r1.vals fun v1 vs1 =>
    nilV vs1 ((run 119 [.int a0_1, .int 8]).bind fun r2 =>
    nilV r2.outs (consV r2.vals fun v2 vs2 =>
    nilV vs2 (bif Nat.ble (v1.toStr.length + v2.toStr.length) maxLen then
    (run 121 [.blob a1_1]).bind fun r3 =>
    nilV r3.outs (consV r3.vals fun v3 vs3 =>
    nilV vs3 (bif Nat.ble ((v1.toStr ++ v2.toStr).length + v3.toStr.length) maxLen then
    some ⟨[.str ((v1.toStr ++ v2.toStr) ++ v3.toStr)], [], f86_fresh⟩
  else none))
  else none)))) := by kernel_rfl
theorem f86_run (ext : Run) (n : Nat) (a0_1 : Int) (a1_1 : List UInt8) : runE G ext (n + 1) 86 [.int a0_1, .blob a1_1] = f86 (runE G ext n) n a0_1 a1_1 := runE_succ f86_at f86_in

noncomputable def f46 (run : Run) (n : Nat) (a0_1 : Int) (a1_1 : List UInt8) : Option Res := evalK G run n f46_info.keep 0 f46_info.body (retE G f46_info) (f46_info.start [.int a0_1, .blob a1_1])
theorem f46_eq (run : Run) (n : Nat) (a0_1 : Int) (a1_1 : List UInt8) : f46 run n a0_1 a1_1 =
  (run 86 [.int a0_1, .blob a1_1]).bind fun r1 =>
    nilV r1.outs (consV r1.vals fun v1 vs1 =>
    nilV vs1 ((run 85 [.str v1.toStr]).bind fun r2 =>
    nilV r2.outs (consV r2.vals fun v2 vs2 =>
    nilV vs2 (some ⟨[.blob v2.toBlob], [], f46_fresh⟩)))) := by kernel_rfl
theorem f46_run (ext : Run) (n : Nat) (a0_1 : Int) (a1_1 : List UInt8) : runE G ext (n + 1) 46 [.int a0_1, .blob a1_1] = f46 (runE G ext n) n a0_1 a1_1 := runE_succ f46_at f46_in

noncomputable def f12 (run : Run) (n : Nat) (a0_1 : List AV) : Option Res := evalK G run n f12_info.keep 0 f12_info.body (retE G f12_info) (f12_info.start [.slice a0_1])
theorem f12_eq (run : Run) (n : Nat) (a0_1 : List AV) : f12 run n a0_1 =
  (run 48 [.slice a0_1]).bind fun r1 =>
    bif r1.fresh then
    nilV r1.outs (consV r1.vals fun v1 vs1 =>
    nilV vs1 ((run 47 [.slice v1.toSlice]).bind fun r2 =>
    nilV r2.outs (consV r2.vals fun v2 vs2 =>
    nilV vs2 ((run 46 [.int (IntKind.wrap .u64 (a0_1.length : Int)), .blob v2.toBlob]).bind fun r3 =>
    nilV r3.outs (consV r3.vals fun v3 vs3 =>
    nilV vs3 (some ⟨[.blob v3.toBlob], [], f12_fresh⟩))))))
  else none := by kernel_rfl
theorem f12_run (ext : Run) (n : Nat) (a0_1 : List AV) : runE G ext (n + 1) 12 [.slice a0_1] = f12 (runE G ext n) n a0_1 := runE_succ f12_at f12_in

noncomputable def f50 (run : Run) (n : Nat) (a0_1 : Int) (a1_1 : Int) (a1_2 : List AV) (a1_3 : List AV) : Option Res := evalK G run n f50_info.keep 0 f50_info.body (retE G f50_info) (f50_info.start [.int a0_1, .agg [.int a1_1, .slice a1_2, .slice a1_3]])
theorem f50_eq (run : Run) (n : Nat) (a0_1 : Int) (a1_1 : Int) (a1_2 : List AV) (a1_3 : List AV) : f50 run n a0_1 a1_1 a1_2 a1_3 =
  bif ltI a1_1 1 then
    some ⟨[.int 3], [], f50_fresh⟩
  else
    bif ltI 1048576 a1_1 then
    some ⟨[.int 3], [], f50_fresh⟩
  else
    (run 43 [.int a1_1, .slice a1_2]).bind fun r1 =>
    nilV r1.outs (consV r1.vals fun v1 vs1 =>
    nilV vs1 (bif !v1.toBool then
    some ⟨[.int 3], [], f50_fresh⟩
  else
    bif !(eqI a0_1 (a1_2.length : Int)) then
    some ⟨[.int 2], [], f50_fresh⟩
  else
    (run 81 [.int a1_1, .slice a1_2]).bind fun r2 =>
    nilV r2.outs (consV r2.vals fun v2 vs2 =>
    nilV vs2 (bif !(eqI (a1_3.length : Int) v2.toInt) then
    some ⟨[.int 2], [], f50_fresh⟩
  else
    some ⟨[.int 0], [], f50_fresh⟩)))) := by kernel_rfl
theorem f50_run (ext : Run) (n : Nat) (a0_1 : Int) (a1_1 : Int) (a1_2 : List AV) (a1_3 : List AV) : runE G ext (n + 1) 50 [.int a0_1, .agg [.int a1_1, .slice a1_2, .slice a1_3]] = f50 (runE G ext n) n a0_1 a1_1 a1_2 a1_3 := runE_succ f50_at f50_in

noncomputable def f54 (run : Run) (n : Nat) (a0_1 : List AV) (a0_2 : List AV) (a1_1 : Int) (a2_1 : List AV) : Option Res := evalK G run n f54_info.keep 0 f54_info.body (retE G f54_info) (f54_info.start [.agg [.slice a0_1, .slice a0_2], .int a1_1, .slice a2_1])
theorem f54_eq (run : Run) (n : Nat) (a0_1 : List AV) (a0_2 : List AV) (a1_1 : Int) (a2_1 : List AV) : f54 run n a0_1 a0_2 a1_1 a2_1 =
  bif eqI (a2_1.length : Int) 0 then
    bif inR 0 a0_2.length then
    bif boundsOk 1 (a0_2.length : Int) (a0_2.length : Int) (a0_2.length : Int) && true then
    some ⟨[.blob ((nth a0_2 0).toBlob)], [.agg [.slice a0_1, .slice (List.drop 1 (List.take (Int.toNat (a0_2.length : Int)) a0_2))]], f54_fresh⟩
  else none
  else none
  else
    bif eqI a1_1 1 then
    bif inR 0 a0_1.length then
    bif boundsOk 1 (a0_1.length : Int) (a0_1.length : Int) (a0_1.length : Int) && true then
    (run 84 [.str ((nth a0_1 0).toStr)]).bind fun r1 =>
    nilV r1.outs (consV r1.vals fun v1 vs1 =>
    nilV vs1 (some ⟨[.blob v1.toBlob], [.agg [.slice (List.drop 1 (List.take (Int.toNat (a0_1.length : Int)) a0_1)), .slice a0_2]], f54_fresh⟩))
  else none
  else none
  else
    (run 51 [.int a1_1]).bind fun r2 =>
    nilV r2.outs (consV r2.vals fun v2 vs2 =>
    nilV vs2 ((run 52 [.slice a2_1, .int v2.toInt]).bind fun r3 =>
    nilV r3.outs (consV r3.vals fun v3 vs3 =>
    consV vs3 fun v4 vs4 =>
    nilV vs4 ((run 54 [.agg [.slice a0_1, .slice a0_2], .int v2.toInt, .slice v3.toSlice]).bind fun r4 =>
    consV r4.outs fun y1 ys1 =>
    nilV ys1 (consV r4.vals fun v5 vs5 =>
    nilV vs5 ((run 54 [.agg [.slice ((y1.fld 0).toSlice), .slice ((y1.fld 1).toSlice)], .int (IntKind.wrap .i64 (a1_1 - v2.toInt)), .slice v4.toSlice]).bind fun r5 =>
    consV r5.outs fun y2 ys2 =>
    nilV ys2 (consV r5.vals fun v6 vs6 =>
    nilV vs6 ((run 91 [.blob v5.toBlob, .blob v6.toBlob]).bind fun r6 =>
    nilV r6.outs (consV r6.vals fun v7 vs7 =>
    nilV vs7 (some ⟨[.blob v7.toBlob], [.agg [.slice ((y2.fld 0).toSlice), .slice ((y2.fld 1).toSlice)]], f54_fresh⟩)))))))))) := by kernel_rfl
theorem f54_run (ext : Run) (n : Nat) (a0_1 : List AV) (a0_2 : List AV) (a1_1 : Int) (a2_1 : List AV) : runE G ext (n + 1) 54 [.agg [.slice a0_1, .slice a0_2], .int a1_1, .slice a2_1] = f54 (runE G ext n) n a0_1 a0_2 a1_1 a2_1 := runE_succ f54_at f54_in

noncomputable def f124 (run : Run) (n : Nat) (a0_1 : Int) (a1_1 : List UInt8) : Option Res := evalK G run n f124_info.keep 0 f124_info.body (retE G f124_info) (f124_info.start [.int a0_1, .blob a1_1])
theorem f124_eq (run : Run) (n : Nat) (a0_1 : Int) (a1_1 : List UInt8) : f124 run n a0_1 a1_1 =
  (run 112 [.int a0_1]).bind fun r1 =>
    nilV r1.outs (consV r1.vals fun v1 vs1 =>
    nilV vs1 ((run 136 [.int 2, .slice [.str v1.toStr, .str (bytesOf (List.drop 0 (List.take 32 (ofBytes a1_1))))]]).bind fun r2 =>
    nilV r2.outs (consV r2.vals fun v2 vs2 =>
    nilV vs2 (some ⟨[.str v2.toStr], [], f124_fresh⟩)))) := by kernel_rfl
theorem f124_run (ext : Run) (n : Nat) (a0_1 : Int) (a1_1 : List UInt8) : runE G ext (n + 1) 124 [.int a0_1, .blob a1_1] = f124 (runE G ext n) n a0_1 a1_1 := runE_succ f124_at f124_in

noncomputable def f90 (run : Run) (n : Nat) (a0_1 : Int) (a1_1 : List UInt8) : Option Res := evalK G run n f90_info.keep 0 f90_info.body (retE G f90_info) (f90_info.start [.int a0_1, .blob a1_1])
theorem f90_eq (run : Run) (n : Nat) (a0_1 : Int) (a1_1 : List UInt8) : f90 run n a0_1 a1_1 =
  (run 124 [.int a0_1, .blob a1_1]).bind fun r1 =>
    nilV r1.outs (consV r1.vals fun v1 vs1 =>
    nilV vs1 ((run 109 [.str v1.toStr]).bind fun r2 =>
    nilV r2.outs (consV r2.vals fun v2 vs2 =>
    nilV vs2 (some ⟨[.blob v2.toBlob], [], f90_fresh⟩)))) := by kernel_rfl
theorem f90_run (ext : Run) (n : Nat) (a0_1 : Int) (a1_1 : List UInt8) : runE G ext (n + 1) 90 [.int a0_1, .blob a1_1] = f90 (runE G ext n) n a0_1 a1_1 := runE_succ f90_at f90_in

noncomputable def f49 (run : Run) (n : Nat) (a0_1 : List AV) (a1_1 : Int) (a1_2 : List AV) (a1_3 : List AV) : Option Res := evalK G run n f49_info.keep 0 f49_info.body (retE G f49_info) (f49_info.start [.slice a0_1, .agg [.int a1_1, .slice a1_2, .slice a1_3]])
theorem f49_eq (run : Run) (n : Nat) (a0_1 : List AV) (a1_1 : Int) (a1_2 : List AV) (a1_3 : List AV) : f49 run n a0_1 a1_1 a1_2 a1_3 =
  (run 50 [.int (a0_1.length : Int), .agg [.int a1_1, .slice a1_2, .slice a1_3]]).bind fun r1 =>
    nilV r1.outs (consV r1.vals fun v1 vs1 =>
    nilV vs1 (bif !(eqI v1.toInt 0) then
    some ⟨[.blob [0, 0, 0, 0, 0, 0, 0, 0, 0, 0, 0, 0, 0, 0, 0, 0, 0, 0, 0, 0, 0, 0, 0, 0, 0, 0, 0, 0, 0, 0, 0, 0], .int v1.toInt], [], f49_fresh⟩
  else
    (run 54 [.agg [.slice a0_1, .slice a1_3], .int a1_1, .slice a1_2]).bind fun r2 =>
    consV r2.outs fun _y1 ys1 =>
    nilV ys1 (consV r2.vals fun v2 vs2 =>
    nilV vs2 ((run 90 [.int (IntKind.wrap .u64 a1_1), .blob v2.toBlob]).bind fun r3 =>
    nilV r3.outs (consV r3.vals fun v3 vs3 =>
    nilV vs3 (some ⟨[.blob v3.toBlob, .int 0], [], f49_fresh⟩)))))) := by kernel_rfl
theorem f49_run (ext : Run) (n : Nat) (a0_1 : List AV) (a1_1 : Int) (a1_2 : List AV) (a1_3 : List AV) : runE G ext (n + 1) 49 [.slice a0_1, .agg [.int a1_1, .slice a1_2, .slice a1_3]] = f49 (runE G ext n) n a0_1 a1_1 a1_2 a1_3 := runE_succ f49_at f49_in

noncomputable def f13 (run : Run) (n : Nat) (a0_1 : List UInt8) (a1_1 : List AV) (a2_1 : Int) (a2_2 : List AV) (a2_3 : List AV) : Option Res := evalK G run n f13_info.keep 0 f13_info.body (retE G f13_info) (f13_info.start [.blob a0_1, .slice a1_1, .agg [.int a2_1, .slice a2_2, .slice a2_3]])
theorem f13_eq (run : Run) (n : Nat) (a0_1 : List UInt8) (a1_1 : List AV) (a2_1 : Int) (a2_2 : List AV) (a2_3 : List AV) : f13 run n a0_1 a1_1 a2_1 a2_2 a2_3 =
  (run 49 [.slice a1_1, .agg [.int a2_1, .slice a2_2, .slice a2_3]]).bind fun r1 =>
    nilV r1.outs (consV r1.vals fun v1 vs1 =>
    consV vs1 fun v2 vs2 =>
    nilV vs2 (bif eqI v2.toInt 0 then
    some ⟨[.bool (eqS v1.toBlob a0_1)], [], f13_fresh⟩
  else
    some ⟨[.bool false], [], f13_fresh⟩)) := by kernel_rfl
theorem f13_run (ext : Run) (n : Nat) (a0_1 : List UInt8) (a1_1 : List AV) (a2_1 : Int) (a2_2 : List AV) (a2_3 : List AV) : runE G ext (n + 1) 13 [.blob a0_1, .slice a1_1, .agg [.int a2_1, .slice a2_2, .slice a2_3]] = f13 (runE G ext n) n a0_1 a1_1 a2_1 a2_2 a2_3 := runE_succ f13_at f13_in

noncomputable def f53 (run : Run) (n : Nat) (a0_1 : List AV) (a0_2 : List AV) (a1_1 : Int) (a2_1 : List AV) : Option Res := evalK G run n f53_info.keep 0 f53_info.body (retE G f53_info) (f53_info.start [.agg [.slice a0_1, .slice a0_2], .int a1_1, .slice a2_1])
theorem f53_eq (run : Run) (n : Nat) (a0_1 : List AV) (a0_2 : List AV) (a1_1 : Int) (a2_1 : List AV) : f53 run n a0_1 a0_2 a1_1 a2_1 =
  bif boundsOk (a2_1.length : Int) (a0_1.length : Int) (a0_1.length : Int) (a0_1.length : Int) && true then
    (run 81 [.int a1_1, .slice a2_1]).bind fun r1 =>
    nilV r1.outs (consV r1.vals fun v1 vs1 =>
    nilV vs1 (bif boundsOk v1.toInt (a0_2.length : Int) (a0_2.length : Int) (a0_2.length : Int) && true then
    some ⟨[], [.agg [.slice (List.drop (Int.toNat (a2_1.length : Int)) (List.take (Int.toNat (a0_1.length : Int)) a0_1)), .slice (List.drop (Int.toNat v1.toInt) (List.take (Int.toNat (a0_2.length : Int)) a0_2))]], f53_fresh⟩
  else none))
  else none := by kernel_rfl
theorem f53_run (ext : Run) (n : Nat) (a0_1 : List AV) (a0_2 : List AV) (a1_1 : Int) (a2_1 : List AV) : runE G ext (n + 1) 53 [.agg [.slice a0_1, .slice a0_2], .int a1_1, .slice a2_1] = f53 (runE G ext n) n a0_1 a0_2 a1_1 a2_1 := runE_succ f53_at f53_in

noncomputable def f14_l0 (run : Run) (n : Nat) (k0 : Nat) (x8_1 : Int) (x9_1 : Int) (x10_1 : List AV) (o6_1 : Int) (o6_2 : Int) (o6_3 : List AV) (o11_1 : Int) (o11_2 : Int) (o11_3 : List AV) (o51_1 : List AV) (o51_2 : List AV) : Option Res :=
  iterK (evalK G run n f14_keep 0 (sub [1, 1, 1, 1, 1, 0, 0, 0] f14_body)) f14_t0 f14_o0 (blockK 0 (seqK (evalK G run n f14_keep 0 (sub [1, 1, 1, 1, 1, 1] f14_body) (retE G f14_info)) (retE G f14_info))) k0
    ⟨[.any, .any, .any, .any, .any, .any, .ptr ⟨(.struct [(.int .i64), (.int .i64), (.slice (.blob 32))]), 6, 1, []⟩, .any, .val (.int .i64) none (.int x8_1), .val (.int .i64) none (.int x9_1), .val (.slice (.int .i64)) none (.slice x10_1), .ptr ⟨(.struct [(.int .i64), (.int .i64), (.slice (.blob 32))]), 11, 1, []⟩, .ptr ⟨(.struct [(.slice .str), (.slice (.blob 32))]), 51, 1, []⟩, .any, .any, .any, .any, .any, .any, .any, .any, .any, .any, .any, .any, .any, .any, .any, .any, .any, .any, .any, .any, .any, .any, .any, .any, .any, .any, .any, .any, .any, .any, .any, .any, .any, .any, .any, .any, .any, .any, .any, .any, .any, .any, .any, .any, .any, .any, .any, .any, .any, .any, .any, .any, .any, .any, .any, .any, .any, .any, .any, .any, .any, .any, .any, .any, .any, .any, .any, .any, .any, .any, .any, .any, .any, .any, .any, .any, .any, .any, .any, .any, .any, .any, .any], [⟨0, none⟩, ⟨0, none⟩, ⟨0, none⟩, ⟨0, none⟩, ⟨0, none⟩, ⟨0, none⟩, ⟨1, some ⟨(.struct [(.int .i64), (.int .i64), (.slice (.blob 32))]), .agg [.int o6_1, .int o6_2, .slice o6_3]⟩⟩, ⟨0, none⟩, ⟨0, none⟩, ⟨0, none⟩, ⟨0, none⟩, ⟨1, some ⟨(.struct [(.int .i64), (.int .i64), (.slice (.blob 32))]), .agg [.int o11_1, .int o11_2, .slice o11_3]⟩⟩, ⟨0, none⟩, ⟨0, none⟩, ⟨0, none⟩, ⟨0, none⟩, ⟨0, none⟩, ⟨0, none⟩, ⟨0, none⟩, ⟨0, none⟩, ⟨0, none⟩, ⟨0, none⟩, ⟨0, none⟩, ⟨0, none⟩, ⟨0, none⟩, ⟨0, none⟩, ⟨0, none⟩, ⟨0, none⟩, ⟨0, none⟩, ⟨0, none⟩, ⟨0, none⟩, ⟨0, none⟩, ⟨0, none⟩, ⟨0, none⟩, ⟨0, none⟩, ⟨0, none⟩, ⟨0, none⟩, ⟨0, none⟩, ⟨0, none⟩, ⟨0, none⟩, ⟨0, none⟩, ⟨0, none⟩, ⟨0, none⟩, ⟨0, none⟩, ⟨0, none⟩, ⟨0, none⟩, ⟨0, none⟩, ⟨0, none⟩, ⟨0, none⟩, ⟨0, none⟩, ⟨0, none⟩, ⟨1, some ⟨(.struct [(.slice .str), (.slice (.blob 32))]), .agg [.slice o51_1, .slice o51_2]⟩⟩, ⟨0, none⟩, ⟨0, none⟩, ⟨0, none⟩, ⟨0, none⟩, ⟨0, none⟩, ⟨0, none⟩, ⟨0, none⟩, ⟨0, none⟩, ⟨0, none⟩, ⟨0, none⟩, ⟨0, none⟩, ⟨0, none⟩, ⟨0, none⟩, ⟨0, none⟩, ⟨0, none⟩, ⟨0, none⟩, ⟨0, none⟩, ⟨0, none⟩, ⟨0, none⟩, ⟨0, none⟩, ⟨0, none⟩, ⟨0, none⟩, ⟨0, none⟩, ⟨0, none⟩, ⟨0, none⟩, ⟨0, none⟩, ⟨0, none⟩, ⟨0, none⟩, ⟨0, none⟩, ⟨0, none⟩, ⟨0, none⟩, ⟨0, none⟩, ⟨0, none⟩, ⟨0, none⟩, ⟨0, none⟩, ⟨0, none⟩, ⟨0, none⟩, ⟨0, none⟩, ⟨0, none⟩, ⟨0, none⟩, ⟨0, none⟩, ⟨0, none⟩, ⟨0, none⟩, ⟨0, none⟩], List.replicate 96 0⟩
theorem f14_l0_eq (run : Run) (n : Nat) (k0 : Nat) (x8_1 : Int) (x9_1 : Int) (x10_1 : List AV) (o6_1 : Int) (o6_2 : Int) (o6_3 : List AV) (o11_1 : Int) (o11_2 : Int) (o11_3 : List AV) (o51_1 : List AV) (o51_2 : List AV) : f14_l0 run n (k0 + 1) x8_1 x9_1 x10_1 o6_1 o6_2 o6_3 o11_1 o11_2 o11_3 o51_1 o51_2 =
  bif ltI 1 x9_1 then
    (run 51 [.int x9_1]).bind fun r2 =>
    nilV r2.outs (consV r2.vals fun v2 vs2 =>
    nilV vs2 ((run 52 [.slice x10_1, .int v2.toInt]).bind fun r3 =>
    nilV r3.outs (consV r3.vals fun v3 vs3 =>
    consV vs3 fun v4 vs4 =>
    nilV vs4 (bif ltI x8_1 v2.toInt then
    (run 53 [.agg [.slice o51_1, .slice o51_2], .int v2.toInt, .slice v3.toSlice]).bind fun r4 =>
    consV r4.outs fun y1 ys1 =>
    nilV ys1 (nilV r4.vals ((run 54 [.agg [.slice ((y1.fld 0).toSlice), .slice ((y1.fld 1).toSlice)], .int (IntKind.wrap .i64 (x9_1 - v2.toInt)), .slice v4.toSlice]).bind fun r5 =>
    consV r5.outs fun _y2 ys2 =>
    nilV ys2 (consV r5.vals fun v5 vs5 =>
    nilV vs5 (bif Nat.ble ((1 + o11_3.length) * 32) 140737488355328 then
    f14_l0 run n k0 x8_1 v2.toInt v3.toSlice o6_1 o6_2 o6_3 o11_1 o11_2 ([.blob v5.toBlob] ++ o11_3) o51_1 o51_2
  else none))))
  else
    (run 54 [.agg [.slice o51_1, .slice o51_2], .int v2.toInt, .slice v3.toSlice]).bind fun r6 =>
    consV r6.outs fun y3 ys3 =>
    nilV ys3 (consV r6.vals fun v6 vs6 =>
    nilV vs6 (bif Nat.ble ((1 + o11_3.length) * 32) 140737488355328 then
    f14_l0 run n k0 (IntKind.wrap .i64 (x8_1 - v2.toInt)) (IntKind.wrap .i64 (x9_1 - v2.toInt)) v4.toSlice o6_1 o6_2 o6_3 o11_1 o11_2 ([.blob v6.toBlob] ++ o11_3) ((y3.fld 0).toSlice) ((y3.fld 1).toSlice)
  else none))))))
  else
    some ⟨[.agg [.int o11_1, .int o11_2, .slice o11_3], .bool true], [], f14_fresh⟩ := by kernel_rfl
noncomputable def f14 (run : Run) (n : Nat) (a0_1 : List AV) (a1_1 : Int) (a1_2 : List AV) (a1_3 : List AV) (a2_1 : Int) : Option Res := evalK G run n f14_info.keep 0 f14_info.body (retE G f14_info) (f14_info.start [.slice a0_1, .agg [.int a1_1, .slice a1_2, .slice a1_3], .int a2_1])
theorem f14_eq (run : Run) (n : Nat) (a0_1 : List AV) (a1_1 : Int) (a1_2 : List AV) (a1_3 : List AV) (a2_1 : Int) : f14 run n a0_1 a1_1 a1_2 a1_3 a2_1 =
  (run 50 [.int (a0_1.length : Int), .agg [.int a1_1, .slice a1_2, .slice a1_3]]).bind fun r1 =>
    nilV r1.outs (consV r1.vals fun v1 vs1 =>
    nilV vs1 (bif !(eqI v1.toInt 0) then
    some ⟨[.agg [.int 0, .int 0, .slice []], .bool false], [], f14_fresh⟩
  else
    bif ltI a2_1 0 then
    some ⟨[.agg [.int 0, .int 0, .slice []], .bool false], [], f14_fresh⟩
  else
    bif leI (a1_2.length : Int) a2_1 then
    some ⟨[.agg [.int 0, .int 0, .slice []], .bool false], [], f14_fresh⟩
  else
    bif inR a2_1 a1_2.length then
    f14_l0 run n n ((nth a1_2 (Int.toNat a2_1)).toInt) a1_1 a1_2 0 0 [] ((nth a1_2 (Int.toNat a2_1)).toInt) a1_1 [] a0_1 a1_3
  else none)) := by kernel_rfl
theorem f14_run (ext : Run) (n : Nat) (a0_1 : List AV) (a1_1 : Int) (a1_2 : List AV) (a1_3 : List AV) (a2_1 : Int) : runE G ext (n + 1) 14 [.slice a0_1, .agg [.int a1_1, .slice a1_2, .slice a1_3], .int a2_1] = f14 (runE G ext n) n a0_1 a1_1 a1_2 a1_3 a2_1 := runE_succ f14_at f14_in

noncomputable def f55_l0 (run : Run) (n : Nat) (k0 : Nat) (x0_1 : List AV) (x1_1 : List AV) (x5_1 : Int) : Option Res :=
  iterK (evalK G run n f55_keep 0 (sub [1, 1, 0, 1, 0, 0] f55_body)) f55_t0 f55_o0 (blockK 0 (seqK (evalK G run n f55_keep 0 (sub [1, 1, 1] f55_body) (retE G f55_info)) (retE G f55_info))) k0
    ⟨[.val (.slice (.blob 32)) none (.slice x0_1), .val (.slice (.blob 32)) none (.slice x1_1), .any, .any, .any, .val (.int .i64) none (.int x5_1), .any, .any, .any, .any, .any, .any, .any, .any, .any, .any, .any, .any, .any, .any, .any, .any, .any, .any, .any, .any], [⟨0, none⟩, ⟨0, none⟩, ⟨0, none⟩, ⟨0, none⟩, ⟨0, none⟩, ⟨0, none⟩, ⟨0, none⟩, ⟨0, none⟩, ⟨0, none⟩, ⟨0, none⟩, ⟨0, none⟩, ⟨0, none⟩, ⟨0, none⟩, ⟨0, none⟩, ⟨0, none⟩, ⟨0, none⟩, ⟨0, none⟩, ⟨0, none⟩, ⟨0, none⟩, ⟨0, none⟩, ⟨0, none⟩, ⟨0, none⟩, ⟨0, none⟩, ⟨0, none⟩, ⟨0, none⟩, ⟨0, none⟩], List.replicate 26 0⟩
theorem f55_l0_eq (run : Run) (n : Nat) (k0 : Nat) (x0_1 : List AV) (x1_1 : List AV) (x5_1 : Int) : f55_l0 run n (k0 + 1) x0_1 x1_1 x5_1 =
  bif ltI x5_1 (x0_1.length : Int) then
    bif inR x5_1 x0_1.length then
    bif inR x5_1 x1_1.length then
    bif !(eqS ((nth x0_1 (Int.toNat x5_1)).toBlob) ((nth x1_1 (Int.toNat x5_1)).toBlob)) then
    some ⟨[.bool false], [], f55_fresh⟩
  else
    f55_l0 run n k0 x0_1 x1_1 (IntKind.wrap .i64 (x5_1 + 1))
  else none
  else none
  else
    some ⟨[.bool true], [], f55_fresh⟩ := by kernel_rfl
noncomputable def f55 (run : Run) (n : Nat) (a0_1 : List AV) (a1_1 : List AV) : Option Res := evalK G run n f55_info.keep 0 f55_info.body (retE G f55_info) (f55_info.start [.slice a0_1, .slice a1_1])
theorem f55_eq (run : Run) (n : Nat) (a0_1 : List AV) (a1_1 : List AV) : f55 run n a0_1 a1_1 =
  bif !(eqI (a0_1.length : Int) (a1_1.length : Int)) then
    some ⟨[.bool false], [], f55_fresh⟩
  else
    f55_l0 run n n a0_1 a1_1 0 := by kernel_rfl
theorem f55_run (ext : Run) (n : Nat) (a0_1 : List AV) (a1_1 : List AV) : runE G ext (n + 1) 55 [.slice a0_1, .slice a1_1] = f55 (runE G ext n) n a0_1 a1_1 := runE_succ f55_at f55_in

noncomputable def f15 (run : Run) (n : Nat) (a0_1 : Int) (a0_2 : Int) (a0_3 : List AV) (a1_1 : Int) (a1_2 : Int) (a1_3 : List AV) : Option Res := evalK G run n f15_info.keep 0 f15_info.body (retE G f15_info) (f15_info.start [.agg [.int a0_1, .int a0_2, .slice a0_3], .agg [.int a1_1, .int a1_2, .slice a1_3]])
theorem f15_eq (run : Run) (n : Nat) (a0_1 : Int) (a0_2 : Int) (a0_3 : List AV) (a1_1 : Int) (a1_2 : Int) (a1_3 : List AV) : f15 run n a0_1 a0_2 a0_3 a1_1 a1_2 a1_3 =
  bif eqI a0_1 a1_1 then
    bif eqI a0_2 a1_2 then
    (run 55 [.slice a0_3, .slice a1_3]).bind fun r1 =>
    nilV r1.outs (consV r1.vals fun v1 vs1 =>
    nilV vs1 (some ⟨[.bool v1.toBool], [], f15_fresh⟩))
  else
    some ⟨[.bool false], [], f15_fresh⟩
  else
    some ⟨[.bool false], [], f15_fresh⟩ := by kernel_rfl
theorem f15_run (ext : Run) (n : Nat) (a0_1 : Int) (a0_2 : Int) (a0_3 : List AV) (a1_1 : Int) (a1_2 : Int) (a1_3 : List AV) : runE G ext (n + 1) 15 [.agg [.int a0_1, .int a0_2, .slice a0_3], .agg [.int a1_1, .int a1_2, .slice a1_3]] = f15 (runE G ext n) n a0_1 a0_2 a0_3 a1_1 a1_2 a1_3 := runE_succ f15_at f15_in

noncomputable def f56 (run : Run) (n : Nat) (a0_1 : List AV) (a1_1 : Int) : Option Res := evalK G run n f56_info.keep 0 f56_info.body (retE G f56_info) (f56_info.start [.slice a0_1, .int a1_1])
theorem f56_eq (run : Run) (n : Nat) (a0_1 : List AV) (a1_1 : Int) : f56 run n a0_1 a1_1 =
  bif eqI (a0_1.length : Int) 1 then
    some ⟨[.slice []], [], f56_fresh⟩
  else
    (run 87 [.int (a0_1.length : Int)]).bind fun r1 =>
    nilV r1.outs (consV r1.vals fun v1 vs1 =>
    nilV vs1 (bif ltI a1_1 v1.toInt then
    bif boundsOk 0 v1.toInt (a0_1.length : Int) (a0_1.length : Int) && true then
    (run 56 [.slice (List.drop 0 (List.take (Int.toNat v1.toInt) a0_1)), .int a1_1]).bind fun r2 =>
    bif r2.fresh then
    nilV r2.outs (consV r2.vals fun v2 vs2 =>
    nilV vs2 (bif boundsOk v1.toInt (a0_1.length : Int) (a0_1.length : Int) (a0_1.length : Int) && true then
    (run 47 [.slice (List.drop (Int.toNat v1.toInt) (List.take (Int.toNat (a0_1.length : Int)) a0_1))]).bind fun r3 =>
    nilV r3.outs (consV r3.vals fun v3 vs3 =>
    nilV vs3 (bif Nat.ble ((v2.toSlice.length + 1) * 32) 140737488355328 then
    some ⟨[.slice (v2.toSlice ++ [.blob v3.toBlob])], [], f56_fresh⟩
  else none))
  else none))
  else none
  else none
  else
    bif boundsOk v1.toInt (a0_1.length : Int) (a0_1.length : Int) (a0_1.length : Int) && true then
    (run 56 [.slice (List.drop (Int.toNat v1.toInt) (List.take (Int.toNat (a0_1.length : Int)) a0_1)), .int (IntKind.wrap .i64 (a1_1 - v1.toInt))]).bind fun r4 =>
    bif r4.fresh then
    nilV r4.outs (consV r4.vals fun v4 vs4 =>
    nilV vs4 (bif boundsOk 0 v1.toInt (a0_1.length : Int) (a0_1.length : Int) && true then
    (run 47 [.slice (List.drop 0 (List.take (Int.toNat v1.toInt) a0_1))]).bind fun r5 =>
    nilV r5.outs (consV r5.vals fun v5 vs5 =>
    nilV vs5 (bif Nat.ble ((v4.toSlice.length + 1) * 32) 140737488355328 then
    some ⟨[.slice (v4.toSlice ++ [.blob v5.toBlob])], [], f56_fresh⟩
  else none))
  else none))
  else none
  else none)) := by kernel_rfl
theorem f56_run (ext : Run) (n : Nat) (a0_1 : List AV) (a1_1 : Int) : runE G ext (n + 1) 56 [.slice a0_1, .int a1_1] = f56 (runE G ext n) n a0_1 a1_1 := runE_succ f56_at f56_in

noncomputable def f16 (run : Run) (n : Nat) (a0_1 : List AV) (a1_1 : Int) : Option Res := evalK G run n f16_info.keep 0 f16_info.body (retE G f16_info) (f16_info.start [.slice a0_1, .int a1_1])
theorem f16_eq (run : Run) (n : Nat) (a0_1 : List AV) (a1_1 : Int) : f16 run n a0_1 a1_1 =
  bif ltI 1048576 (a0_1.length : Int) then
    some ⟨[.agg [.int 0, .int 0, .slice []], .int 4], [], f16_fresh⟩
  else
    bif ltI a1_1 0 then
    some ⟨[.agg [.int 0, .int 0, .slice []], .int 3], [], f16_fresh⟩
  else
    bif leI (a0_1.length : Int) a1_1 then
    some ⟨[.agg [.int 0, .int 0, .slice []], .int 3], [], f16_fresh⟩
  else
    (run 48 [.slice a0_1]).bind fun r1 =>
    bif r1.fresh then
    nilV r1.outs (consV r1.vals fun v1 vs1 =>
    nilV vs1 ((run 56 [.slice v1.toSlice, .int a1_1]).bind fun r2 =>
    bif r2.fresh then
    nilV r2.outs (consV r2.vals fun v2 vs2 =>
    nilV vs2 (some ⟨[.agg [.int a1_1, .int (a0_1.length : Int), .slice v2.toSlice], .int 0], [], f16_fresh⟩))
  else none))
  else none := by kernel_rfl
theorem f16_run (ext : Run) (n : Nat) (a0_1 : List AV) (a1_1 : Int) : runE G ext (n + 1) 16 [.slice a0_1, .int a1_1] = f16 (runE G ext n) n a0_1 a1_1 := runE_succ f16_at f16_in

noncomputable def f126 (run : Run) (n : Nat) (a0_1 : Int) (a1_1 : Int) : Option Res := evalK G run n f126_info.keep 0 f126_info.body (retE G f126_info) (f126_info.start [.int a0_1, .int a1_1])
theorem f126_eq (run : Run) (n : Nat) (a0_1 : Int) (a1_1 : Int) : f126 run n a0_1 a1_1 =
  bif ltI a1_1 0 then
    some ⟨[.int (-1)], [], f126_fresh⟩
  else
    bif leI a0_1 a1_1 then
    some ⟨[.int (-1)], [], f126_fresh⟩
  else
    (run 127 [.int a0_1, .int a1_1]).bind fun r1 =>
    bif r1.fresh then
    nilV r1.outs (consV r1.vals fun v1 vs1 =>
    nilV vs1 (some ⟨[.int (v1.toSlice.length : Int)], [], f126_fresh⟩))
  else none := by kernel_rfl
theorem f126_run (ext : Run) (n : Nat) (a0_1 : Int) (a1_1 : Int) : runE G ext (n + 1) 126 [.int a0_1, .int a1_1] = f126 (runE G ext n) n a0_1 a1_1 := runE_succ f126_at f126_in

noncomputable def f92 (run : Run) (n : Nat) (a0_1 : Int) (a0_2 : Int) (a0_3 : List AV) : Option Res := evalK G run n f92_info.keep 0 f92_info.body (retE G f92_info) (f92_info.start [.agg [.int a0_1, .int a0_2, .slice a0_3]])
theorem f92_eq (run : Run) (n : Nat) (a0_1 : Int) (a0_2 : Int) (a0_3 : List AV) : f92 run n a0_1 a0_2 a0_3 =
  bif ltI a0_2 1 then
    some ⟨[.int 3], [], f92_fresh⟩
  else
    bif ltI 1048576 a0_2 then
    some ⟨[.int 3], [], f92_fresh⟩
  else
    bif ltI a0_1 0 then
    some ⟨[.int 3], [], f92_fresh⟩
  else
    bif leI a0_2 a0_1 then
    some ⟨[.int 3], [], f92_fresh⟩
  else
    (run 126 [.int a0_2, .int a0_1]).bind fun r1 =>
    nilV r1.outs (consV r1.vals fun v1 vs1 =>
    nilV vs1 (bif !(eqI (a0_3.length : Int) v1.toInt) then
    some ⟨[.int 2], [], f92_fresh⟩
  else
    some ⟨[.int 0], [], f92_fresh⟩)) := by kernel_rfl
theorem f92_run (ext : Run) (n : Nat) (a0_1 : Int) (a0_2 : Int) (a0_3 : List AV) : runE G ext (n + 1) 92 [.agg [.int a0_1, .int a0_2, .slice a0_3]] = f92 (runE G ext n) n a0_1 a0_2 a0_3 := runE_succ f92_at f92_in

noncomputable def f93_l0 (run : Run) (n : Nat) (k0 : Nat) (x6_1 : List AV) (x20_1 : List AV) (x21_1 : Int) (x22_1 : Int) (o3_1 : Int) (o3_2 : Int) (o3_3 : List AV) (o5_1 : List UInt8) : Option Res :=
  iterK (evalK G run n f93_keep 0 (sub [1, 1, 1, 1, 0, 1, 0, 0] f93_body)) f93_t0 f93_o0 (blockK 0 (seqK (evalK G run n f93_keep 0 (sub [1, 1, 1, 1, 1] f93_body) (retE G f93_info)) (retE G f93_info))) k0
    ⟨[.any, .any, .any, .ptr ⟨(.struct [(.int .i64), (.int .i64), (.slice (.blob 32))]), 3, 1, []⟩, .any, .ptr ⟨(.blob 32), 5, 1, []⟩, .val (.slice (.blob 32)) (some (6, 0)) (.slice x6_1), .any, .any, .any, .any, .any, .any, .any, .any, .any, .any, .any, .any, .any, .val (.slice .bool) (some (20, 0)) (.slice x20_1), .val (.int .i64) none (.int x21_1), .val (.int .i64) none (.int x22_1), .any, .any, .any, .any, .any, .any, .any, .any, .any, .any, .any, .any, .any, .any, .any, .any, .any, .any, .any, .any, .any, .any, .any, .any, .any], [⟨0, none⟩, ⟨0, none⟩, ⟨0, none⟩, ⟨1, some ⟨(.struct [(.int .i64), (.int .i64), (.slice (.blob 32))]), .agg [.int o3_1, .int o3_2, .slice o3_3]⟩⟩, ⟨0, none⟩, ⟨1, some ⟨(.blob 32), .blob o5_1⟩⟩, ⟨0, none⟩, ⟨0, none⟩, ⟨0, none⟩, ⟨0, none⟩, ⟨0, none⟩, ⟨0, none⟩, ⟨0, none⟩, ⟨0, none⟩, ⟨0, none⟩, ⟨0, none⟩, ⟨0, none⟩, ⟨0, none⟩, ⟨0, none⟩, ⟨0, none⟩, ⟨0, none⟩, ⟨0, none⟩, ⟨0, none⟩, ⟨0, none⟩, ⟨0, none⟩, ⟨0, none⟩, ⟨0, none⟩, ⟨0, none⟩, ⟨0, none⟩, ⟨0, none⟩, ⟨0, none⟩, ⟨0, none⟩, ⟨0, none⟩, ⟨0, none⟩, ⟨0, none⟩, ⟨0, none⟩, ⟨0, none⟩, ⟨0, none⟩, ⟨0, none⟩, ⟨0, none⟩, ⟨0, none⟩, ⟨0, none⟩, ⟨0, none⟩, ⟨0, none⟩, ⟨0, none⟩, ⟨0, none⟩, ⟨0, none⟩, ⟨0, none⟩], List.replicate 48 0⟩
theorem f93_l0_eq (run : Run) (n : Nat) (k0 : Nat) (x6_1 : List AV) (x20_1 : List AV) (x21_1 : Int) (x22_1 : Int) (o3_1 : Int) (o3_2 : Int) (o3_3 : List AV) (o5_1 : List UInt8) : f93_l0 run n (k0 + 1) x6_1 x20_1 x21_1 x22_1 o3_1 o3_2 o3_3 o5_1 =
  bif ltI x22_1 x21_1 then
    bif inR x22_1 x20_1.length then
    bif (nth x20_1 (Int.toNat x22_1)).toBool then
    bif inR x22_1 o3_3.length then
    (run 91 [.blob ((nth o3_3 (Int.toNat x22_1)).toBlob), .blob o5_1]).bind fun r4 =>
    nilV r4.outs (consV r4.vals fun v4 vs4 =>
    nilV vs4 (bif Nat.ble ((x6_1.length + 1) * 32) 140737488355328 then
    f93_l0 run n k0 (x6_1 ++ [.blob v4.toBlob]) x20_1 x21_1 (IntKind.wrap .i64 (x22_1 + 1)) o3_1 o3_2 o3_3 v4.toBlob
  else none))
  else none
  else
    bif inR x22_1 o3_3.length then
    (run 91 [.blob o5_1, .blob ((nth o3_3 (Int.toNat x22_1)).toBlob)]).bind fun r5 =>
    nilV r5.outs (consV r5.vals fun v5 vs5 =>
    nilV vs5 (bif Nat.ble ((x6_1.length + 1) * 32) 140737488355328 then
    f93_l0 run n k0 (x6_1 ++ [.blob v5.toBlob]) x20_1 x21_1 (IntKind.wrap .i64 (x22_1 + 1)) o3_1 o3_2 o3_3 v5.toBlob
  else none))
  else none
  else none
  else
    some ⟨[.slice x6_1], [], f93_fresh⟩ := by kernel_rfl
noncomputable def f93 (run : Run) (n : Nat) (a0_1 : List UInt8) (a1_1 : Int) (a1_2 : Int) (a1_3 : List AV) : Option Res := evalK G run n f93_info.keep 0 f93_info.body (retE G f93_info) (f93_info.start [.str a0_1, .agg [.int a1_1, .int a1_2, .slice a1_3]])
theorem f93_eq (run : Run) (n : Nat) (a0_1 : List UInt8) (a1_1 : Int) (a1_2 : Int) (a1_3 : List AV) : f93 run n a0_1 a1_1 a1_2 a1_3 =
  (run 92 [.agg [.int a1_1, .int a1_2, .slice a1_3]]).bind fun r1 =>
    nilV r1.outs (consV r1.vals fun v1 vs1 =>
    nilV vs1 (bif !(eqI v1.toInt 0) then
    some ⟨[.slice []], [], f93_fresh⟩
  else
    (run 84 [.str a0_1]).bind fun r2 =>
    nilV r2.outs (consV r2.vals fun v2 vs2 =>
    nilV vs2 ((run 127 [.int a1_2, .int a1_1]).bind fun r3 =>
    bif r3.fresh then
    nilV r3.outs (consV r3.vals fun v3 vs3 =>
    nilV vs3 (f93_l0 run n n [.blob v2.toBlob] v3.toSlice (v3.toSlice.length : Int) 0 a1_1 a1_2 a1_3 v2.toBlob))
  else none)))) := by kernel_rfl
theorem f93_run (ext : Run) (n : Nat) (a0_1 : List UInt8) (a1_1 : Int) (a1_2 : Int) (a1_3 : List AV) : runE G ext (n + 1) 93 [.str a0_1, .agg [.int a1_1, .int a1_2, .slice a1_3]] = f93 (runE G ext n) n a0_1 a1_1 a1_2 a1_3 := runE_succ f93_at f93_in

noncomputable def f57 (run : Run) (n : Nat) (a0_1 : List UInt8) (a1_1 : Int) (a1_2 : Int) (a1_3 : List AV) : Option Res := evalK G run n f57_info.keep 0 f57_info.body (retE G f57_info) (f57_info.start [.str a0_1, .agg [.int a1_1, .int a1_2, .slice a1_3]])
theorem f57_eq (run : Run) (n : Nat) (a0_1 : List UInt8) (a1_1 : Int) (a1_2 : Int) (a1_3 : List AV) : f57 run n a0_1 a1_1 a1_2 a1_3 =
  (run 92 [.agg [.int a1_1, .int a1_2, .slice a1_3]]).bind fun r1 =>
    nilV r1.outs (consV r1.vals fun v1 vs1 =>
    nilV vs1 (bif !(eqI v1.toInt 0) then
    some ⟨[.blob [0, 0, 0, 0, 0, 0, 0, 0, 0, 0, 0, 0, 0, 0, 0, 0, 0, 0, 0, 0, 0, 0, 0, 0, 0, 0, 0, 0, 0, 0, 0, 0], .int v1.toInt], [], f57_fresh⟩
  else
    (run 93 [.str a0_1, .agg [.int a1_1, .int a1_2, .slice a1_3]]).bind fun r2 =>
    bif r2.fresh then
    nilV r2.outs (consV r2.vals fun v2 vs2 =>
    nilV vs2 (bif inR (IntKind.wrap .i64 ((v2.toSlice.length : Int) - 1)) v2.toSlice.length then
    (run 90 [.int (IntKind.wrap .u64 a1_2), .blob ((nth v2.toSlice (Int.toNat (IntKind.wrap .i64 ((v2.toSlice.length : Int) - 1)))).toBlob)]).bind fun r3 =>
    nilV r3.outs (consV r3.vals fun v3 vs3 =>
    nilV vs3 (some ⟨[.blob v3.toBlob, .int 0], [], f57_fresh⟩))
  else none))
  else none)) := by kernel_rfl
theorem f57_run (ext : Run) (n : Nat) (a0_1 : List UInt8) (a1_1 : Int) (a1_2 : Int) (a1_3 : List AV) : runE G ext (n + 1) 57 [.str a0_1, .agg [.int a1_1, .int a1_2, .slice a1_3]] = f57 (runE G ext n) n a0_1 a1_1 a1_2 a1_3 := runE_succ f57_at f57_in

noncomputable def f17 (run : Run) (n : Nat) (a0_1 : List UInt8) (a1_1 : List UInt8) (a2_1 : Int) (a2_2 : Int) (a2_3 : List AV) : Option Res := evalK G run n f17_info.keep 0 f17_info.body (retE G f17_info) (f17_info.start [.blob a0_1, .str a1_1, .agg [.int a2_1, .int a2_2, .slice a2_3]])
theorem f17_eq (run : Run) (n : Nat) (a0_1 : List UInt8) (a1_1 : List UInt8) (a2_1 : Int) (a2_2 : Int) (a2_3 : List AV) : f17 run n a0_1 a1_1 a2_1 a2_2 a2_3 =
  (run 57 [.str a1_1, .agg [.int a2_1, .int a2_2, .slice a2_3]]).bind fun r1 =>
    nilV r1.outs (consV r1.vals fun v1 vs1 =>
    consV vs1 fun v2 vs2 =>
    nilV vs2 (bif eqI v2.toInt 0 then
    some ⟨[.bool (eqS v1.toBlob a0_1)], [], f17_fresh⟩
  else
    some ⟨[.bool false], [], f17_fresh⟩)) := by kernel_rfl
theorem f17_run (ext : Run) (n : Nat) (a0_1 : List UInt8) (a1_1 : List UInt8) (a2_1 : Int) (a2_2 : Int) (a2_3 : List AV) : runE G ext (n + 1) 17 [.blob a0_1, .str a1_1, .agg [.int a2_1, .int a2_2, .slice a2_3]] = f17 (runE G ext n) n a0_1 a1_1 a2_1 a2_2 a2_3 := runE_succ f17_at f17_in

noncomputable def f3_l0 (run : Run) (n : Nat) (k0 : Nat) (x0_1 : List AV) (x1_1 : List AV) (x2_1 : Int) (x9_1 : List AV) (x10_1 : Int) (o7_1 : Int) (o7_2 : List AV) (o7_3 : List AV) : Option Res :=
  iterK (evalK G run n f3_keep 0 (sub [1, 1, 1, 1, 1, 1, 0, 1, 0, 0] f3_body)) f3_t0 f3_o0 (blockK 0 (seqK (evalK G run n f3_keep 0 (sub [1, 1, 1, 1, 1, 1, 1] f3_body) (retE G f3_info)) (retE G f3_info))) k0
    ⟨[.val (.slice .str) none (.slice x0_1), .val (.slice (.int .i64)) none (.slice x1_1), .val (.int .i64) none (.int x2_1), .any, .any, .any, .any, .ptr ⟨(.struct [(.int .i64), (.slice (.int .i64)), (.slice (.blob 32))]), 7, 1, []⟩, .any, .val (.slice .str) (some (9, 0)) (.slice x9_1), .val (.int .i64) none (.int x10_1), .any, .any, .any, .any, .any, .any, .any, .any, .any, .any, .any, .any, .any, .any, .any, .any, .any, .any, .any, .any, .any, .any, .any, .any, .any, .any, .any, .any, .any, .any, .any, .any, .any, .any, .any, .any, .any, .any, .any, .any, .any, .any, .any, .any, .any, .any, .any, .any, .any, .any, .any, .any, .any, .any, .any, .any, .any, .any, .any, .any, .any, .any, .any, .any, .any, .any, .any, .any, .any, .any, .any, .any, .any, .any, .any, .any, .any, .any, .any, .any, .any, .any, .any, .any, .any, .any, .any, .any, .any, .any, .any, .any, .any, .any, .any, .any, .any, .any, .any, .any, .any, .any, .any, .any, .any, .any, .any, .any, .any], [⟨0, none⟩, ⟨0, none⟩, ⟨0, none⟩, ⟨0, none⟩, ⟨0, none⟩, ⟨0, none⟩, ⟨0, none⟩, ⟨1, some ⟨(.struct [(.int .i64), (.slice (.int .i64)), (.slice (.blob 32))]), .agg [.int o7_1, .slice o7_2, .slice o7_3]⟩⟩, ⟨0, none⟩, ⟨0, none⟩, ⟨0, none⟩, ⟨0, none⟩, ⟨0, none⟩, ⟨0, none⟩, ⟨0, none⟩, ⟨0, none⟩, ⟨0, none⟩, ⟨0, none⟩, ⟨0, none⟩, ⟨0, none⟩, ⟨0, none⟩, ⟨0, none⟩, ⟨0, none⟩, ⟨0, none⟩, ⟨0, none⟩, ⟨0, none⟩, ⟨0, none⟩, ⟨0, none⟩, ⟨0, none⟩, ⟨0, none⟩, ⟨0, none⟩, ⟨0, none⟩, ⟨0, none⟩, ⟨0, none⟩, ⟨0, none⟩, ⟨0, none⟩, ⟨0, none⟩, ⟨0, none⟩, ⟨0, none⟩, ⟨0, none⟩, ⟨0, none⟩, ⟨0, none⟩, ⟨0, none⟩, ⟨0, none⟩, ⟨0, none⟩, ⟨0, none⟩, ⟨0, none⟩, ⟨0, none⟩, ⟨0, none⟩, ⟨0, none⟩, ⟨0, none⟩, ⟨0, none⟩, ⟨0, none⟩, ⟨0, none⟩, ⟨0, none⟩, ⟨0, none⟩, ⟨0, none⟩, ⟨0, none⟩, ⟨0, none⟩, ⟨0, none⟩, ⟨0, none⟩, ⟨0, none⟩, ⟨0, none⟩, ⟨0, none⟩, ⟨0, none⟩, ⟨0, none⟩, ⟨0, none⟩, ⟨0, none⟩, ⟨0, none⟩, ⟨0, none⟩, ⟨0, none⟩, ⟨0, none⟩, ⟨0, none⟩, ⟨0, none⟩, ⟨0, none⟩, ⟨0, none⟩, ⟨0, none⟩, ⟨0, none⟩, ⟨0, none⟩, ⟨0, none⟩, ⟨0, none⟩, ⟨0, none⟩, ⟨0, none⟩, ⟨0, none⟩, ⟨0, none⟩, ⟨0, none⟩, ⟨0, none⟩, ⟨0, none⟩, ⟨0, none⟩, ⟨0, none⟩, ⟨0, none⟩, ⟨0, none⟩, ⟨0, none⟩, ⟨0, none⟩, ⟨0, none⟩, ⟨0, none⟩, ⟨0, none⟩, ⟨0, none⟩, ⟨0, none⟩, ⟨0, none⟩, ⟨0, none⟩, ⟨0, none⟩, ⟨0, none⟩, ⟨0, none⟩, ⟨0, none⟩, ⟨0, none⟩, ⟨0, none⟩, ⟨0, none⟩, ⟨0, none⟩, ⟨0, none⟩, ⟨0, none⟩, ⟨0, none⟩, ⟨0, none⟩, ⟨0, none⟩, ⟨0, none⟩, ⟨0, none⟩, ⟨0, none⟩, ⟨0, none⟩, ⟨0, none⟩, ⟨0, none⟩], List.replicate 120 0⟩
theorem f3_l0_eq (run : Run) (n : Nat) (k0 : Nat) (x0_1 : List AV) (x1_1 : List AV) (x2_1 : Int) (x9_1 : List AV) (x10_1 : Int) (o7_1 : Int) (o7_2 : List AV) (o7_3 : List AV) : f3_l0 run n (k0 + 1) x0_1 x1_1 x2_1 x9_1 x10_1 o7_1 o7_2 o7_3 =
  bif ltI x10_1 (x1_1.length : Int) then
    bif inR x10_1 x1_1.length then
    bif inR ((nth x1_1 (Int.toNat x10_1)).toInt) x0_1.length then
    bif Nat.ble ((x9_1.length + 1) * 16) 140737488355328 then
    f3_l0 run n k0 x0_1 x1_1 x2_1 (x9_1 ++ [.str ((nth x0_1 (Int.toNat ((nth x1_1 (Int.toNat x10_1)).toInt))).toStr)]) (IntKind.wrap .i64 (x10_1 + 1)) o7_1 o7_2 o7_3
  else none
  else none
  else none
  else
    (run 12 [.slice x0_1]).bind fun r7 =>
    nilV r7.outs (consV r7.vals fun v8 vs8 =>
    nilV vs8 ((run 13 [.blob v8.toBlob, .slice x9_1, .agg [.int o7_1, .slice o7_2, .slice o7_3]]).bind fun r8 =>
    nilV r8.outs (consV r8.vals fun v9 vs9 =>
    nilV vs9 (bif !v9.toBool then
    some ⟨[.bool false], [], f3_fresh⟩
  else
    (run 14 [.slice x9_1, .agg [.int o7_1, .slice o7_2, .slice o7_3], .int x2_1]).bind fun r9 =>
    nilV r9.outs (consV r9.vals fun v10 vs10 =>
    consV vs10 fun v11 vs11 =>
    nilV vs11 (bif ltI x2_1 0 then
    bif !v11.toBool then
    (run 15 [.agg [.int ((v10.fld 0).toInt), .int ((v10.fld 1).toInt), .slice ((v10.fld 2).toSlice)], .agg [.int 0, .int 0, .slice []]]).bind fun r10 =>
    nilV r10.outs (consV r10.vals fun v12 vs12 =>
    nilV vs12 (bif v12.toBool then
    (run 9 []).bind fun r11 =>
    nilV r11.outs (consV r11.vals fun v13 vs13 =>
    nilV vs13 (some ⟨[.bool v13.toBool], [], f3_fresh⟩))
  else
    some ⟨[.bool false], [], f3_fresh⟩))
  else
    some ⟨[.bool false], [], f3_fresh⟩
  else
    bif leI (x1_1.length : Int) x2_1 then
    bif !v11.toBool then
    (run 15 [.agg [.int ((v10.fld 0).toInt), .int ((v10.fld 1).toInt), .slice ((v10.fld 2).toSlice)], .agg [.int 0, .int 0, .slice []]]).bind fun r12 =>
    nilV r12.outs (consV r12.vals fun v14 vs14 =>
    nilV vs14 (bif v14.toBool then
    (run 9 []).bind fun r13 =>
    nilV r13.outs (consV r13.vals fun v15 vs15 =>
    nilV vs15 (some ⟨[.bool v15.toBool], [], f3_fresh⟩))
  else
    some ⟨[.bool false], [], f3_fresh⟩))
  else
    some ⟨[.bool false], [], f3_fresh⟩
  else
    bif inR x2_1 x1_1.length then
    (run 16 [.slice x0_1, .int ((nth x1_1 (Int.toNat x2_1)).toInt)]).bind fun r14 =>
    nilV r14.outs (consV r14.vals fun v16 vs16 =>
    consV vs16 fun _v17 vs17 =>
    nilV vs17 (bif v11.toBool then
    (run 15 [.agg [.int ((v10.fld 0).toInt), .int ((v10.fld 1).toInt), .slice ((v10.fld 2).toSlice)], .agg [.int ((v16.fld 0).toInt), .int ((v16.fld 1).toInt), .slice ((v16.fld 2).toSlice)]]).bind fun r15 =>
    nilV r15.outs (consV r15.vals fun v18 vs18 =>
    nilV vs18 (bif v18.toBool then
    bif inR x2_1 x1_1.length then
    bif inR ((nth x1_1 (Int.toNat x2_1)).toInt) x0_1.length then
    (run 17 [.blob v8.toBlob, .str ((nth x0_1 (Int.toNat ((nth x1_1 (Int.toNat x2_1)).toInt))).toStr), .agg [.int ((v10.fld 0).toInt), .int ((v10.fld 1).toInt), .slice ((v10.fld 2).toSlice)]]).bind fun r16 =>
    nilV r16.outs (consV r16.vals fun v19 vs19 =>
    nilV vs19 (bif v19.toBool then
    (run 9 []).bind fun r17 =>
    nilV r17.outs (consV r17.vals fun v20 vs20 =>
    nilV vs20 (some ⟨[.bool v20.toBool], [], f3_fresh⟩))
  else
    some ⟨[.bool false], [], f3_fresh⟩))
  else none
  else none
  else
    some ⟨[.bool false], [], f3_fresh⟩))
  else
    some ⟨[.bool false], [], f3_fresh⟩))
  else none)))))) := by kernel_rfl
noncomputable def f3 (run : Run) (n : Nat) (a0_1 : List AV) (a1_1 : List AV) (a2_1 : Int) : Option Res := evalK G run n f3_info.keep 0 f3_info.body (retE G f3_info) (f3_info.start [.slice a0_1, .slice a1_1, .int a2_1])
theorem f3_eq (run : Run) (n : Nat) (a0_1 : List AV) (a1_1 : List AV) (a2_1 : Int) : f3 run n a0_1 a1_1 a2_1 =
  (run 8 [.slice a0_1]).bind fun r1 =>
    nilV r1.outs (consV r1.vals fun v1 vs1 =>
    nilV vs1 (bif v1.toBool then
    (run 9 []).bind fun r2 =>
    nilV r2.outs (consV r2.vals fun v2 vs2 =>
    nilV vs2 (some ⟨[.bool v2.toBool], [], f3_fresh⟩))
  else
    bif ltI 200 (a1_1.length : Int) then
    (run 9 []).bind fun r3 =>
    nilV r3.outs (consV r3.vals fun v3 vs3 =>
    nilV vs3 (some ⟨[.bool v3.toBool], [], f3_fresh⟩))
  else
    (run 10 [.slice a0_1, .slice a1_1]).bind fun r4 =>
    nilV r4.outs (consV r4.vals fun v4 vs4 =>
    consV vs4 fun v5 vs5 =>
    nilV vs5 ((run 11 [.int (a0_1.length : Int), .slice a1_1]).bind fun r5 =>
    nilV r5.outs (consV r5.vals fun v6 vs6 =>
    nilV vs6 (bif !v6.toBool then
    bif !(eqI v5.toInt 0) then
    (run 9 []).bind fun r6 =>
    nilV r6.outs (consV r6.vals fun v7 vs7 =>
    nilV vs7 (some ⟨[.bool v7.toBool], [], f3_fresh⟩))
  else
    some ⟨[.bool false], [], f3_fresh⟩
  else
    bif !(eqI v5.toInt 0) then
    some ⟨[.bool false], [], f3_fresh⟩
  else
    f3_l0 run n n a0_1 a1_1 a2_1 [] 0 ((v4.fld 0).toInt) ((v4.fld 1).toSlice) ((v4.fld 2).toSlice))))))) := by kernel_rfl
theorem f3_run (ext : Run) (n : Nat) (a0_1 : List AV) (a1_1 : List AV) (a2_1 : Int) : runE G ext (n + 1) 3 [.slice a0_1, .slice a1_1, .int a2_1] = f3 (runE G ext n) n a0_1 a1_1 a2_1 := runE_succ f3_at f3_in

noncomputable def f97_l0 (run : Run) (n : Nat) (k0 : Nat) (x8_1 : List AV) (x9_1 : Int) (x10_1 : Int) : Option Res :=
  iterK (evalK G run n f97_keep 0 (sub [1, 1, 0, 1, 0, 0] f97_body)) f97_t0 f97_o0 (blockK 0 (seqK (evalK G run n f97_keep 0 (sub [1, 1, 1] f97_body) (retE G f97_info)) (retE G f97_info))) k0
    ⟨[.any, .any, .any, .any, .any, .any, .any, .any, .val (.slice .str) none (.slice x8_1), .val (.int .i64) none (.int x9_1), .val (.int .i64) none (.int x10_1), .any, .any, .any, .any, .any, .any, .any], [⟨0, none⟩, ⟨0, none⟩, ⟨0, none⟩, ⟨0, none⟩, ⟨0, none⟩, ⟨0, none⟩, ⟨0, none⟩, ⟨0, none⟩, ⟨0, none⟩, ⟨0, none⟩, ⟨0, none⟩, ⟨0, none⟩, ⟨0, none⟩, ⟨0, none⟩, ⟨0, none⟩, ⟨0, none⟩, ⟨0, none⟩, ⟨0, none⟩], List.replicate 18 0⟩
theorem f97_l0_eq (run : Run) (n : Nat) (k0 : Nat) (x8_1 : List AV) (x9_1 : Int) (x10_1 : Int) : f97_l0 run n (k0 + 1) x8_1 x9_1 x10_1 =
  bif ltI x10_1 x9_1 then
    bif inR x10_1 x8_1.length then
    bif ltI 4096 (((nth x8_1 (Int.toNat x10_1)).toStr).length : Int) then
    some ⟨[.int 4], [], f97_fresh⟩
  else
    f97_l0 run n k0 x8_1 x9_1 (IntKind.wrap .i64 (x10_1 + 1))
  else none
  else
    some ⟨[.int 0], [], f97_fresh⟩ := by kernel_rfl
noncomputable def f97 (run : Run) (n : Nat) (a0_1 : List AV) : Option Res := evalK G run n f97_info.keep 0 f97_info.body (retE G f97_info) (f97_info.start [.slice a0_1])
theorem f97_eq (run : Run) (n : Nat) (a0_1 : List AV) : f97 run n a0_1 =
  bif ltI 1024 (a0_1.length : Int) then
    some ⟨[.int 4], [], f97_fresh⟩
  else
    f97_l0 run n n a0_1 (a0_1.length : Int) 0 := by kernel_rfl
theorem f97_run (ext : Run) (n : Nat) (a0_1 : List AV) : runE G ext (n + 1) 97 [.slice a0_1] = f97 (runE G ext n) n a0_1 := runE_succ f97_at f97_in

noncomputable def f113 (run : Run) (n : Nat) (a0_1 : List UInt8) : Option Res := evalK G run n f113_info.keep 0 f113_info.body (retE G f113_info) (f113_info.start [.blob a0_1])
theorem f113_eq (run : Run) (n : Nat) (a0_1 : List UInt8) : f113 run n a0_1 =
  bif Nat.ble (1 + (bytesOf (List.drop 0 (List.take 32 (ofBytes a0_1)))).length) maxLen then
    some ⟨[.str ([76] ++ (bytesOf (List.drop 0 (List.take 32 (ofBytes a0_1)))))], [], f113_fresh⟩
  else none := by kernel_rfl
theorem f113_run (ext : Run) (n : Nat) (a0_1 : List UInt8) : runE G ext (n + 1) 113 [.blob a0_1] = f113 (runE G ext n) n a0_1 := runE_succ f113_at f113_in

noncomputable def f144_l0 (run : Run) (n : Nat) (k0 : Nat) (x3_1 : List AV) (x6_1 : List AV) (x7_1 : Int) (x8_1 : Int) : Option Res :=
  iterK (evalK G run n f144_keep 0 (sub [1, 1, 0, 1, 0, 0] f144_body)) f144_t0 f144_o0 (blockK 0 (seqK (evalK G run n f144_keep 0 (sub [1, 1, 1] f144_body) (retE G f144_info)) (retE G f144_info))) k0
    ⟨[.any, .any, .any, .val (.slice .str) (some (3, 0)) (.slice x3_1), .any, .any, .val (.slice (.blob 32)) none (.slice x6_1), .val (.int .i64) none (.int x7_1), .val (.int .i64) none (.int x8_1), .any, .any, .any, .any, .any, .any, .any, .any, .any, .any], [⟨0, none⟩, ⟨0, none⟩, ⟨0, none⟩, ⟨0, none⟩, ⟨0, none⟩, ⟨0, none⟩, ⟨0, none⟩, ⟨0, none⟩, ⟨0, none⟩, ⟨0, none⟩, ⟨0, none⟩, ⟨0, none⟩, ⟨0, none⟩, ⟨0, none⟩, ⟨0, none⟩, ⟨0, none⟩, ⟨0, none⟩, ⟨0, none⟩, ⟨0, none⟩], List.replicate 19 0⟩
theorem f144_l0_eq (run : Run) (n : Nat) (k0 : Nat) (x3_1 : List AV) (x6_1 : List AV) (x7_1 : Int) (x8_1 : Int) : f144_l0 run n (k0 + 1) x3_1 x6_1 x7_1 x8_1 =
  bif ltI x8_1 x7_1 then
    bif inR x8_1 x6_1.length then
    (run 113 [.blob ((nth x6_1 (Int.toNat x8_1)).toBlob)]).bind fun r1 =>
    nilV r1.outs (consV r1.vals fun v1 vs1 =>
    nilV vs1 (bif Nat.ble ((x3_1.length + 1) * 16) 140737488355328 then
    f144_l0 run n k0 (x3_1 ++ [.str v1.toStr]) x6_1 x7_1 (IntKind.wrap .i64 (x8_1 + 1))
  else none))
  else none
  else
    some ⟨[.slice x3_1], [], f144_fresh⟩ := by kernel_rfl
noncomputable def f144 (run : Run) (n : Nat) (a0_1 : List AV) : Option Res := evalK G run n f144_info.keep 0 f144_info.body (retE G f144_info) (f144_info.start [.slice a0_1])
theorem f144_eq (run : Run) (n : Nat) (a0_1 : List AV) : f144 run n a0_1 =
  f144_l0 run n n [] a0_1 (a0_1.length : Int) 0 := by kernel_rfl
theorem f144_run (ext : Run) (n : Nat) (a0_1 : List AV) : runE G ext (n + 1) 144 [.slice a0_1] = f144 (runE G ext n) n a0_1 := runE_succ f144_at f144_in

noncomputable def f143 (run : Run) (n : Nat) (a0_1 : List AV) : Option Res := evalK G run n f143_info.keep 0 f143_info.body (retE G f143_info) (f143_info.start [.slice a0_1])
theorem f143_eq (run : Run) (n : Nat) (a0_1 : List AV) : f143 run n a0_1 =
  (run 45 [.slice a0_1]).bind fun r1 =>
    bif r1.fresh then
    nilV r1.outs (consV r1.vals fun v1 vs1 =>
    nilV vs1 ((run 82 [.slice v1.toSlice]).bind fun r2 =>
    nilV r2.outs (consV r2.vals fun v2 vs2 =>
    nilV vs2 ((run 90 [.int (IntKind.wrap .u64 (a0_1.length : Int)), .blob v2.toBlob]).bind fun r3 =>
    nilV r3.outs (consV r3.vals fun v3 vs3 =>
    nilV vs3 (some ⟨[.blob v3.toBlob], [], f143_fresh⟩))))))
  else none := by kernel_rfl
theorem f143_run (ext : Run) (n : Nat) (a0_1 : List AV) : runE G ext (n + 1) 143 [.slice a0_1] = f143 (runE G ext n) n a0_1 := runE_succ f143_at f143_in

noncomputable def f128 (run : Run) (n : Nat) (a0_1 : List AV) : Option Res := evalK G run n f128_info.keep 0 f128_info.body (retE G f128_info) (f128_info.start [.slice a0_1])
theorem f128_eq (run : Run) (n : Nat) (a0_1 : List AV) : f128 run n a0_1 =
  (run 144 [.slice a0_1]).bind fun r1 =>
    bif r1.fresh then
    nilV r1.outs (consV r1.vals fun v1 vs1 =>
    nilV vs1 ((run 143 [.slice v1.toSlice]).bind fun r2 =>
    nilV r2.outs (consV r2.vals fun v2 vs2 =>
    nilV vs2 (some ⟨[.blob v2.toBlob], [], f128_fresh⟩))))
  else none := by kernel_rfl
theorem f128_run (ext : Run) (n : Nat) (a0_1 : List AV) : runE G ext (n + 1) 128 [.slice a0_1] = f128 (runE G ext n) n a0_1 := runE_succ f128_at f128_in

noncomputable def f107 (run : Run) (n : Nat) (a0_1 : List UInt8) : Option Res := evalK G run n f107_info.keep 0 f107_info.body (retE G f107_info) (f107_info.start [.str a0_1])
theorem f107_eq (run : Run) (n : Nat) (a0_1 : List UInt8) : f107 run n a0_1 =
  bif Nat.ble (1 + a0_1.length) maxLen then
    some ⟨[.str ([84] ++ a0_1)], [], f107_fresh⟩
  else none := by kernel_rfl
theorem f107_run (ext : Run) (n : Nat) (a0_1 : List UInt8) : runE G ext (n + 1) 107 [.str a0_1] = f107 (runE G ext n) n a0_1 := runE_succ f107_at f107_in

noncomputable def f145_l0 (run : Run) (n : Nat) (k0 : Nat) (x3_1 : List AV) (x6_1 : List AV) (x7_1 : Int) (x8_1 : Int) : Option Res :=
  iterK (evalK G run n f145_keep 0 (sub [1, 1, 0, 1, 0, 0] f145_body)) f145_t0 f145_o0 (blockK 0 (seqK (evalK G run n f145_keep 0 (sub [1, 1, 1] f145_body) (retE G f145_info)) (retE G f145_info))) k0
    ⟨[.any, .any, .any, .val (.slice .str) (some (3, 0)) (.slice x3_1), .any, .any, .val (.slice .str) none (.slice x6_1), .val (.int .i64) none (.int x7_1), .val (.int .i64) none (.int x8_1), .any, .any, .any, .any, .any, .any, .any, .any, .any, .any], [⟨0, none⟩, ⟨0, none⟩, ⟨0, none⟩, ⟨0, none⟩, ⟨0, none⟩, ⟨0, none⟩, ⟨0, none⟩, ⟨0, none⟩, ⟨0, none⟩, ⟨0, none⟩, ⟨0, none⟩, ⟨0, none⟩, ⟨0, none⟩, ⟨0, none⟩, ⟨0, none⟩, ⟨0, none⟩, ⟨0, none⟩, ⟨0, none⟩, ⟨0, none⟩], List.replicate 19 0⟩
theorem f145_l0_eq (run : Run) (n : Nat) (k0 : Nat) (x3_1 : List AV) (x6_1 : List AV) (x7_1 : Int) (x8_1 : Int) : f145_l0 run n (k0 + 1) x3_1 x6_1 x7_1 x8_1 =
  bif ltI x8_1 x7_1 then
    bif inR x8_1 x6_1.length then
    (run 107 [.str ((nth x6_1 (Int.toNat x8_1)).toStr)]).bind fun r1 =>
    nilV r1.outs (consV r1.vals fun v1 vs1 =>
    nilV vs1 (bif Nat.ble ((x3_1.length + 1) * 16) 140737488355328 then
    f145_l0 run n k0 (x3_1 ++ [.str v1.toStr]) x6_1 x7_1 (IntKind.wrap .i64 (x8_1 + 1))
  else none))
  else none
  else
    some ⟨[.slice x3_1], [], f145_fresh⟩ := by kernel_rfl
noncomputable def f145 (run : Run) (n : Nat) (a0_1 : List AV) : Option Res := evalK G run n f145_info.keep 0 f145_info.body (retE G f145_info) (f145_info.start [.slice a0_1])
theorem f145_eq (run : Run) (n : Nat) (a0_1 : List AV) : f145 run n a0_1 =
  f145_l0 run n n [] a0_1 (a0_1.length : Int) 0 := by kernel_rfl
theorem f145_run (ext : Run) (n : Nat) (a0_1 : List AV) : runE G ext (n + 1) 145 [.slice a0_1] = f145 (runE G ext n) n a0_1 := runE_succ f145_at f145_in

noncomputable def f129 (run : Run) (n : Nat) (a0_1 : List AV) : Option Res := evalK G run n f129_info.keep 0 f129_info.body (retE G f129_info) (f129_info.start [.slice a0_1])
theorem f129_eq (run : Run) (n : Nat) (a0_1 : List AV) : f129 run n a0_1 =
  (run 145 [.slice a0_1]).bind fun r1 =>
    bif r1.fresh then
    nilV r1.outs (consV r1.vals fun v1 vs1 =>
    nilV vs1 ((run 143 [.slice v1.toSlice]).bind fun r2 =>
    nilV r2.outs (consV r2.vals fun v2 vs2 =>
    nilV vs2 (some ⟨[.blob v2.toBlob], [], f129_fresh⟩))))
  else none := by kernel_rfl
theorem f129_run (ext : Run) (n : Nat) (a0_1 : List AV) : runE G ext (n + 1) 129 [.slice a0_1] = f129 (runE G ext n) n a0_1 := runE_succ f129_at f129_in

noncomputable def f98 (run : Run) (n : Nat) (a0_1 : Int) (a1_1 : List AV) (a2_1 : List AV) (a3_1 : Int) : Option Res := evalK G run n f98_info.keep 0 f98_info.body (retE G f98_info) (f98_info.start [.int a0_1, .slice a1_1, .slice a2_1, .int a3_1])
theorem f98_eq (run : Run) (n : Nat) (a0_1 : Int) (a1_1 : List AV) (a2_1 : List AV) (a3_1 : Int) : f98 run n a0_1 a1_1 a2_1 a3_1 =
  (run 128 [.slice a1_1]).bind fun r1 =>
    nilV r1.outs (consV r1.vals fun v1 vs1 =>
    nilV vs1 ((run 129 [.slice a2_1]).bind fun r2 =>
    nilV r2.outs (consV r2.vals fun v2 vs2 =>
    nilV vs2 (bif Nat.ble ((a2_1.length) * 16) 140737488355328 then
    some ⟨[.agg [.agg [.int a0_1, .blob v1.toBlob, .blob v2.toBlob, .int a3_1], .slice a2_1]], [], f98_fresh⟩
  else none)))) := by kernel_rfl
theorem f98_run (ext : Run) (n : Nat) (a0_1 : Int) (a1_1 : List AV) (a2_1 : List AV) (a3_1 : Int) : runE G ext (n + 1) 98 [.int a0_1, .slice a1_1, .slice a2_1, .int a3_1] = f98 (runE G ext n) n a0_1 a1_1 a2_1 a3_1 := runE_succ f98_at f98_in

noncomputable def f78 (run : Run) (n : Nat) (a0_1 : Int) (a0_2 : List UInt8) (a0_3 : List UInt8) (a0_4 : Int) : Option Res := evalK G run n f78_info.keep 0 f78_info.body (retE G f78_info) (f78_info.start [.agg [.int a0_1, .blob a0_2, .blob a0_3, .int a0_4]])
theorem f78_eq (run : Run) (n : Nat) (a0_1 : Int) (a0_2 : List UInt8) (a0_3 : List UInt8) (a0_4 : Int) : f78 run n a0_1 a0_2 a0_3 a0_4 =
  (run 111 [.int a0_1]).bind fun r1 =>
    nilV r1.outs (consV r1.vals fun v1 vs1 =>
    nilV vs1 (bif Nat.ble (v1.toStr.length + (bytesOf (List.drop 0 (List.take 32 (ofBytes a0_2)))).length) maxLen then
    bif Nat.ble ((v1.toStr ++ (bytesOf (List.drop 0 (List.take 32 (ofBytes a0_2))))).length + (bytesOf (List.drop 0 (List.take 32 (ofBytes a0_3)))).length) maxLen then
    (run 112 [.int a0_4]).bind fun r2 =>
    nilV r2.outs (consV r2.vals fun v2 vs2 =>
    nilV vs2 (bif Nat.ble (((v1.toStr ++ (bytesOf (List.drop 0 (List.take 32 (ofBytes a0_2))))) ++ (bytesOf (List.drop 0 (List.take 32 (ofBytes a0_3))))).length + v2.toStr.length) maxLen then
    some ⟨[.str (((v1.toStr ++ (bytesOf (List.drop 0 (List.take 32 (ofBytes a0_2))))) ++ (bytesOf (List.drop 0 (List.take 32 (ofBytes a0_3))))) ++ v2.toStr)], [], f78_fresh⟩
  else none))
  else none
  else none)) := by kernel_rfl
theorem f78_run (ext : Run) (n : Nat) (a0_1 : Int) (a0_2 : List UInt8) (a0_3 : List UInt8) (a0_4 : Int) : runE G ext (n + 1) 78 [.agg [.int a0_1, .blob a0_2, .blob a0_3, .int a0_4]] = f78 (runE G ext n) n a0_1 a0_2 a0_3 a0_4 := runE_succ f78_at f78_in

noncomputable def f110 (run : Run) (n : Nat) (a0_1 : List UInt8) : Option Res := evalK G run n f110_info.keep 0 f110_info.body (retE G f110_info) (f110_info.start [.str a0_1])
theorem f110_eq (run : Run) (n : Nat) (a0_1 : List UInt8) : f110 run n a0_1 =
  (run 136 [.int 3, .slice [.str a0_1]]).bind fun r1 =>
    nilV r1.outs (consV r1.vals fun v1 vs1 =>
    nilV vs1 (some ⟨[.str v1.toStr], [], f110_fresh⟩)) := by kernel_rfl
theorem f110_run (ext : Run) (n : Nat) (a0_1 : List UInt8) : runE G ext (n + 1) 110 [.str a0_1] = f110 (runE G ext n) n a0_1 := runE_succ f110_at f110_in

noncomputable def f77 (run : Run) (n : Nat) (a0_1 : List UInt8) : Option Res := evalK G run n f77_info.keep 0 f77_info.body (retE G f77_info) (f77_info.start [.str a0_1])
theorem f77_eq (run : Run) (n : Nat) (a0_1 : List UInt8) : f77 run n a0_1 =
  (run 110 [.str a0_1]).bind fun r1 =>
    nilV r1.outs (consV r1.vals fun v1 vs1 =>
    nilV vs1 ((run 109 [.str v1.toStr]).bind fun r2 =>
    nilV r2.outs (consV r2.vals fun v2 vs2 =>
    nilV vs2 (some ⟨[.blob v2.toBlob], [], f77_fresh⟩)))) := by kernel_rfl
theorem f77_run (ext : Run) (n : Nat) (a0_1 : List UInt8) : runE G ext (n + 1) 77 [.str a0_1] = f77 (runE G ext n) n a0_1 := runE_succ f77_at f77_in

noncomputable def f36 (run : Run) (n : Nat) (a0_1 : Int) (a0_2 : List UInt8) (a0_3 : List UInt8) (a0_4 : Int) : Option Res := evalK G run n f36_info.keep 0 f36_info.body (retE G f36_info) (f36_info.start [.agg [.int a0_1, .blob a0_2, .blob a0_3, .int a0_4]])
theorem f36_eq (run : Run) (n : Nat) (a0_1 : Int) (a0_2 : List UInt8) (a0_3 : List UInt8) (a0_4 : Int) : f36 run n a0_1 a0_2 a0_3 a0_4 =
  (run 78 [.agg [.int a0_1, .blob a0_2, .blob a0_3, .int a0_4]]).bind fun r1 =>
    nilV r1.outs (consV r1.vals fun v1 vs1 =>
    nilV vs1 ((run 77 [.str v1.toStr]).bind fun r2 =>
    nilV r2.outs (consV r2.vals fun v2 vs2 =>
    nilV vs2 (some ⟨[.blob v2.toBlob], [], f36_fresh⟩)))) := by kernel_rfl
theorem f36_run (ext : Run) (n : Nat) (a0_1 : Int) (a0_2 : List UInt8) (a0_3 : List UInt8) (a0_4 : Int) : runE G ext (n + 1) 36 [.agg [.int a0_1, .blob a0_2, .blob a0_3, .int a0_4]] = f36 (runE G ext n) n a0_1 a0_2 a0_3 a0_4 := runE_succ f36_at f36_in

noncomputable def f108 (run : Run) (n : Nat) (a0_1 : List UInt8) (a1_1 : Int) : Option Res := evalK G run n f108_info.keep 0 f108_info.body (retE G f108_info) (f108_info.start [.str a0_1, .int a1_1])
theorem f108_eq (run : Run) (n : Nat) (a0_1 : List UInt8) (a1_1 : Int) : f108 run n a0_1 a1_1 =
  (run 132 [.str a0_1, .int a1_1, .int 8]).bind fun r1 =>
    nilV r1.outs (consV r1.vals fun v1 vs1 =>
    nilV vs1 (some ⟨[.int v1.toInt], [], f108_fresh⟩)) := by kernel_rfl
theorem f108_run (ext : Run) (n : Nat) (a0_1 : List UInt8) (a1_1 : Int) : runE G ext (n + 1) 108 [.str a0_1, .int a1_1] = f108 (runE G ext n) n a0_1 a1_1 := runE_succ f108_at f108_in

end Go.Proofs.Ytncajhkogppojaa.Ev
