/- What the evaluator does with the functions, as programs over plain values: printed by gen.py, checked by the kernel. -/
import Derived.Test.YtncajhkogppojaaGreatEvFA
namespace Go.Proofs.YtncajhkogppojaaGreat.Ev
open Go Go.RowKit
set_option maxRecDepth 100000


noncomputable def f46_l0 (run : Run) (n : Nat) (k0 : Nat) (x5_1 : List AV) (x6_1 : List AV) (x7_1 : Int) : Option Res :=
  iterK (evalK G run n f46_keep 0 (sub [1, 1, 1, 1, 0, 0, 0] f46_body)) f46_t0 f46_o0 (blockK 0 (seqK (evalK G run n f46_keep 0 (sub [1, 1, 1, 1, 1] f46_body) (retE G f46_info)) (retE G f46_info))) k0
    ⟨[.any, .any, .any, .any, .any, .val (.slice .bool) (some (5, 0)) (.slice x5_1), .val (.slice .bool) (some (6, 0)) (.slice x6_1), .val (.int .i64) none (.int x7_1), .any, .any, .any, .any, .any, .any, .any, .any, .any, .any, .any, .any, .any, .any, .any, .any, .any, .any], [⟨0, none⟩, ⟨0, none⟩, ⟨0, none⟩, ⟨0, none⟩, ⟨0, none⟩, ⟨0, none⟩, ⟨0, none⟩, ⟨0, none⟩, ⟨0, none⟩, ⟨0, none⟩, ⟨0, none⟩, ⟨0, none⟩, ⟨0, none⟩, ⟨0, none⟩, ⟨0, none⟩, ⟨0, none⟩, ⟨0, none⟩, ⟨0, none⟩, ⟨0, none⟩, ⟨0, none⟩, ⟨0, none⟩, ⟨0, none⟩, ⟨0, none⟩, ⟨0, none⟩, ⟨0, none⟩, ⟨0, none⟩], List.replicate 26 0⟩
theorem f46_l0_eq (run : Run) (n : Nat) (k0 : Nat) (x5_1 : List AV) (x6_1 : List AV) (x7_1 : Int) : f46_l0 run n (k0 + 1) x5_1 x6_1 x7_1 =
  bif ltI x7_1 256 then
    (run 84 [.slice x6_1, .int x7_1]).bind fun r3 =>
    nilV r3.outs (consV r3.vals fun v3 vs3 =>
    nilV vs3 ((run 83 [.slice x5_1, .slice v3.toSlice]).bind fun r4 =>
    nilV r4.outs (consV r4.vals fun v4 vs4 =>
    nilV vs4 (bif leI v4.toInt 0 then
    f46_l0 run n k0 x5_1 x6_1 (IntKind.wrap .i64 (x7_1 + 1))
  else
    some ⟨[.int (IntKind.wrap .i64 (x7_1 - 1))], [], f46_fresh⟩))))
  else
    some ⟨[.int (IntKind.wrap .i64 (x7_1 - 1))], [], f46_fresh⟩ := by kernel_rfl
noncomputable def f46 (run : Run) (n : Nat) (a0_1 : List UInt8) (a1_1 : List UInt8) : Option Res := evalK G run n f46_info.keep 0 f46_info.body (retE G f46_info) (f46_info.start [.blob a0_1, .blob a1_1])
theorem f46_eq (run : Run) (n : Nat) (a0_1 : List UInt8) (a1_1 : List UInt8) : f46 run n a0_1 a1_1 =
  (run 82 [.blob a0_1]).bind fun r1 =>
    bif r1.fresh then
    nilV r1.outs (consV r1.vals fun v1 vs1 =>
    nilV vs1 ((run 82 [.blob a1_1]).bind fun r2 =>
    bif r2.fresh then
    nilV r2.outs (consV r2.vals fun v2 vs2 =>
    nilV vs2 (f46_l0 run n n v1.toSlice v2.toSlice 0))
  else none))
  else none := by kernel_rfl
theorem f46_run (ext : Run) (n : Nat) (a0_1 : List UInt8) (a1_1 : List UInt8) : runE G ext (n + 1) 46 [.blob a0_1, .blob a1_1] = f46 (runE G ext n) n a0_1 a1_1 := runE_succ f46_at f46_in

noncomputable def f13_l0 (run : Run) (n : Nat) (k0 : Nat) (x1_1 : List AV) (x5_1 : List AV) (x6_1 : Int) (o2_1 : List UInt8) : Option Res :=
  iterK (evalK G run n f13_keep 0 (sub [1, 1, 0, 1, 0, 0] f13_body)) f13_t0 f13_o0 (blockK 0 (seqK (evalK G run n f13_keep 0 (sub [1, 1, 1] f13_body) (retE G f13_info)) (retE G f13_info))) k0
    ⟨[.any, .val (.slice (.blob 32)) none (.slice x1_1), .ptr ⟨(.blob 32), 2, 1, []⟩, .any, .any, .val (.slice (.int .i64)) (some (5, 0)) (.slice x5_1), .val (.int .i64) none (.int x6_1), .any, .any, .any, .any, .any, .any, .any, .any, .any, .any, .any, .any, .any, .any, .any, .any, .any, .any, .any, .any, .any], [⟨0, none⟩, ⟨0, none⟩, ⟨1, some ⟨(.blob 32), .blob o2_1⟩⟩, ⟨0, none⟩, ⟨0, none⟩, ⟨0, none⟩, ⟨0, none⟩, ⟨0, none⟩, ⟨0, none⟩, ⟨0, none⟩, ⟨0, none⟩, ⟨0, none⟩, ⟨0, none⟩, ⟨0, none⟩, ⟨0, none⟩, ⟨0, none⟩, ⟨0, none⟩, ⟨0, none⟩, ⟨0, none⟩, ⟨0, none⟩, ⟨0, none⟩, ⟨0, none⟩, ⟨0, none⟩, ⟨0, none⟩, ⟨0, none⟩, ⟨0, none⟩, ⟨0, none⟩, ⟨0, none⟩], List.replicate 28 0⟩
theorem f13_l0_eq (run : Run) (n : Nat) (k0 : Nat) (x1_1 : List AV) (x5_1 : List AV) (x6_1 : Int) (o2_1 : List UInt8) : f13_l0 run n (k0 + 1) x1_1 x5_1 x6_1 o2_1 =
  bif ltI x6_1 (x1_1.length : Int) then
    bif eqI x6_1 0 then
    bif Nat.ble ((x5_1.length + 1) * 8) 140737488355328 then
    f13_l0 run n k0 x1_1 (x5_1 ++ [.int 256]) (IntKind.wrap .i64 (x6_1 + 1)) o2_1
  else none
  else
    bif inR x6_1 x1_1.length then
    (run 46 [.blob ((nth x1_1 (Int.toNat x6_1)).toBlob), .blob o2_1]).bind fun r1 =>
    nilV r1.outs (consV r1.vals fun v1 vs1 =>
    nilV vs1 (bif Nat.ble ((x5_1.length + 1) * 8) 140737488355328 then
    f13_l0 run n k0 x1_1 (x5_1 ++ [.int v1.toInt]) (IntKind.wrap .i64 (x6_1 + 1)) o2_1
  else none))
  else none
  else
    some ⟨[.slice x5_1], [], f13_fresh⟩ := by kernel_rfl
noncomputable def f13 (run : Run) (n : Nat) (a0_1 : List UInt8) (a1_1 : List AV) : Option Res := evalK G run n f13_info.keep 0 f13_info.body (retE G f13_info) (f13_info.start [.blob a0_1, .slice a1_1])
theorem f13_eq (run : Run) (n : Nat) (a0_1 : List UInt8) (a1_1 : List AV) : f13 run n a0_1 a1_1 =
  f13_l0 run n n a1_1 [] 0 a0_1 := by kernel_rfl
theorem f13_run (ext : Run) (n : Nat) (a0_1 : List UInt8) (a1_1 : List AV) : runE G ext (n + 1) 13 [.blob a0_1, .slice a1_1] = f13 (runE G ext n) n a0_1 a1_1 := runE_succ f13_at f13_in

noncomputable def f14_l0 (run : Run) (n : Nat) (k0 : Nat) (x5_1 : List AV) (x9_1 : List AV) (x10_1 : Int) (x11_1 : Int) (o2_1 : List UInt8) : Option Res :=
  iterK (evalK G run n f14_keep 0 (sub [1, 1, 0, 1, 0, 0] f14_body)) f14_t0 f14_o0 (blockK 0 (seqK (evalK G run n f14_keep 0 (sub [1, 1, 1] f14_body) (retE G f14_info)) (retE G f14_info))) k0
    ⟨[.any, .any, .ptr ⟨(.blob 32), 2, 1, []⟩, .any, .any, .val (.slice (.int .i64)) (some (5, 0)) (.slice x5_1), .any, .any, .any, .val (.slice (.struct [(.struct [(.int .u32), (.blob 32), (.blob 32), (.int .u64)]), (.slice .str)])) none (.slice x9_1), .val (.int .i64) none (.int x10_1), .val (.int .i64) none (.int x11_1), .any, .any, .any, .any, .any, .any, .any, .any, .any, .any, .any, .any, .any, .any, .any, .any], [⟨0, none⟩, ⟨0, none⟩, ⟨1, some ⟨(.blob 32), .blob o2_1⟩⟩, ⟨0, none⟩, ⟨0, none⟩, ⟨0, none⟩, ⟨0, none⟩, ⟨0, none⟩, ⟨0, none⟩, ⟨0, none⟩, ⟨0, none⟩, ⟨0, none⟩, ⟨0, none⟩, ⟨0, none⟩, ⟨0, none⟩, ⟨0, none⟩, ⟨0, none⟩, ⟨0, none⟩, ⟨0, none⟩, ⟨0, none⟩, ⟨0, none⟩, ⟨0, none⟩, ⟨0, none⟩, ⟨0, none⟩, ⟨0, none⟩, ⟨0, none⟩, ⟨0, none⟩, ⟨0, none⟩], List.replicate 28 0⟩
theorem f14_l0_eq (run : Run) (n : Nat) (k0 : Nat) (x5_1 : List AV) (x9_1 : List AV) (x10_1 : Int) (x11_1 : Int) (o2_1 : List UInt8) : f14_l0 run n (k0 + 1) x5_1 x9_1 x10_1 x11_1 o2_1 =
  bif ltI x11_1 x10_1 then
    bif inR x11_1 x9_1.length then
    (run 48 [.agg [.agg [.int ((((nth x9_1 (Int.toNat x11_1)).fld 0).fld 0).toInt), .blob ((((nth x9_1 (Int.toNat x11_1)).fld 0).fld 1).toBlob), .blob ((((nth x9_1 (Int.toNat x11_1)).fld 0).fld 2).toBlob), .int ((((nth x9_1 (Int.toNat x11_1)).fld 0).fld 3).toInt)], .slice (((nth x9_1 (Int.toNat x11_1)).fld 1).toSlice)]]).bind fun r1 =>
    nilV r1.outs (consV r1.vals fun v1 vs1 =>
    nilV vs1 ((run 47 [.blob v1.toBlob, .blob o2_1]).bind fun r2 =>
    nilV r2.outs (consV r2.vals fun v2 vs2 =>
    nilV vs2 (bif eqI x11_1 0 then
    bif Nat.ble ((x5_1.length + 1) * 8) 140737488355328 then
    f14_l0 run n k0 (x5_1 ++ [.int 256]) x9_1 x10_1 (IntKind.wrap .i64 (x11_1 + 1)) o2_1
  else none
  else
    bif Nat.ble ((x5_1.length + 1) * 8) 140737488355328 then
    f14_l0 run n k0 (x5_1 ++ [.int v2.toInt]) x9_1 x10_1 (IntKind.wrap .i64 (x11_1 + 1)) o2_1
  else none))))
  else none
  else
    some ⟨[.slice x5_1], [], f14_fresh⟩ := by kernel_rfl
noncomputable def f14 (run : Run) (n : Nat) (a0_1 : List UInt8) (a1_1 : List AV) : Option Res := evalK G run n f14_info.keep 0 f14_info.body (retE G f14_info) (f14_info.start [.blob a0_1, .slice a1_1])
theorem f14_eq (run : Run) (n : Nat) (a0_1 : List UInt8) (a1_1 : List AV) : f14 run n a0_1 a1_1 =
  f14_l0 run n n [] a1_1 (a1_1.length : Int) 0 a0_1 := by kernel_rfl
theorem f14_run (ext : Run) (n : Nat) (a0_1 : List UInt8) (a1_1 : List AV) : runE G ext (n + 1) 14 [.blob a0_1, .slice a1_1] = f14 (runE G ext n) n a0_1 a1_1 := runE_succ f14_at f14_in

noncomputable def f17_l0 (run : Run) (n : Nat) (k0 : Nat) (x3_1 : List AV) (x6_1 : List AV) (x7_1 : Int) (x8_1 : Int) : Option Res :=
  iterK (evalK G run n f17_keep 0 (sub [1, 1, 0, 1, 0, 0] f17_body)) f17_t0 f17_o0 (blockK 0 (seqK (evalK G run n f17_keep 0 (sub [1, 1, 1] f17_body) (retE G f17_info)) (retE G f17_info))) k0
    ⟨[.any, .any, .any, .val (.slice (.blob 32)) (some (3, 0)) (.slice x3_1), .any, .any, .val (.slice (.struct [(.struct [(.int .u32), (.blob 32), (.blob 32), (.int .u64)]), (.slice .str)])) none (.slice x6_1), .val (.int .i64) none (.int x7_1), .val (.int .i64) none (.int x8_1), .any, .any, .any, .any, .any, .any, .any, .any, .any, .any], [⟨0, none⟩, ⟨0, none⟩, ⟨0, none⟩, ⟨0, none⟩, ⟨0, none⟩, ⟨0, none⟩, ⟨0, none⟩, ⟨0, none⟩, ⟨0, none⟩, ⟨0, none⟩, ⟨0, none⟩, ⟨0, none⟩, ⟨0, none⟩, ⟨0, none⟩, ⟨0, none⟩, ⟨0, none⟩, ⟨0, none⟩, ⟨0, none⟩, ⟨0, none⟩], List.replicate 19 0⟩
theorem f17_l0_eq (run : Run) (n : Nat) (k0 : Nat) (x3_1 : List AV) (x6_1 : List AV) (x7_1 : Int) (x8_1 : Int) : f17_l0 run n (k0 + 1) x3_1 x6_1 x7_1 x8_1 =
  bif ltI x8_1 x7_1 then
    bif inR x8_1 x6_1.length then
    (run 48 [.agg [.agg [.int ((((nth x6_1 (Int.toNat x8_1)).fld 0).fld 0).toInt), .blob ((((nth x6_1 (Int.toNat x8_1)).fld 0).fld 1).toBlob), .blob ((((nth x6_1 (Int.toNat x8_1)).fld 0).fld 2).toBlob), .int ((((nth x6_1 (Int.toNat x8_1)).fld 0).fld 3).toInt)], .slice (((nth x6_1 (Int.toNat x8_1)).fld 1).toSlice)]]).bind fun r1 =>
    nilV r1.outs (consV r1.vals fun v1 vs1 =>
    nilV vs1 (bif Nat.ble ((x3_1.length + 1) * 32) 140737488355328 then
    f17_l0 run n k0 (x3_1 ++ [.blob v1.toBlob]) x6_1 x7_1 (IntKind.wrap .i64 (x8_1 + 1))
  else none))
  else none
  else
    some ⟨[.slice x3_1], [], f17_fresh⟩ := by kernel_rfl
noncomputable def f17 (run : Run) (n : Nat) (a0_1 : List AV) : Option Res := evalK G run n f17_info.keep 0 f17_info.body (retE G f17_info) (f17_info.start [.slice a0_1])
theorem f17_eq (run : Run) (n : Nat) (a0_1 : List AV) : f17 run n a0_1 =
  f17_l0 run n n [] a0_1 (a0_1.length : Int) 0 := by kernel_rfl
theorem f17_run (ext : Run) (n : Nat) (a0_1 : List AV) : runE G ext (n + 1) 17 [.slice a0_1] = f17 (runE G ext n) n a0_1 := runE_succ f17_at f17_in

noncomputable def f16_l0 (run : Run) (n : Nat) (k0 : Nat) (x0_1 : List AV) (x1_1 : List AV) (x5_1 : Int) : Option Res :=
  iterK (evalK G run n f16_keep 0 (sub [1, 1, 0, 1, 0, 0] f16_body)) f16_t0 f16_o0 (blockK 0 (seqK (evalK G run n f16_keep 0 (sub [1, 1, 1] f16_body) (retE G f16_info)) (retE G f16_info))) k0
    ⟨[.val (.slice (.blob 32)) none (.slice x0_1), .val (.slice (.blob 32)) none (.slice x1_1), .any, .any, .any, .val (.int .i64) none (.int x5_1), .any, .any, .any, .any, .any, .any, .any, .any, .any, .any, .any, .any, .any, .any, .any, .any, .any, .any, .any, .any], [⟨0, none⟩, ⟨0, none⟩, ⟨0, none⟩, ⟨0, none⟩, ⟨0, none⟩, ⟨0, none⟩, ⟨0, none⟩, ⟨0, none⟩, ⟨0, none⟩, ⟨0, none⟩, ⟨0, none⟩, ⟨0, none⟩, ⟨0, none⟩, ⟨0, none⟩, ⟨0, none⟩, ⟨0, none⟩, ⟨0, none⟩, ⟨0, none⟩, ⟨0, none⟩, ⟨0, none⟩, ⟨0, none⟩, ⟨0, none⟩, ⟨0, none⟩, ⟨0, none⟩, ⟨0, none⟩, ⟨0, none⟩], List.replicate 26 0⟩
theorem f16_l0_eq (run : Run) (n : Nat) (k0 : Nat) (x0_1 : List AV) (x1_1 : List AV) (x5_1 : Int) : f16_l0 run n (k0 + 1) x0_1 x1_1 x5_1 =
  bif ltI x5_1 (x0_1.length : Int) then
    bif inR x5_1 x0_1.length then
    bif inR x5_1 x1_1.length then
    bif !(eqS ((nth x0_1 (Int.toNat x5_1)).toBlob) ((nth x1_1 (Int.toNat x5_1)).toBlob)) then
    some ⟨[.bool false], [], f16_fresh⟩
  else
    f16_l0 run n k0 x0_1 x1_1 (IntKind.wrap .i64 (x5_1 + 1))
  else none
  else none
  else
    some ⟨[.bool true], [], f16_fresh⟩ := by kernel_rfl
noncomputable def f16 (run : Run) (n : Nat) (a0_1 : List AV) (a1_1 : List AV) : Option Res := evalK G run n f16_info.keep 0 f16_info.body (retE G f16_info) (f16_info.start [.slice a0_1, .slice a1_1])
theorem f16_eq (run : Run) (n : Nat) (a0_1 : List AV) (a1_1 : List AV) : f16 run n a0_1 a1_1 =
  bif !(eqI (a0_1.length : Int) (a1_1.length : Int)) then
    some ⟨[.bool false], [], f16_fresh⟩
  else
    f16_l0 run n n a0_1 a1_1 0 := by kernel_rfl
theorem f16_run (ext : Run) (n : Nat) (a0_1 : List AV) (a1_1 : List AV) : runE G ext (n + 1) 16 [.slice a0_1, .slice a1_1] = f16 (runE G ext n) n a0_1 a1_1 := runE_succ f16_at f16_in

noncomputable def f50_l0 (run : Run) (n : Nat) (k0 : Nat) (x0_1 : List AV) (x2_1 : Int) (x7_1 : Int) (x8_1 : List AV) (x9_1 : Int) (o4_1 : List UInt8) : Option Res :=
  iterK (evalK G run n f50_keep 0 (sub [1, 1, 1, 1, 1, 1, 1, 0, 1, 0, 0] f50_body)) f50_t0 f50_o0 (blockK 0 (seqK (evalK G run n f50_keep 0 (sub [1, 1, 1, 1, 1, 1, 1, 1] f50_body) (retE G f50_info)) (retE G f50_info))) k0
    ⟨[.val (.slice (.blob 32)) none (.slice x0_1), .any, .val (.int .i64) none (.int x2_1), .any, .ptr ⟨(.blob 32), 4, 1, []⟩, .any, .any, .val (.int .i64) none (.int x7_1), .val (.slice (.blob 32)) (some (8, 0)) (.slice x8_1), .val (.int .i64) none (.int x9_1), .any, .any, .any, .any, .any, .any, .any, .any, .any, .any, .any, .any, .any, .any, .any, .any, .any, .any, .any, .any, .any, .any, .any, .any, .any, .any, .any, .any, .any, .any, .any, .any, .any, .any, .any, .any, .any, .any, .any, .any, .any, .any, .any, .any, .any, .any, .any, .any, .any, .any, .any, .any, .any, .any], [⟨0, none⟩, ⟨0, none⟩, ⟨0, none⟩, ⟨0, none⟩, ⟨1, some ⟨(.blob 32), .blob o4_1⟩⟩, ⟨0, none⟩, ⟨0, none⟩, ⟨0, none⟩, ⟨0, none⟩, ⟨0, none⟩, ⟨0, none⟩, ⟨0, none⟩, ⟨0, none⟩, ⟨0, none⟩, ⟨0, none⟩, ⟨0, none⟩, ⟨0, none⟩, ⟨0, none⟩, ⟨0, none⟩, ⟨0, none⟩, ⟨0, none⟩, ⟨0, none⟩, ⟨0, none⟩, ⟨0, none⟩, ⟨0, none⟩, ⟨0, none⟩, ⟨0, none⟩, ⟨0, none⟩, ⟨0, none⟩, ⟨0, none⟩, ⟨0, none⟩, ⟨0, none⟩, ⟨0, none⟩, ⟨0, none⟩, ⟨0, none⟩, ⟨0, none⟩, ⟨0, none⟩, ⟨0, none⟩, ⟨0, none⟩, ⟨0, none⟩, ⟨0, none⟩, ⟨0, none⟩, ⟨0, none⟩, ⟨0, none⟩, ⟨0, none⟩, ⟨0, none⟩, ⟨0, none⟩, ⟨0, none⟩, ⟨0, none⟩, ⟨0, none⟩, ⟨0, none⟩, ⟨0, none⟩, ⟨0, none⟩, ⟨0, none⟩, ⟨0, none⟩, ⟨0, none⟩, ⟨0, none⟩, ⟨0, none⟩, ⟨0, none⟩, ⟨0, none⟩, ⟨0, none⟩, ⟨0, none⟩, ⟨0, none⟩, ⟨0, none⟩], List.replicate 64 0⟩
theorem f50_l0_eq (run : Run) (n : Nat) (k0 : Nat) (x0_1 : List AV) (x2_1 : Int) (x7_1 : Int) (x8_1 : List AV) (x9_1 : Int) (o4_1 : List UInt8) : f50_l0 run n (k0 + 1) x0_1 x2_1 x7_1 x8_1 x9_1 o4_1 =
  bif ltI x9_1 x7_1 then
    bif leI x9_1 x2_1 then
    bif ltI x9_1 (IntKind.wrap .i64 (x7_1 - 1)) then
    bif Nat.ble ((x8_1.length + 1) * 32) 140737488355328 then
    f50_l0 run n k0 x0_1 x2_1 x7_1 (x8_1 ++ [.blob o4_1]) (IntKind.wrap .i64 (x9_1 + 1)) o4_1
  else none
  else
    bif ltI x9_1 (x0_1.length : Int) then
    bif inR x9_1 x0_1.length then
    bif Nat.ble ((x8_1.length + 1) * 32) 140737488355328 then
    f50_l0 run n k0 x0_1 x2_1 x7_1 (x8_1 ++ [.blob ((nth x0_1 (Int.toNat x9_1)).toBlob)]) (IntKind.wrap .i64 (x9_1 + 1)) o4_1
  else none
  else none
  else
    bif inR (IntKind.wrap .i64 ((x0_1.length : Int) - 1)) x0_1.length then
    bif Nat.ble ((x8_1.length + 1) * 32) 140737488355328 then
    f50_l0 run n k0 x0_1 x2_1 x7_1 (x8_1 ++ [.blob ((nth x0_1 (Int.toNat (IntKind.wrap .i64 ((x0_1.length : Int) - 1)))).toBlob)]) (IntKind.wrap .i64 (x9_1 + 1)) o4_1
  else none
  else none
  else
    bif ltI x9_1 (x0_1.length : Int) then
    bif inR x9_1 x0_1.length then
    bif Nat.ble ((x8_1.length + 1) * 32) 140737488355328 then
    f50_l0 run n k0 x0_1 x2_1 x7_1 (x8_1 ++ [.blob ((nth x0_1 (Int.toNat x9_1)).toBlob)]) (IntKind.wrap .i64 (x9_1 + 1)) o4_1
  else none
  else none
  else
    bif inR (IntKind.wrap .i64 ((x0_1.length : Int) - 1)) x0_1.length then
    bif Nat.ble ((x8_1.length + 1) * 32) 140737488355328 then
    f50_l0 run n k0 x0_1 x2_1 x7_1 (x8_1 ++ [.blob ((nth x0_1 (Int.toNat (IntKind.wrap .i64 ((x0_1.length : Int) - 1)))).toBlob)]) (IntKind.wrap .i64 (x9_1 + 1)) o4_1
  else none
  else none
  else
    some ⟨[.slice x8_1], [], f50_fresh⟩ := by kernel_rfl
noncomputable def f50 (run : Run) (n : Nat) (a0_1 : List AV) (a1_1 : List UInt8) (a2_1 : Int) : Option Res := evalK G run n f50_info.keep 0 f50_info.body (retE G f50_info) (f50_info.start [.slice a0_1, .blob a1_1, .int a2_1])
theorem f50_eq (run : Run) (n : Nat) (a0_1 : List AV) (a1_1 : List UInt8) (a2_1 : Int) : f50 run n a0_1 a1_1 a2_1 =
  bif eqI (a0_1.length : Int) 0 then
    some ⟨[.slice []], [], f50_fresh⟩
  else
    bif ltI a2_1 0 then
    bif ltI 2 (a0_1.length : Int) then
    f50_l0 run n n a0_1 0 (a0_1.length : Int) [] 0 a1_1
  else
    f50_l0 run n n a0_1 0 2 [] 0 a1_1
  else
    bif ltI 255 a2_1 then
    bif ltI 257 (a0_1.length : Int) then
    f50_l0 run n n a0_1 255 (a0_1.length : Int) [] 0 a1_1
  else
    f50_l0 run n n a0_1 255 257 [] 0 a1_1
  else
    bif ltI (IntKind.wrap .i64 (a2_1 + 2)) (a0_1.length : Int) then
    f50_l0 run n n a0_1 a2_1 (a0_1.length : Int) [] 0 a1_1
  else
    f50_l0 run n n a0_1 a2_1 (IntKind.wrap .i64 (a2_1 + 2)) [] 0 a1_1 := by kernel_rfl
theorem f50_run (ext : Run) (n : Nat) (a0_1 : List AV) (a1_1 : List UInt8) (a2_1 : Int) : runE G ext (n + 1) 50 [.slice a0_1, .blob a1_1, .int a2_1] = f50 (runE G ext n) n a0_1 a1_1 a2_1 := runE_succ f50_at f50_in

noncomputable def f18_l0 (run : Run) (n : Nat) (k0 : Nat) (x0_1 : List AV) (x1_1 : List AV) (x2_1 : Int) (x7_1 : List AV) (x8_1 : Int) : Option Res :=
  iterK (evalK G run n f18_keep 0 (sub [1, 1, 1, 0, 1, 0, 0] f18_body)) f18_t0 f18_o0 (blockK 0 (seqK (evalK G run n f18_keep 0 (sub [1, 1, 1, 1] f18_body) (retE G f18_info)) (retE G f18_info))) k0
    ⟨[.val (.slice (.blob 32)) none (.slice x0_1), .val (.slice (.int .i64)) none (.slice x1_1), .val (.int .i64) none (.int x2_1), .any, .any, .any, .any, .val (.slice (.blob 32)) (some (7, 0)) (.slice x7_1), .val (.int .i64) none (.int x8_1), .any, .any, .any, .any, .any, .any, .any, .any, .any, .any, .any, .any, .any, .any, .any, .any, .any, .any, .any, .any, .any, .any], [⟨0, none⟩, ⟨0, none⟩, ⟨0, none⟩, ⟨0, none⟩, ⟨0, none⟩, ⟨0, none⟩, ⟨0, none⟩, ⟨0, none⟩, ⟨0, none⟩, ⟨0, none⟩, ⟨0, none⟩, ⟨0, none⟩, ⟨0, none⟩, ⟨0, none⟩, ⟨0, none⟩, ⟨0, none⟩, ⟨0, none⟩, ⟨0, none⟩, ⟨0, none⟩, ⟨0, none⟩, ⟨0, none⟩, ⟨0, none⟩, ⟨0, none⟩, ⟨0, none⟩, ⟨0, none⟩, ⟨0, none⟩, ⟨0, none⟩, ⟨0, none⟩, ⟨0, none⟩, ⟨0, none⟩, ⟨0, none⟩], List.replicate 31 0⟩
theorem f18_l0_eq (run : Run) (n : Nat) (k0 : Nat) (x0_1 : List AV) (x1_1 : List AV) (x2_1 : Int) (x7_1 : List AV) (x8_1 : Int) : f18_l0 run n (k0 + 1) x0_1 x1_1 x2_1 x7_1 x8_1 =
  bif ltI x8_1 x2_1 then
    bif inR x8_1 x0_1.length then
    bif inR x8_1 x1_1.length then
    (run 50 [.slice x7_1, .blob ((nth x0_1 (Int.toNat x8_1)).toBlob), .int ((nth x1_1 (Int.toNat x8_1)).toInt)]).bind fun r1 =>
    bif r1.fresh then
    nilV r1.outs (consV r1.vals fun v1 vs1 =>
    nilV vs1 (f18_l0 run n k0 x0_1 x1_1 x2_1 v1.toSlice (IntKind.wrap .i64 (x8_1 + 1))))
  else none
  else none
  else none
  else
    some ⟨[.slice x7_1], [], f18_fresh⟩ := by kernel_rfl
noncomputable def f18 (run : Run) (n : Nat) (a0_1 : List AV) (a1_1 : List AV) (a2_1 : Int) : Option Res := evalK G run n f18_info.keep 0 f18_info.body (retE G f18_info) (f18_info.start [.slice a0_1, .slice a1_1, .int a2_1])
theorem f18_eq (run : Run) (n : Nat) (a0_1 : List AV) (a1_1 : List AV) (a2_1 : Int) : f18 run n a0_1 a1_1 a2_1 =
  bif ltI a2_1 1 then
    some ⟨[.slice []], [], f18_fresh⟩
  else
    bif inR 0 a0_1.length then
    f18_l0 run n n a0_1 a1_1 a2_1 [.blob ((nth a0_1 0).toBlob)] 1
  else none := by kernel_rfl
theorem f18_run (ext : Run) (n : Nat) (a0_1 : List AV) (a1_1 : List AV) (a2_1 : Int) : runE G ext (n + 1) 18 [.slice a0_1, .slice a1_1, .int a2_1] = f18 (runE G ext n) n a0_1 a1_1 a2_1 := runE_succ f18_at f18_in

noncomputable def f3_l2 (run : Run) (n : Nat) (_k0 : Nat) (k2 : Nat) (x5_3 : List AV) (x6_3 : List AV) (x8_3 : List AV) (x10_1 : Int) : Option Res :=
  iterK (evalK G run n f3_keep 2 (sub [1, 1, 1, 1, 1, 1, 1, 0, 1, 0, 0] f3_body)) f3_t2 f3_o2 (blockK 2 (seqK (evalK G run n f3_keep 0 (sub [1, 1, 1, 1, 1, 1, 1, 1] f3_body) (retE G f3_info)) (retE G f3_info))) k2
    ⟨[.any, .any, .any, .any, .any, .val (.slice (.blob 32)) (some (5, 0)) (.slice x5_3), .val (.slice (.int .i64)) (some (6, 0)) (.slice x6_3), .any, .val (.slice (.slice (.blob 32))) (some (8, 0)) (.slice x8_3), .any, .val (.int .i64) none (.int x10_1), .any, .any, .any, .any, .any, .any, .any, .any, .any, .any, .any, .any, .any, .any, .any, .any, .any, .any, .any, .any, .any, .any, .any, .any, .any, .any, .any, .any, .any, .any, .any, .any, .any, .any, .any, .any, .any, .any, .any, .any, .any, .any, .any, .any, .any, .any, .any, .any, .any, .any, .any, .any, .any, .any, .any, .any, .any, .any, .any, .any, .any, .any, .any, .any, .any, .any], [⟨0, none⟩, ⟨0, none⟩, ⟨0, none⟩, ⟨0, none⟩, ⟨0, none⟩, ⟨0, none⟩, ⟨0, none⟩, ⟨0, none⟩, ⟨0, none⟩, ⟨0, none⟩, ⟨0, none⟩, ⟨0, none⟩, ⟨0, none⟩, ⟨0, none⟩, ⟨0, none⟩, ⟨0, none⟩, ⟨0, none⟩, ⟨0, none⟩, ⟨0, none⟩, ⟨0, none⟩, ⟨0, none⟩, ⟨0, none⟩, ⟨0, none⟩, ⟨0, none⟩, ⟨0, none⟩, ⟨0, none⟩, ⟨0, none⟩, ⟨0, none⟩, ⟨0, none⟩, ⟨0, none⟩, ⟨0, none⟩, ⟨0, none⟩, ⟨0, none⟩, ⟨0, none⟩, ⟨0, none⟩, ⟨0, none⟩, ⟨0, none⟩, ⟨0, none⟩, ⟨0, none⟩, ⟨0, none⟩, ⟨0, none⟩, ⟨0, none⟩, ⟨0, none⟩, ⟨0, none⟩, ⟨0, none⟩, ⟨0, none⟩, ⟨0, none⟩, ⟨0, none⟩, ⟨0, none⟩, ⟨0, none⟩, ⟨0, none⟩, ⟨0, none⟩, ⟨0, none⟩, ⟨0, none⟩, ⟨0, none⟩, ⟨0, none⟩, ⟨0, none⟩, ⟨0, none⟩, ⟨0, none⟩, ⟨0, none⟩, ⟨0, none⟩, ⟨0, none⟩, ⟨0, none⟩, ⟨0, none⟩, ⟨0, none⟩, ⟨0, none⟩, ⟨0, none⟩, ⟨0, none⟩, ⟨0, none⟩, ⟨0, none⟩, ⟨0, none⟩, ⟨0, none⟩, ⟨0, none⟩, ⟨0, none⟩, ⟨0, none⟩, ⟨0, none⟩, ⟨0, none⟩], List.replicate 77 0⟩
noncomputable def f3_l0 (run : Run) (n : Nat) (k0 : Nat) (x5_1 : List AV) (x6_1 : List AV) (x7_1 : List AV) (x8_1 : List AV) (x9_1 : Int) : Option Res :=
  iterK (evalK G run n f3_keep 0 (sub [1, 1, 1, 1, 1, 1, 0, 1, 0, 0] f3_body)) f3_t0 f3_o0 (blockK 0 (seqK (evalK G run n f3_keep 0 (sub [1, 1, 1, 1, 1, 1, 1] f3_body) (retE G f3_info)) (retE G f3_info))) k0
    ⟨[.any, .any, .any, .any, .any, .val (.slice (.blob 32)) (some (5, 0)) (.slice x5_1), .val (.slice (.int .i64)) (some (6, 0)) (.slice x6_1), .val (.slice (.int .i64)) (some (7, 0)) (.slice x7_1), .val (.slice (.slice (.blob 32))) (some (8, 0)) (.slice x8_1), .val (.int .i64) none (.int x9_1), .any, .any, .any, .any, .any, .any, .any, .any, .any, .any, .any, .any, .any, .any, .any, .any, .any, .any, .any, .any, .any, .any, .any, .any, .any, .any, .any, .any, .any, .any, .any, .any, .any, .any, .any, .any, .any, .any, .any, .any, .any, .any, .any, .any, .any, .any, .any, .any, .any, .any, .any, .any, .any, .any, .any, .any, .any, .any, .any, .any, .any, .any, .any, .any, .any, .any, .any], [⟨0, none⟩, ⟨0, none⟩, ⟨0, none⟩, ⟨0, none⟩, ⟨0, none⟩, ⟨0, none⟩, ⟨0, none⟩, ⟨0, none⟩, ⟨0, none⟩, ⟨0, none⟩, ⟨0, none⟩, ⟨0, none⟩, ⟨0, none⟩, ⟨0, none⟩, ⟨0, none⟩, ⟨0, none⟩, ⟨0, none⟩, ⟨0, none⟩, ⟨0, none⟩, ⟨0, none⟩, ⟨0, none⟩, ⟨0, none⟩, ⟨0, none⟩, ⟨0, none⟩, ⟨0, none⟩, ⟨0, none⟩, ⟨0, none⟩, ⟨0, none⟩, ⟨0, none⟩, ⟨0, none⟩, ⟨0, none⟩, ⟨0, none⟩, ⟨0, none⟩, ⟨0, none⟩, ⟨0, none⟩, ⟨0, none⟩, ⟨0, none⟩, ⟨0, none⟩, ⟨0, none⟩, ⟨0, none⟩, ⟨0, none⟩, ⟨0, none⟩, ⟨0, none⟩, ⟨0, none⟩, ⟨0, none⟩, ⟨0, none⟩, ⟨0, none⟩, ⟨0, none⟩, ⟨0, none⟩, ⟨0, none⟩, ⟨0, none⟩, ⟨0, none⟩, ⟨0, none⟩, ⟨0, none⟩, ⟨0, none⟩, ⟨0, none⟩, ⟨0, none⟩, ⟨0, none⟩, ⟨0, none⟩, ⟨0, none⟩, ⟨0, none⟩, ⟨0, none⟩, ⟨0, none⟩, ⟨0, none⟩, ⟨0, none⟩, ⟨0, none⟩, ⟨0, none⟩, ⟨0, none⟩, ⟨0, none⟩, ⟨0, none⟩, ⟨0, none⟩, ⟨0, none⟩, ⟨0, none⟩, ⟨0, none⟩, ⟨0, none⟩, ⟨0, none⟩, ⟨0, none⟩], List.replicate 77 0⟩
theorem f3_l2_eq (run : Run) (n : Nat) (k0 : Nat) (k2 : Nat) (x5_3 : List AV) (x6_3 : List AV) (x8_3 : List AV) (x10_1 : Int) : f3_l2 run n k0 (k2 + 1) x5_3 x6_3 x8_3 x10_1 =
  bif ltI x10_1 (x8_3.length : Int) then
    bif inR x10_1 x8_3.length then
    (run 18 [.slice x5_3, .slice x6_3, .int x10_1]).bind fun r9 =>
    bif r9.fresh then
    nilV r9.outs (consV r9.vals fun v9 vs9 =>
    nilV vs9 ((run 16 [.slice ((nth x8_3 (Int.toNat x10_1)).toSlice), .slice v9.toSlice]).bind fun r10 =>
    nilV r10.outs (consV r10.vals fun v10 vs10 =>
    nilV vs10 (bif !v10.toBool then
    some ⟨[.bool false], [], f3_fresh⟩
  else
    f3_l2 run n k0 k2 x5_3 x6_3 x8_3 (IntKind.wrap .i64 (x10_1 + 1))))))
  else none
  else none
  else
    (run 11 []).bind fun r11 =>
    nilV r11.outs (consV r11.vals fun v11 vs11 =>
    nilV vs11 (some ⟨[.bool v11.toBool], [], f3_fresh⟩)) := by kernel_rfl
theorem f3_l0_eq (run : Run) (n : Nat) (k0 : Nat) (x5_1 : List AV) (x6_1 : List AV) (x7_1 : List AV) (x8_1 : List AV) (x9_1 : Int) : f3_l0 run n (k0 + 1) x5_1 x6_1 x7_1 x8_1 x9_1 =
  bif ltI x9_1 (x7_1.length : Int) then
    bif inR x9_1 x7_1.length then
    bif inR x9_1 x6_1.length then
    bif !(eqI ((nth x7_1 (Int.toNat x9_1)).toInt) ((nth x6_1 (Int.toNat x9_1)).toInt)) then
    some ⟨[.bool false], [], f3_fresh⟩
  else
    f3_l0 run n k0 x5_1 x6_1 x7_1 x8_1 (IntKind.wrap .i64 (x9_1 + 1))
  else none
  else none
  else
    f3_l2 run n k0 n x5_1 x6_1 x8_1 0 := by kernel_rfl
noncomputable def f3 (run : Run) (n : Nat) (a0_1 : List UInt8) (a1_1 : List AV) : Option Res := evalK G run n f3_info.keep 0 f3_info.body (retE G f3_info) (f3_info.start [.blob a0_1, .slice a1_1])
theorem f3_eq (run : Run) (n : Nat) (a0_1 : List UInt8) (a1_1 : List AV) : f3 run n a0_1 a1_1 =
  (run 10 [.slice a1_1]).bind fun r1 =>
    nilV r1.outs (consV r1.vals fun v1 vs1 =>
    nilV vs1 (bif v1.toBool then
    (run 11 []).bind fun r2 =>
    nilV r2.outs (consV r2.vals fun v2 vs2 =>
    nilV vs2 (some ⟨[.bool v2.toBool], [], f3_fresh⟩))
  else
    (run 12 [.slice a1_1]).bind fun r3 =>
    bif r3.fresh then
    nilV r3.outs (consV r3.vals fun v3 vs3 =>
    nilV vs3 ((run 13 [.blob a0_1, .slice v3.toSlice]).bind fun r4 =>
    bif r4.fresh then
    nilV r4.outs (consV r4.vals fun v4 vs4 =>
    nilV vs4 ((run 14 [.blob a0_1, .slice a1_1]).bind fun r5 =>
    bif r5.fresh then
    nilV r5.outs (consV r5.vals fun v5 vs5 =>
    nilV vs5 ((run 15 [.blob a0_1, .slice a1_1]).bind fun r6 =>
    bif r6.fresh then
    nilV r6.outs (consV r6.vals fun v6 vs6 =>
    nilV vs6 ((run 17 [.slice a1_1]).bind fun r7 =>
    bif r7.fresh then
    nilV r7.outs (consV r7.vals fun v7 vs7 =>
    nilV vs7 ((run 16 [.slice v7.toSlice, .slice v3.toSlice]).bind fun r8 =>
    nilV r8.outs (consV r8.vals fun v8 vs8 =>
    nilV vs8 (bif !v8.toBool then
    some ⟨[.bool false], [], f3_fresh⟩
  else
    bif !(eqI (v5.toSlice.length : Int) (a1_1.length : Int)) then
    some ⟨[.bool false], [], f3_fresh⟩
  else
    bif !(eqI (v6.toSlice.length : Int) (IntKind.wrap .i64 ((a1_1.length : Int) + 1))) then
    some ⟨[.bool false], [], f3_fresh⟩
  else
    f3_l0 run n n v3.toSlice v4.toSlice v5.toSlice v6.toSlice 0))))
  else none))
  else none))
  else none))
  else none))
  else none)) := by kernel_rfl
theorem f3_run (ext : Run) (n : Nat) (a0_1 : List UInt8) (a1_1 : List AV) : runE G ext (n + 1) 3 [.blob a0_1, .slice a1_1] = f3 (runE G ext n) n a0_1 a1_1 := runE_succ f3_at f3_in

noncomputable def f51 (run : Run) (n : Nat) (a0_1 : Int) (a1_1 : Int) : Option Res := evalK G run n f51_info.keep 0 f51_info.body (retE G f51_info) (f51_info.start [.int a0_1, .int a1_1])
theorem f51_eq (run : Run) (n : Nat) (a0_1 : Int) (a1_1 : Int) : f51 run n a0_1 a1_1 =
  bif ltI 0 a0_1 then
    bif ltI a0_1 a1_1 then
    some ⟨[.bool (leI a1_1 65536)], [], f51_fresh⟩
  else
    some ⟨[.bool false], [], f51_fresh⟩
  else
    some ⟨[.bool false], [], f51_fresh⟩ := by kernel_rfl
theorem f51_run (ext : Run) (n : Nat) (a0_1 : Int) (a1_1 : Int) : runE G ext (n + 1) 51 [.int a0_1, .int a1_1] = f51 (runE G ext n) n a0_1 a1_1 := runE_succ f51_at f51_in

noncomputable def f19 (run : Run) (n : Nat) (a0_1 : Int) (a1_1 : Int) (a2_1 : Int) (a3_1 : Int) : Option Res := evalK G run n f19_info.keep 0 f19_info.body (retE G f19_info) (f19_info.start [.int a0_1, .int a1_1, .int a2_1, .int a3_1])
theorem f19_eq (run : Run) (n : Nat) (a0_1 : Int) (a1_1 : Int) (a2_1 : Int) (a3_1 : Int) : f19 run n a0_1 a1_1 a2_1 a3_1 =
  bif leI 1 a0_1 then
    bif leI a0_1 1024 then
    bif leI 1 a1_1 then
    bif leI a1_1 1024 then
    (run 51 [.int a2_1, .int a3_1]).bind fun r1 =>
    nilV r1.outs (consV r1.vals fun v1 vs1 =>
    nilV vs1 (some ⟨[.bool v1.toBool], [], f19_fresh⟩))
  else
    some ⟨[.bool false], [], f19_fresh⟩
  else
    some ⟨[.bool false], [], f19_fresh⟩
  else
    some ⟨[.bool false], [], f19_fresh⟩
  else
    some ⟨[.bool false], [], f19_fresh⟩ := by kernel_rfl
theorem f19_run (ext : Run) (n : Nat) (a0_1 : Int) (a1_1 : Int) (a2_1 : Int) (a3_1 : Int) : runE G ext (n + 1) 19 [.int a0_1, .int a1_1, .int a2_1, .int a3_1] = f19 (runE G ext n) n a0_1 a1_1 a2_1 a3_1 := runE_succ f19_at f19_in

noncomputable def f32 (run : Run) (n : Nat) (a0_1 : Int) (a0_2 : List UInt8) (a0_3 : List UInt8) (a0_4 : Int) (a0_5 : List UInt8) (a0_6 : Int) (a0_7 : Int) (a0_8 : Int) (a0_9 : Int) (a0_10 : Int) (a0_11 : Int) (a1_1 : List AV) : Option Res := evalK G run n f32_info.keep 0 f32_info.body (retE G f32_info) (f32_info.start [.agg [.agg [.int a0_1, .blob a0_2, .blob a0_3, .int a0_4], .blob a0_5, .int a0_6, .int a0_7, .int a0_8, .int a0_9, .int a0_10, .int a0_11], .slice a1_1])
theorem f32_eq (run : Run) (n : Nat) (a0_1 : Int) (a0_2 : List UInt8) (a0_3 : List UInt8) (a0_4 : Int) (a0_5 : List UInt8) (a0_6 : Int) (a0_7 : Int) (a0_8 : Int) (a0_9 : Int) (a0_10 : Int) (a0_11 : Int) (a1_1 : List AV) : f32 run n a0_1 a0_2 a0_3 a0_4 a0_5 a0_6 a0_7 a0_8 a0_9 a0_10 a0_11 a1_1 =
  (run 20 [.agg [.agg [.int a0_1, .blob a0_2, .blob a0_3, .int a0_4], .blob a0_5, .int a0_6, .int a0_7, .int a0_8, .int a0_9, .int a0_10, .int a0_11], .slice a1_1]).bind fun r1 =>
    nilV r1.outs (consV r1.vals fun v1 vs1 =>
    nilV vs1 (bif !(eqI ((v1.fld 0).toInt) 0) then
    some ⟨[.int ((v1.fld 0).toInt)], [], f32_fresh⟩
  else
    (run 19 [.int a0_6, .int a0_7, .int a0_8, .int a0_9]).bind fun r2 =>
    nilV r2.outs (consV r2.vals fun v2 vs2 =>
    nilV vs2 (bif !v2.toBool then
    some ⟨[.int 13], [], f32_fresh⟩
  else
    bif leI (a1_1.length : Int) a0_7 then
    some ⟨[.int 11], [], f32_fresh⟩
  else
    some ⟨[.int 0], [], f32_fresh⟩)))) := by kernel_rfl
theorem f32_run (ext : Run) (n : Nat) (a0_1 : Int) (a0_2 : List UInt8) (a0_3 : List UInt8) (a0_4 : Int) (a0_5 : List UInt8) (a0_6 : Int) (a0_7 : Int) (a0_8 : Int) (a0_9 : Int) (a0_10 : Int) (a0_11 : Int) (a1_1 : List AV) : runE G ext (n + 1) 32 [.agg [.agg [.int a0_1, .blob a0_2, .blob a0_3, .int a0_4], .blob a0_5, .int a0_6, .int a0_7, .int a0_8, .int a0_9, .int a0_10, .int a0_11], .slice a1_1] = f32 (runE G ext n) n a0_1 a0_2 a0_3 a0_4 a0_5 a0_6 a0_7 a0_8 a0_9 a0_10 a0_11 a1_1 := runE_succ f32_at f32_in

noncomputable def f55_l0 (run : Run) (n : Nat) (k0 : Nat) (x3_1 : Int) (x6_1 : List AV) (x7_1 : Int) (x8_1 : Int) : Option Res :=
  iterK (evalK G run n f55_keep 0 (sub [1, 1, 0, 1, 0, 0] f55_body)) f55_t0 f55_o0 (blockK 0 (seqK (evalK G run n f55_keep 0 (sub [1, 1, 1] f55_body) (retE G f55_info)) (retE G f55_info))) k0
    ⟨[.any, .any, .any, .val (.int .i64) none (.int x3_1), .any, .any, .val (.slice (.int .i64)) none (.slice x6_1), .val (.int .i64) none (.int x7_1), .val (.int .i64) none (.int x8_1), .any, .any, .any, .any, .any, .any, .any, .any, .any, .any, .any, .any], [⟨0, none⟩, ⟨0, none⟩, ⟨0, none⟩, ⟨0, none⟩, ⟨0, none⟩, ⟨0, none⟩, ⟨0, none⟩, ⟨0, none⟩, ⟨0, none⟩, ⟨0, none⟩, ⟨0, none⟩, ⟨0, none⟩, ⟨0, none⟩, ⟨0, none⟩, ⟨0, none⟩, ⟨0, none⟩, ⟨0, none⟩, ⟨0, none⟩, ⟨0, none⟩, ⟨0, none⟩, ⟨0, none⟩], List.replicate 21 0⟩
theorem f55_l0_eq (run : Run) (n : Nat) (k0 : Nat) (x3_1 : Int) (x6_1 : List AV) (x7_1 : Int) (x8_1 : Int) : f55_l0 run n (k0 + 1) x3_1 x6_1 x7_1 x8_1 =
  bif ltI x8_1 x7_1 then
    bif inR x8_1 x6_1.length then
    bif ltI 0 x8_1 then
    f55_l0 run n k0 (mx2 x3_1 ((nth x6_1 (Int.toNat x8_1)).toInt)) x6_1 x7_1 (IntKind.wrap .i64 (x8_1 + 1))
  else
    f55_l0 run n k0 x3_1 x6_1 x7_1 (IntKind.wrap .i64 (x8_1 + 1))
  else none
  else
    some ⟨[.int (mn2 x3_1 255)], [], f55_fresh⟩ := by kernel_rfl
noncomputable def f55 (run : Run) (n : Nat) (a0_1 : List AV) : Option Res := evalK G run n f55_info.keep 0 f55_info.body (retE G f55_info) (f55_info.start [.slice a0_1])
theorem f55_eq (run : Run) (n : Nat) (a0_1 : List AV) : f55 run n a0_1 =
  f55_l0 run n n 0 a0_1 (a0_1.length : Int) 0 := by kernel_rfl
theorem f55_run (ext : Run) (n : Nat) (a0_1 : List AV) : runE G ext (n + 1) 55 [.slice a0_1] = f55 (runE G ext n) n a0_1 := runE_succ f55_at f55_in

noncomputable def f219 (run : Run) (n : Nat) (a0_1 : Int) : Option Res := evalK G run n f219_info.keep 0 f219_info.body (retE G f219_info) (f219_info.start [.int a0_1])
theorem f219_eq (run : Run) (n : Nat) (a0_1 : Int) : f219 run n a0_1 =
  some ⟨[.agg [.int a0_1, .int 0, .int 0, .int 0, .int 0]], [], f219_fresh⟩ := by kernel_rfl
theorem f219_run (ext : Run) (n : Nat) (a0_1 : Int) : runE G ext (n + 1) 219 [.int a0_1] = f219 (runE G ext n) n a0_1 := runE_succ f219_at f219_in

noncomputable def f228_l0 (run : Run) (n : Nat) (k0 : Nat) (x1_1 : Int) (x7_1 : Int) (x11_1 : Int) (o2_1 : List AV) (o4_1 : List AV) (o6_1 : List AV) : Option Res :=
  iterK (evalK G run n f228_keep 0 (sub [1, 1, 1, 0, 1, 0, 0] f228_body)) f228_t0 f228_o0 (blockK 0 (seqK (evalK G run n f228_keep 0 (sub [1, 1, 1, 1] f228_body) (retE G f228_info)) (retE G f228_info))) k0
    ⟨[.any, .val (.int .u64) none (.int x1_1), .ptr ⟨(.arr 5 (.int .u64)), 2, 1, []⟩, .any, .ptr ⟨(.arr 5 (.int .u64)), 4, 1, []⟩, .any, .ptr ⟨(.arr 5 (.int .u64)), 6, 1, []⟩, .val (.int .u64) none (.int x7_1), .any, .any, .any, .val (.int .i64) none (.int x11_1), .any, .any, .any, .any, .any, .any, .any, .any, .any, .any, .any, .any, .any, .any, .any, .any, .any, .any, .any, .any, .any, .any, .any, .any, .any, .any, .any, .any, .any, .any, .any, .any], [⟨0, none⟩, ⟨0, none⟩, ⟨1, some ⟨(.arr 5 (.int .u64)), .agg o2_1⟩⟩, ⟨0, none⟩, ⟨1, some ⟨(.arr 5 (.int .u64)), .agg o4_1⟩⟩, ⟨0, none⟩, ⟨1, some ⟨(.arr 5 (.int .u64)), .agg o6_1⟩⟩, ⟨0, none⟩, ⟨0, none⟩, ⟨0, none⟩, ⟨0, none⟩, ⟨0, none⟩, ⟨0, none⟩, ⟨0, none⟩, ⟨0, none⟩, ⟨0, none⟩, ⟨0, none⟩, ⟨0, none⟩, ⟨0, none⟩, ⟨0, none⟩, ⟨0, none⟩, ⟨0, none⟩, ⟨0, none⟩, ⟨0, none⟩, ⟨0, none⟩, ⟨0, none⟩, ⟨0, none⟩, ⟨0, none⟩, ⟨0, none⟩, ⟨0, none⟩, ⟨0, none⟩, ⟨0, none⟩, ⟨0, none⟩, ⟨0, none⟩, ⟨0, none⟩, ⟨0, none⟩, ⟨0, none⟩, ⟨0, none⟩, ⟨0, none⟩, ⟨0, none⟩, ⟨0, none⟩, ⟨0, none⟩, ⟨0, none⟩, ⟨0, none⟩], List.replicate 44 0⟩
theorem f228_l0_eq (run : Run) (n : Nat) (k0 : Nat) (x1_1 : Int) (x7_1 : Int) (x11_1 : Int) (o2_1 : List AV) (o4_1 : List AV) (o6_1 : List AV) : f228_l0 run n (k0 + 1) x1_1 x7_1 x11_1 o2_1 o4_1 o6_1 =
  bif ltI x11_1 5 then
    bif inR x11_1 5 then
    bif inR x11_1 5 then
    bif inR x11_1 5 then
    f228_l0 run n k0 x1_1 (Int.fdiv (IntKind.wrap .u64 (IntKind.wrap .u64 (Int.fdiv ((AV.fld (.agg o2_1) (Int.toNat x11_1)).toInt) (2 ^ 32) * x1_1) + Int.fdiv (IntKind.wrap .u64 (IntKind.wrap .u64 (IntKind.wrap .u64 (BitVec.toNat (BitVec.ofInt 64 ((AV.fld (.agg o2_1) (Int.toNat x11_1)).toInt) &&& BitVec.ofInt 64 4294967295)) * x1_1) + x7_1)) (2 ^ 32))) (2 ^ 32)) (IntKind.wrap .i64 (x11_1 + 1)) o2_1 o4_1 (o6_1.set (Int.toNat x11_1) (.int (IntKind.wrap .u64 (BitVec.toNat (BitVec.ofInt 64 (IntKind.wrap .u64 (IntKind.wrap .u64 (IntKind.wrap .u64 (Int.fdiv ((AV.fld (.agg o2_1) (Int.toNat x11_1)).toInt) (2 ^ 32) * x1_1) + Int.fdiv (IntKind.wrap .u64 (IntKind.wrap .u64 (IntKind.wrap .u64 (BitVec.toNat (BitVec.ofInt 64 ((AV.fld (.agg o2_1) (Int.toNat x11_1)).toInt) &&& BitVec.ofInt 64 4294967295)) * x1_1) + x7_1)) (2 ^ 32)) * 2 ^ 32)) ||| BitVec.ofInt 64 (IntKind.wrap .u64 (BitVec.toNat (BitVec.ofInt 64 (IntKind.wrap .u64 (IntKind.wrap .u64 (IntKind.wrap .u64 (BitVec.toNat (BitVec.ofInt 64 ((AV.fld (.agg o2_1) (Int.toNat x11_1)).toInt) &&& BitVec.ofInt 64 4294967295)) * x1_1) + x7_1)) &&& BitVec.ofInt 64 4294967295))))))))
  else none
  else none
  else none
  else
    some ⟨[.agg o6_1, .bool (eqI x7_1 0)], [], f228_fresh⟩ := by kernel_rfl
noncomputable def f228 (run : Run) (n : Nat) (a0_1 : List AV) (a1_1 : Int) : Option Res := evalK G run n f228_info.keep 0 f228_info.body (retE G f228_info) (f228_info.start [.agg a0_1, .int a1_1])
theorem f228_eq (run : Run) (n : Nat) (a0_1 : List AV) (a1_1 : Int) : f228 run n a0_1 a1_1 =
  f228_l0 run n n a1_1 0 0 a0_1 (List.replicate 5 (.int 0)) (List.replicate 5 (.int 0)) := by kernel_rfl
theorem f228_run (ext : Run) (n : Nat) (a0_1 : List AV) (a1_1 : Int) : runE G ext (n + 1) 228 [.agg a0_1, .int a1_1] = f228 (runE G ext n) n a0_1 a1_1 := runE_succ f228_at f228_in

noncomputable def f231_l0 (run : Run) (n : Nat) (k0 : Nat) (x0_1 : Int) (x3_1 : Int) (x5_1 : Int) : Option Res :=
  iterK (evalK G run n f231_keep 0 (sub [1, 1, 0, 1, 0, 0] f231_body)) f231_t0 f231_o0 (blockK 0 (seqK (evalK G run n f231_keep 0 (sub [1, 1, 1] f231_body) (retE G f231_info)) (retE G f231_info))) k0
    ⟨[.val (.int .u64) none (.int x0_1), .any, .any, .val (.int .i64) none (.int x3_1), .any, .val (.int .i64) none (.int x5_1), .any, .any, .any, .any, .any, .any, .any, .any, .any, .any, .any, .any], [⟨0, none⟩, ⟨0, none⟩, ⟨0, none⟩, ⟨0, none⟩, ⟨0, none⟩, ⟨0, none⟩, ⟨0, none⟩, ⟨0, none⟩, ⟨0, none⟩, ⟨0, none⟩, ⟨0, none⟩, ⟨0, none⟩, ⟨0, none⟩, ⟨0, none⟩, ⟨0, none⟩, ⟨0, none⟩, ⟨0, none⟩, ⟨0, none⟩], List.replicate 18 0⟩
theorem f231_l0_eq (run : Run) (n : Nat) (k0 : Nat) (x0_1 : Int) (x3_1 : Int) (x5_1 : Int) : f231_l0 run n (k0 + 1) x0_1 x3_1 x5_1 =
  bif ltI x5_1 64 then
    bif leI 0 (IntKind.wrap .u64 (IntKind.wrap .i64 (63 - x5_1))) then
    bif !(eqI (Int.fdiv x0_1 (2 ^ (min (Int.toNat (IntKind.wrap .u64 (IntKind.wrap .i64 (63 - x5_1)))) 64))) 0) then
    some ⟨[.int x3_1], [], f231_fresh⟩
  else
    f231_l0 run n k0 x0_1 (IntKind.wrap .i64 (x3_1 + 1)) (IntKind.wrap .i64 (x5_1 + 1))
  else none
  else
    some ⟨[.int x3_1], [], f231_fresh⟩ := by kernel_rfl
noncomputable def f231 (run : Run) (n : Nat) (a0_1 : Int) : Option Res := evalK G run n f231_info.keep 0 f231_info.body (retE G f231_info) (f231_info.start [.int a0_1])
theorem f231_eq (run : Run) (n : Nat) (a0_1 : Int) : f231 run n a0_1 =
  f231_l0 run n n a0_1 0 0 := by kernel_rfl
theorem f231_run (ext : Run) (n : Nat) (a0_1 : Int) : runE G ext (n + 1) 231 [.int a0_1] = f231 (runE G ext n) n a0_1 := runE_succ f231_at f231_in

noncomputable def f230_l0 (run : Run) (n : Nat) (k0 : Nat) (x5_1 : Int) (o1_1 : List AV) : Option Res :=
  iterK (evalK G run n f230_keep 0 (sub [1, 0, 1, 0, 0] f230_body)) f230_t0 f230_o0 (blockK 0 (seqK (evalK G run n f230_keep 0 (sub [1, 1] f230_body) (retE G f230_info)) (retE G f230_info))) k0
    ⟨[.any, .ptr ⟨(.arr 5 (.int .u64)), 1, 1, []⟩, .any, .any, .any, .val (.int .i64) none (.int x5_1), .any, .any, .any, .any, .any, .any, .any, .any, .any, .any, .any, .any, .any, .any, .any], [⟨0, none⟩, ⟨1, some ⟨(.arr 5 (.int .u64)), .agg o1_1⟩⟩, ⟨0, none⟩, ⟨0, none⟩, ⟨0, none⟩, ⟨0, none⟩, ⟨0, none⟩, ⟨0, none⟩, ⟨0, none⟩, ⟨0, none⟩, ⟨0, none⟩, ⟨0, none⟩, ⟨0, none⟩, ⟨0, none⟩, ⟨0, none⟩, ⟨0, none⟩, ⟨0, none⟩, ⟨0, none⟩, ⟨0, none⟩, ⟨0, none⟩, ⟨0, none⟩], List.replicate 21 0⟩
theorem f230_l0_eq (run : Run) (n : Nat) (k0 : Nat) (x5_1 : Int) (o1_1 : List AV) : f230_l0 run n (k0 + 1) x5_1 o1_1 =
  bif ltI x5_1 5 then
    bif inR (IntKind.wrap .i64 (4 - x5_1)) 5 then
    bif !(eqI ((AV.fld (.agg o1_1) (Int.toNat (IntKind.wrap .i64 (4 - x5_1)))).toInt) 0) then
    (run 231 [.int ((AV.fld (.agg o1_1) (Int.toNat (IntKind.wrap .i64 (4 - x5_1)))).toInt)]).bind fun r1 =>
    nilV r1.outs (consV r1.vals fun v1 vs1 =>
    nilV vs1 (some ⟨[.int (IntKind.wrap .i64 (IntKind.wrap .i64 (320 - IntKind.wrap .i64 (64 * x5_1)) - v1.toInt))], [], f230_fresh⟩))
  else
    f230_l0 run n k0 (IntKind.wrap .i64 (x5_1 + 1)) o1_1
  else none
  else
    some ⟨[.int 0], [], f230_fresh⟩ := by kernel_rfl
noncomputable def f230 (run : Run) (n : Nat) (a0_1 : List AV) : Option Res := evalK G run n f230_info.keep 0 f230_info.body (retE G f230_info) (f230_info.start [.agg a0_1])
theorem f230_eq (run : Run) (n : Nat) (a0_1 : List AV) : f230 run n a0_1 =
  f230_l0 run n n 0 a0_1 := by kernel_rfl
theorem f230_run (ext : Run) (n : Nat) (a0_1 : List AV) : runE G ext (n + 1) 230 [.agg a0_1] = f230 (runE G ext n) n a0_1 := runE_succ f230_at f230_in

noncomputable def f220_l0 (run : Run) (n : Nat) (k0 : Nat) (x7_1 : Int) (x8_1 : Int) (x9_1 : Int) (o2_1 : List AV) (o4_1 : List AV) (o6_1 : List AV) : Option Res :=
  iterK (evalK G run n f220_keep 0 (sub [1, 1, 1, 1, 1, 0, 1, 0, 0] f220_body)) f220_t0 f220_o0 (blockK 0 (seqK (evalK G run n f220_keep 0 (sub [1, 1, 1, 1, 1, 1] f220_body) (retE G f220_info)) (retE G f220_info))) k0
    ⟨[.any, .any, .ptr ⟨(.arr 5 (.int .u64)), 2, 1, []⟩, .any, .ptr ⟨(.arr 5 (.int .u64)), 4, 1, []⟩, .any, .ptr ⟨(.arr 5 (.int .u64)), 6, 1, []⟩, .val (.int .i64) none (.int x7_1), .val (.int .u64) none (.int x8_1), .val (.int .i64) none (.int x9_1), .any, .any, .any, .any, .any, .any, .any, .any, .any, .any, .any, .any, .any, .any, .any, .any, .any, .any, .any, .any, .any, .any, .any, .any, .any, .any, .any, .any, .any, .any, .any, .any, .any, .any, .any, .any, .any, .any, .any, .any, .any, .any, .any, .any, .any, .any, .any, .any, .any, .any, .any, .any, .any, .any, .any, .any, .any, .any, .any, .any], [⟨0, none⟩, ⟨0, none⟩, ⟨1, some ⟨(.arr 5 (.int .u64)), .agg o2_1⟩⟩, ⟨0, none⟩, ⟨1, some ⟨(.arr 5 (.int .u64)), .agg o4_1⟩⟩, ⟨0, none⟩, ⟨1, some ⟨(.arr 5 (.int .u64)), .agg o6_1⟩⟩, ⟨0, none⟩, ⟨0, none⟩, ⟨0, none⟩, ⟨0, none⟩, ⟨0, none⟩, ⟨0, none⟩, ⟨0, none⟩, ⟨0, none⟩, ⟨0, none⟩, ⟨0, none⟩, ⟨0, none⟩, ⟨0, none⟩, ⟨0, none⟩, ⟨0, none⟩, ⟨0, none⟩, ⟨0, none⟩, ⟨0, none⟩, ⟨0, none⟩, ⟨0, none⟩, ⟨0, none⟩, ⟨0, none⟩, ⟨0, none⟩, ⟨0, none⟩, ⟨0, none⟩, ⟨0, none⟩, ⟨0, none⟩, ⟨0, none⟩, ⟨0, none⟩, ⟨0, none⟩, ⟨0, none⟩, ⟨0, none⟩, ⟨0, none⟩, ⟨0, none⟩, ⟨0, none⟩, ⟨0, none⟩, ⟨0, none⟩, ⟨0, none⟩, ⟨0, none⟩, ⟨0, none⟩, ⟨0, none⟩, ⟨0, none⟩, ⟨0, none⟩, ⟨0, none⟩, ⟨0, none⟩, ⟨0, none⟩, ⟨0, none⟩, ⟨0, none⟩, ⟨0, none⟩, ⟨0, none⟩, ⟨0, none⟩, ⟨0, none⟩, ⟨0, none⟩, ⟨0, none⟩, ⟨0, none⟩, ⟨0, none⟩, ⟨0, none⟩, ⟨0, none⟩, ⟨0, none⟩, ⟨0, none⟩, ⟨0, none⟩, ⟨0, none⟩, ⟨0, none⟩, ⟨0, none⟩], List.replicate 70 0⟩
theorem f220_l0_eq (run : Run) (n : Nat) (k0 : Nat) (x7_1 : Int) (x8_1 : Int) (x9_1 : Int) (o2_1 : List AV) (o4_1 : List AV) (o6_1 : List AV) : f220_l0 run n (k0 + 1) x7_1 x8_1 x9_1 o2_1 o4_1 o6_1 =
  bif ltI x9_1 5 then
    bif inR (IntKind.wrap .i64 (x9_1 - x7_1)) 5 then
    bif leI 0 x8_1 then
    bif inR x9_1 5 then
    bif ltI 0 x8_1 then
    bif ltI x7_1 x9_1 then
    bif inR x9_1 5 then
    bif inR (IntKind.wrap .i64 (IntKind.wrap .i64 (x9_1 - x7_1) - 1)) 5 then
    bif leI 0 (IntKind.wrap .u64 (64 - x8_1)) then
    bif inR x9_1 5 then
    f220_l0 run n k0 x7_1 x8_1 (IntKind.wrap .i64 (x9_1 + 1)) o2_1 o4_1 ((o6_1.set (Int.toNat x9_1) (.int (IntKind.wrap .u64 ((AV.fld (.agg o2_1) (Int.toNat (IntKind.wrap .i64 (x9_1 - x7_1)))).toInt * 2 ^ (min (Int.toNat x8_1) 64))))).set (Int.toNat x9_1) (.int (IntKind.wrap .u64 (BitVec.toNat (BitVec.ofInt 64 ((AV.fld (.agg (o6_1.set (Int.toNat x9_1) (.int (IntKind.wrap .u64 ((AV.fld (.agg o2_1) (Int.toNat (IntKind.wrap .i64 (x9_1 - x7_1)))).toInt * 2 ^ (min (Int.toNat x8_1) 64)))))) (Int.toNat x9_1)).toInt) ||| BitVec.ofInt 64 (Int.fdiv ((AV.fld (.agg o2_1) (Int.toNat (IntKind.wrap .i64 (IntKind.wrap .i64 (x9_1 - x7_1) - 1)))).toInt) (2 ^ (min (Int.toNat (IntKind.wrap .u64 (64 - x8_1))) 64))))))))
  else none
  else none
  else none
  else none
  else
    f220_l0 run n k0 x7_1 x8_1 (IntKind.wrap .i64 (x9_1 + 1)) o2_1 o4_1 (o6_1.set (Int.toNat x9_1) (.int (IntKind.wrap .u64 ((AV.fld (.agg o2_1) (Int.toNat (IntKind.wrap .i64 (x9_1 - x7_1)))).toInt * 2 ^ (min (Int.toNat x8_1) 64)))))
  else
    f220_l0 run n k0 x7_1 x8_1 (IntKind.wrap .i64 (x9_1 + 1)) o2_1 o4_1 (o6_1.set (Int.toNat x9_1) (.int (IntKind.wrap .u64 ((AV.fld (.agg o2_1) (Int.toNat (IntKind.wrap .i64 (x9_1 - x7_1)))).toInt * 2 ^ (min (Int.toNat x8_1) 64)))))
  else none
  else none
  else none
  else
    some ⟨[.agg o6_1, .bool true], [], f220_fresh⟩ := by kernel_rfl
noncomputable def f220 (run : Run) (n : Nat) (a0_1 : List AV) (a1_1 : Int) : Option Res := evalK G run n f220_info.keep 0 f220_info.body (retE G f220_info) (f220_info.start [.agg a0_1, .int a1_1])
theorem f220_eq (run : Run) (n : Nat) (a0_1 : List AV) (a1_1 : Int) : f220 run n a0_1 a1_1 =
  bif ltI a1_1 0 then
    some ⟨[.agg [.int 0, .int 0, .int 0, .int 0, .int 0], .bool false], [], f220_fresh⟩
  else
    (run 230 [.agg a0_1]).bind fun r1 =>
    nilV r1.outs (consV r1.vals fun v1 vs1 =>
    nilV vs1 (bif ltI 0 v1.toInt then
    (run 230 [.agg a0_1]).bind fun r2 =>
    nilV r2.outs (consV r2.vals fun v2 vs2 =>
    nilV vs2 (bif ltI (IntKind.wrap .i64 (320 - v2.toInt)) a1_1 then
    some ⟨[.agg [.int 0, .int 0, .int 0, .int 0, .int 0], .bool false], [], f220_fresh⟩
  else
    (run 230 [.agg a0_1]).bind fun r3 =>
    nilV r3.outs (consV r3.vals fun v3 vs3 =>
    nilV vs3 (bif eqI v3.toInt 0 then
    some ⟨[.agg [.int 0, .int 0, .int 0, .int 0, .int 0], .bool true], [], f220_fresh⟩
  else
    f220_l0 run n n (IntKind.wrap .i64 (Int.tdiv a1_1 64)) (IntKind.wrap .u64 (Int.tmod a1_1 64)) (IntKind.wrap .i64 (Int.tdiv a1_1 64)) a0_1 (List.replicate 5 (.int 0)) (List.replicate 5 (.int 0))))))
  else
    (run 230 [.agg a0_1]).bind fun r4 =>
    nilV r4.outs (consV r4.vals fun v4 vs4 =>
    nilV vs4 (bif eqI v4.toInt 0 then
    some ⟨[.agg [.int 0, .int 0, .int 0, .int 0, .int 0], .bool true], [], f220_fresh⟩
  else
    f220_l0 run n n (IntKind.wrap .i64 (Int.tdiv a1_1 64)) (IntKind.wrap .u64 (Int.tmod a1_1 64)) (IntKind.wrap .i64 (Int.tdiv a1_1 64)) a0_1 (List.replicate 5 (.int 0)) (List.replicate 5 (.int 0)))))) := by kernel_rfl
theorem f220_run (ext : Run) (n : Nat) (a0_1 : List AV) (a1_1 : Int) : runE G ext (n + 1) 220 [.agg a0_1, .int a1_1] = f220 (runE G ext n) n a0_1 a1_1 := runE_succ f220_at f220_in

noncomputable def f229_l0 (run : Run) (n : Nat) (k0 : Nat) (x7_1 : Int) (x11_1 : Int) (o2_1 : List AV) (o3_1 : List AV) (o4_1 : List AV) (o6_1 : List AV) : Option Res :=
  iterK (evalK G run n f229_keep 0 (sub [1, 1, 1, 0, 1, 0, 0] f229_body)) f229_t0 f229_o0 (blockK 0 (seqK (evalK G run n f229_keep 0 (sub [1, 1, 1, 1] f229_body) (retE G f229_info)) (retE G f229_info))) k0
    ⟨[.any, .any, .ptr ⟨(.arr 5 (.int .u64)), 2, 1, []⟩, .ptr ⟨(.arr 5 (.int .u64)), 3, 1, []⟩, .ptr ⟨(.arr 5 (.int .u64)), 4, 1, []⟩, .any, .ptr ⟨(.arr 5 (.int .u64)), 6, 1, []⟩, .val (.int .u64) none (.int x7_1), .any, .any, .any, .val (.int .i64) none (.int x11_1), .any, .any, .any, .any, .any, .any, .any, .any, .any, .any, .any, .any, .any, .any, .any, .any, .any, .any, .any, .any, .any, .any, .any, .any, .any, .any, .any, .any, .any, .any, .any, .any, .any, .any, .any, .any, .any, .any, .any], [⟨0, none⟩, ⟨0, none⟩, ⟨1, some ⟨(.arr 5 (.int .u64)), .agg o2_1⟩⟩, ⟨1, some ⟨(.arr 5 (.int .u64)), .agg o3_1⟩⟩, ⟨1, some ⟨(.arr 5 (.int .u64)), .agg o4_1⟩⟩, ⟨0, none⟩, ⟨1, some ⟨(.arr 5 (.int .u64)), .agg o6_1⟩⟩, ⟨0, none⟩, ⟨0, none⟩, ⟨0, none⟩, ⟨0, none⟩, ⟨0, none⟩, ⟨0, none⟩, ⟨0, none⟩, ⟨0, none⟩, ⟨0, none⟩, ⟨0, none⟩, ⟨0, none⟩, ⟨0, none⟩, ⟨0, none⟩, ⟨0, none⟩, ⟨0, none⟩, ⟨0, none⟩, ⟨0, none⟩, ⟨0, none⟩, ⟨0, none⟩, ⟨0, none⟩, ⟨0, none⟩, ⟨0, none⟩, ⟨0, none⟩, ⟨0, none⟩, ⟨0, none⟩, ⟨0, none⟩, ⟨0, none⟩, ⟨0, none⟩, ⟨0, none⟩, ⟨0, none⟩, ⟨0, none⟩, ⟨0, none⟩, ⟨0, none⟩, ⟨0, none⟩, ⟨0, none⟩, ⟨0, none⟩, ⟨0, none⟩, ⟨0, none⟩, ⟨0, none⟩, ⟨0, none⟩, ⟨0, none⟩, ⟨0, none⟩, ⟨0, none⟩, ⟨0, none⟩], List.replicate 51 0⟩
theorem f229_l0_eq (run : Run) (n : Nat) (k0 : Nat) (x7_1 : Int) (x11_1 : Int) (o2_1 : List AV) (o3_1 : List AV) (o4_1 : List AV) (o6_1 : List AV) : f229_l0 run n (k0 + 1) x7_1 x11_1 o2_1 o3_1 o4_1 o6_1 =
  bif ltI x11_1 5 then
    bif inR x11_1 5 then
    bif inR x11_1 5 then
    bif inR x11_1 5 then
    bif inR x11_1 5 then
    bif inR x11_1 5 then
    f229_l0 run n k0 (Int.fdiv (IntKind.wrap .u64 (IntKind.wrap .u64 (Int.fdiv ((AV.fld (.agg o2_1) (Int.toNat x11_1)).toInt) (2 ^ 32) + Int.fdiv ((AV.fld (.agg o3_1) (Int.toNat x11_1)).toInt) (2 ^ 32)) + Int.fdiv (IntKind.wrap .u64 (IntKind.wrap .u64 (IntKind.wrap .u64 (BitVec.toNat (BitVec.ofInt 64 ((AV.fld (.agg o2_1) (Int.toNat x11_1)).toInt) &&& BitVec.ofInt 64 4294967295)) + IntKind.wrap .u64 (BitVec.toNat (BitVec.ofInt 64 ((AV.fld (.agg o3_1) (Int.toNat x11_1)).toInt) &&& BitVec.ofInt 64 4294967295))) + x7_1)) (2 ^ 32))) (2 ^ 32)) (IntKind.wrap .i64 (x11_1 + 1)) o2_1 o3_1 o4_1 (o6_1.set (Int.toNat x11_1) (.int (IntKind.wrap .u64 (BitVec.toNat (BitVec.ofInt 64 (IntKind.wrap .u64 (IntKind.wrap .u64 (IntKind.wrap .u64 (Int.fdiv ((AV.fld (.agg o2_1) (Int.toNat x11_1)).toInt) (2 ^ 32) + Int.fdiv ((AV.fld (.agg o3_1) (Int.toNat x11_1)).toInt) (2 ^ 32)) + Int.fdiv (IntKind.wrap .u64 (IntKind.wrap .u64 (IntKind.wrap .u64 (BitVec.toNat (BitVec.ofInt 64 ((AV.fld (.agg o2_1) (Int.toNat x11_1)).toInt) &&& BitVec.ofInt 64 4294967295)) + IntKind.wrap .u64 (BitVec.toNat (BitVec.ofInt 64 ((AV.fld (.agg o3_1) (Int.toNat x11_1)).toInt) &&& BitVec.ofInt 64 4294967295))) + x7_1)) (2 ^ 32)) * 2 ^ 32)) ||| BitVec.ofInt 64 (IntKind.wrap .u64 (BitVec.toNat (BitVec.ofInt 64 (IntKind.wrap .u64 (IntKind.wrap .u64 (IntKind.wrap .u64 (BitVec.toNat (BitVec.ofInt 64 ((AV.fld (.agg o2_1) (Int.toNat x11_1)).toInt) &&& BitVec.ofInt 64 4294967295)) + IntKind.wrap .u64 (BitVec.toNat (BitVec.ofInt 64 ((AV.fld (.agg o3_1) (Int.toNat x11_1)).toInt) &&& BitVec.ofInt 64 4294967295))) + x7_1)) &&& BitVec.ofInt 64 4294967295))))))))
  else none
  else none
  else none
  else none
  else none
  else
    bif !(eqI x7_1 0) then
    some ⟨[.agg [.int 0, .int 0, .int 0, .int 0, .int 0], .bool false], [], f229_fresh⟩
  else
    some ⟨[.agg o6_1, .bool true], [], f229_fresh⟩ := by kernel_rfl
noncomputable def f229 (run : Run) (n : Nat) (a0_1 : List AV) (a1_1 : List AV) : Option Res := evalK G run n f229_info.keep 0 f229_info.body (retE G f229_info) (f229_info.start [.agg a0_1, .agg a1_1])
theorem f229_eq (run : Run) (n : Nat) (a0_1 : List AV) (a1_1 : List AV) : f229 run n a0_1 a1_1 =
  f229_l0 run n n 0 0 a0_1 a1_1 (List.replicate 5 (.int 0)) (List.replicate 5 (.int 0)) := by kernel_rfl
theorem f229_run (ext : Run) (n : Nat) (a0_1 : List AV) (a1_1 : List AV) : runE G ext (n + 1) 229 [.agg a0_1, .agg a1_1] = f229 (runE G ext n) n a0_1 a1_1 := runE_succ f229_at f229_in

noncomputable def f218 (run : Run) (n : Nat) (a0_1 : List AV) (a1_1 : Int) : Option Res := evalK G run n f218_info.keep 0 f218_info.body (retE G f218_info) (f218_info.start [.agg a0_1, .int a1_1])
theorem f218_eq (run : Run) (n : Nat) (a0_1 : List AV) (a1_1 : Int) : f218 run n a0_1 a1_1 =
  (run 228 [.agg a0_1, .int (IntKind.wrap .u64 (BitVec.toNat (BitVec.ofInt 64 a1_1 &&& BitVec.ofInt 64 4294967295)))]).bind fun r1 =>
    nilV r1.outs (consV r1.vals fun v1 vs1 =>
    consV vs1 fun v2 vs2 =>
    nilV vs2 (bif !v2.toBool then
    some ⟨[.agg [.int 0, .int 0, .int 0, .int 0, .int 0], .bool false], [], f218_fresh⟩
  else
    (run 228 [.agg a0_1, .int (Int.fdiv a1_1 (2 ^ 32))]).bind fun r2 =>
    nilV r2.outs (consV r2.vals fun v3 vs3 =>
    consV vs3 fun v4 vs4 =>
    nilV vs4 (bif !v4.toBool then
    some ⟨[.agg [.int 0, .int 0, .int 0, .int 0, .int 0], .bool false], [], f218_fresh⟩
  else
    (run 220 [.agg v3.toAgg, .int 32]).bind fun r3 =>
    nilV r3.outs (consV r3.vals fun v5 vs5 =>
    consV vs5 fun v6 vs6 =>
    nilV vs6 (bif !v6.toBool then
    some ⟨[.agg [.int 0, .int 0, .int 0, .int 0, .int 0], .bool false], [], f218_fresh⟩
  else
    (run 229 [.agg v1.toAgg, .agg v5.toAgg]).bind fun r4 =>
    nilV r4.outs (consV r4.vals fun v7 vs7 =>
    consV vs7 fun v8 vs8 =>
    nilV vs8 (some ⟨[.agg v7.toAgg, .bool v8.toBool], [], f218_fresh⟩)))))))) := by kernel_rfl
theorem f218_run (ext : Run) (n : Nat) (a0_1 : List AV) (a1_1 : Int) : runE G ext (n + 1) 218 [.agg a0_1, .int a1_1] = f218 (runE G ext n) n a0_1 a1_1 := runE_succ f218_at f218_in

noncomputable def f207 (run : Run) (n : Nat) (a0_1 : Int) (a1_1 : Int) (a2_1 : Int) : Option Res := evalK G run n f207_info.keep 0 f207_info.body (retE G f207_info) (f207_info.start [.int a0_1, .int a1_1, .int a2_1])
theorem f207_eq (run : Run) (n : Nat) (a0_1 : Int) (a1_1 : Int) (a2_1 : Int) : f207 run n a0_1 a1_1 a2_1 =
  (run 219 [.int (IntKind.wrap .u64 a0_1)]).bind fun r1 =>
    nilV r1.outs (consV r1.vals fun v1 vs1 =>
    nilV vs1 ((run 218 [.agg v1.toAgg, .int (IntKind.wrap .u64 a1_1)]).bind fun r2 =>
    nilV r2.outs (consV r2.vals fun v2 vs2 =>
    consV vs2 fun _v3 vs3 =>
    nilV vs3 (bif ltI a2_1 0 then
    some ⟨[.agg [.int 0, .int 0, .int 0, .int 0, .int 0], .bool false], [], f207_fresh⟩
  else
    bif ltI 255 a2_1 then
    some ⟨[.agg [.int 0, .int 0, .int 0, .int 0, .int 0], .bool false], [], f207_fresh⟩
  else
    (run 220 [.agg v2.toAgg, .int a2_1]).bind fun r3 =>
    nilV r3.outs (consV r3.vals fun v4 vs4 =>
    consV vs4 fun v5 vs5 =>
    nilV vs5 (some ⟨[.agg v4.toAgg, .bool v5.toBool], [], f207_fresh⟩)))))) := by kernel_rfl
theorem f207_run (ext : Run) (n : Nat) (a0_1 : Int) (a1_1 : Int) (a2_1 : Int) : runE G ext (n + 1) 207 [.int a0_1, .int a1_1, .int a2_1] = f207 (runE G ext n) n a0_1 a1_1 a2_1 := runE_succ f207_at f207_in

noncomputable def f189 (run : Run) (n : Nat) (a0_1 : Int) (a1_1 : Int) (a2_1 : Int) (a3_1 : Int) (a4_1 : Int) : Option Res := evalK G run n f189_info.keep 0 f189_info.body (retE G f189_info) (f189_info.start [.int a0_1, .int a1_1, .int a2_1, .int a3_1, .int a4_1])
theorem f189_eq (run : Run) (n : Nat) (a0_1 : Int) (a1_1 : Int) (a2_1 : Int) (a3_1 : Int) (a4_1 : Int) : f189 run n a0_1 a1_1 a2_1 a3_1 a4_1 =
  (run 51 [.int a3_1, .int a4_1]).bind fun r1 =>
    nilV r1.outs (consV r1.vals fun v1 vs1 =>
    nilV vs1 (bif !v1.toBool then
    some ⟨[.agg [.int 0, .int 0, .int 0, .int 0, .int 0], .agg [.int 0, .int 0, .int 0, .int 0, .int 0], .bool false], [], f189_fresh⟩
  else
    (run 207 [.int a0_1, .int (IntKind.wrap .u32 a4_1), .int a2_1]).bind fun r2 =>
    nilV r2.outs (consV r2.vals fun v2 vs2 =>
    consV vs2 fun v3 vs3 =>
    nilV vs3 ((run 207 [.int a1_1, .int (IntKind.wrap .u32 (IntKind.wrap .i64 (a4_1 - a3_1))), .int 0]).bind fun r3 =>
    nilV r3.outs (consV r3.vals fun v4 vs4 =>
    consV vs4 fun _v5 vs5 =>
    nilV vs5 (some ⟨[.agg v2.toAgg, .agg v4.toAgg, .bool v3.toBool], [], f189_fresh⟩)))))) := by kernel_rfl
theorem f189_run (ext : Run) (n : Nat) (a0_1 : Int) (a1_1 : Int) (a2_1 : Int) (a3_1 : Int) (a4_1 : Int) : runE G ext (n + 1) 189 [.int a0_1, .int a1_1, .int a2_1, .int a3_1, .int a4_1] = f189 (runE G ext n) n a0_1 a1_1 a2_1 a3_1 a4_1 := runE_succ f189_at f189_in

noncomputable def f190_l0 (run : Run) (n : Nat) (k0 : Nat) (x8_1 : Int) (o2_1 : List AV) (o3_1 : List AV) : Option Res :=
  iterK (evalK G run n f190_keep 0 (sub [1, 0, 1, 0, 0] f190_body)) f190_t0 f190_o0 (blockK 0 (seqK (evalK G run n f190_keep 0 (sub [1, 1] f190_body) (retE G f190_info)) (retE G f190_info))) k0
    ⟨[.any, .any, .ptr ⟨(.arr 5 (.int .u64)), 2, 1, []⟩, .ptr ⟨(.arr 5 (.int .u64)), 3, 1, []⟩, .any, .any, .any, .any, .val (.int .i64) none (.int x8_1), .any, .any, .any, .any, .any, .any, .any, .any, .any, .any, .any, .any, .any, .any, .any, .any, .any], [⟨0, none⟩, ⟨0, none⟩, ⟨1, some ⟨(.arr 5 (.int .u64)), .agg o2_1⟩⟩, ⟨1, some ⟨(.arr 5 (.int .u64)), .agg o3_1⟩⟩, ⟨0, none⟩, ⟨0, none⟩, ⟨0, none⟩, ⟨0, none⟩, ⟨0, none⟩, ⟨0, none⟩, ⟨0, none⟩, ⟨0, none⟩, ⟨0, none⟩, ⟨0, none⟩, ⟨0, none⟩, ⟨0, none⟩, ⟨0, none⟩, ⟨0, none⟩, ⟨0, none⟩, ⟨0, none⟩, ⟨0, none⟩, ⟨0, none⟩, ⟨0, none⟩, ⟨0, none⟩, ⟨0, none⟩, ⟨0, none⟩], List.replicate 26 0⟩
theorem f190_l0_eq (run : Run) (n : Nat) (k0 : Nat) (x8_1 : Int) (o2_1 : List AV) (o3_1 : List AV) : f190_l0 run n (k0 + 1) x8_1 o2_1 o3_1 =
  bif ltI x8_1 5 then
    bif inR (IntKind.wrap .i64 (4 - x8_1)) 5 then
    bif inR (IntKind.wrap .i64 (4 - x8_1)) 5 then
    bif !(eqI ((AV.fld (.agg o2_1) (Int.toNat (IntKind.wrap .i64 (4 - x8_1)))).toInt) ((AV.fld (.agg o3_1) (Int.toNat (IntKind.wrap .i64 (4 - x8_1)))).toInt)) then
    bif ltI ((AV.fld (.agg o2_1) (Int.toNat (IntKind.wrap .i64 (4 - x8_1)))).toInt) ((AV.fld (.agg o3_1) (Int.toNat (IntKind.wrap .i64 (4 - x8_1)))).toInt) then
    some ⟨[.int (-1)], [], f190_fresh⟩
  else
    some ⟨[.int 1], [], f190_fresh⟩
  else
    f190_l0 run n k0 (IntKind.wrap .i64 (x8_1 + 1)) o2_1 o3_1
  else none
  else none
  else
    some ⟨[.int 0], [], f190_fresh⟩ := by kernel_rfl
noncomputable def f190 (run : Run) (n : Nat) (a0_1 : List AV) (a1_1 : List AV) : Option Res := evalK G run n f190_info.keep 0 f190_info.body (retE G f190_info) (f190_info.start [.agg a0_1, .agg a1_1])
theorem f190_eq (run : Run) (n : Nat) (a0_1 : List AV) (a1_1 : List AV) : f190 run n a0_1 a1_1 =
  f190_l0 run n n 0 a0_1 a1_1 := by kernel_rfl
theorem f190_run (ext : Run) (n : Nat) (a0_1 : List AV) (a1_1 : List AV) : runE G ext (n + 1) 190 [.agg a0_1, .agg a1_1] = f190 (runE G ext n) n a0_1 a1_1 := runE_succ f190_at f190_in

noncomputable def f173 (run : Run) (n : Nat) (a0_1 : Int) (a1_1 : Int) (a2_1 : Int) (a3_1 : Int) (a4_1 : Int) : Option Res := evalK G run n f173_info.keep 0 f173_info.body (retE G f173_info) (f173_info.start [.int a0_1, .int a1_1, .int a2_1, .int a3_1, .int a4_1])
theorem f173_eq (run : Run) (n : Nat) (a0_1 : Int) (a1_1 : Int) (a2_1 : Int) (a3_1 : Int) (a4_1 : Int) : f173 run n a0_1 a1_1 a2_1 a3_1 a4_1 =
  (run 189 [.int a0_1, .int a1_1, .int a2_1, .int a3_1, .int a4_1]).bind fun r1 =>
    nilV r1.outs (consV r1.vals fun v1 vs1 =>
    consV vs1 fun v2 vs2 =>
    consV vs2 fun v3 vs3 =>
    nilV vs3 (bif v3.toBool then
    (run 190 [.agg v1.toAgg, .agg v2.toAgg]).bind fun r2 =>
    nilV r2.outs (consV r2.vals fun v4 vs4 =>
    nilV vs4 (some ⟨[.bool (ltI 0 v4.toInt)], [], f173_fresh⟩))
  else
    some ⟨[.bool false], [], f173_fresh⟩)) := by kernel_rfl
theorem f173_run (ext : Run) (n : Nat) (a0_1 : Int) (a1_1 : Int) (a2_1 : Int) (a3_1 : Int) (a4_1 : Int) : runE G ext (n + 1) 173 [.int a0_1, .int a1_1, .int a2_1, .int a3_1, .int a4_1] = f173 (runE G ext n) n a0_1 a1_1 a2_1 a3_1 a4_1 := runE_succ f173_at f173_in

noncomputable def f153 (run : Run) (n : Nat) (a0_1 : Int) (a1_1 : Int) (a2_1 : Int) (a3_1 : Int) (a4_1 : Int) : Option Res := evalK G run n f153_info.keep 0 f153_info.body (retE G f153_info) (f153_info.start [.int a0_1, .int a1_1, .int a2_1, .int a3_1, .int a4_1])
theorem f153_eq (run : Run) (n : Nat) (a0_1 : Int) (a1_1 : Int) (a2_1 : Int) (a3_1 : Int) (a4_1 : Int) : f153 run n a0_1 a1_1 a2_1 a3_1 a4_1 =
  bif leI 0 a0_1 then
    bif leI 0 a1_1 then
    bif leI a0_1 1024 then
    bif leI a1_1 1024 then
    (run 173 [.int (IntKind.wrap .u32 a0_1), .int (IntKind.wrap .u32 a1_1), .int a2_1, .int a3_1, .int a4_1]).bind fun r1 =>
    nilV r1.outs (consV r1.vals fun v1 vs1 =>
    nilV vs1 (some ⟨[.bool v1.toBool], [], f153_fresh⟩))
  else
    some ⟨[.bool false], [], f153_fresh⟩
  else
    some ⟨[.bool false], [], f153_fresh⟩
  else
    some ⟨[.bool false], [], f153_fresh⟩
  else
    some ⟨[.bool false], [], f153_fresh⟩ := by kernel_rfl
theorem f153_run (ext : Run) (n : Nat) (a0_1 : Int) (a1_1 : Int) (a2_1 : Int) (a3_1 : Int) (a4_1 : Int) : runE G ext (n + 1) 153 [.int a0_1, .int a1_1, .int a2_1, .int a3_1, .int a4_1] = f153 (runE G ext n) n a0_1 a1_1 a2_1 a3_1 a4_1 := runE_succ f153_at f153_in

noncomputable def f128_l0 (run : Run) (n : Nat) (k0 : Nat) (x0_1 : List AV) (x1_1 : Int) (x3_1 : Int) (x4_1 : Int) (x11_1 : List AV) (x12_1 : Int) : Option Res :=
  iterK (evalK G run n f128_keep 0 (sub [1, 1, 1, 0, 1, 0, 0] f128_body)) f128_t0 f128_o0 (blockK 0 (seqK (evalK G run n f128_keep 0 (sub [1, 1, 1, 1] f128_body) (retE G f128_info)) (retE G f128_info))) k0
    ⟨[.val (.slice (.int .i64)) none (.slice x0_1), .val (.int .i64) none (.int x1_1), .any, .val (.int .i64) none (.int x3_1), .val (.int .i64) none (.int x4_1), .any, .any, .any, .any, .any, .any, .val (.slice (.int .i64)) (some (11, 0)) (.slice x11_1), .val (.int .i64) none (.int x12_1), .any, .any, .any, .any, .any, .any, .any, .any, .any, .any, .any, .any, .any, .any, .any, .any, .any, .any, .any, .any, .any, .any, .any, .any, .any, .any, .any, .any, .any, .any], [⟨0, none⟩, ⟨0, none⟩, ⟨0, none⟩, ⟨0, none⟩, ⟨0, none⟩, ⟨0, none⟩, ⟨0, none⟩, ⟨0, none⟩, ⟨0, none⟩, ⟨0, none⟩, ⟨0, none⟩, ⟨0, none⟩, ⟨0, none⟩, ⟨0, none⟩, ⟨0, none⟩, ⟨0, none⟩, ⟨0, none⟩, ⟨0, none⟩, ⟨0, none⟩, ⟨0, none⟩, ⟨0, none⟩, ⟨0, none⟩, ⟨0, none⟩, ⟨0, none⟩, ⟨0, none⟩, ⟨0, none⟩, ⟨0, none⟩, ⟨0, none⟩, ⟨0, none⟩, ⟨0, none⟩, ⟨0, none⟩, ⟨0, none⟩, ⟨0, none⟩, ⟨0, none⟩, ⟨0, none⟩, ⟨0, none⟩, ⟨0, none⟩, ⟨0, none⟩, ⟨0, none⟩, ⟨0, none⟩, ⟨0, none⟩, ⟨0, none⟩, ⟨0, none⟩], List.replicate 43 0⟩
theorem f128_l0_eq (run : Run) (n : Nat) (k0 : Nat) (x0_1 : List AV) (x1_1 : Int) (x3_1 : Int) (x4_1 : Int) (x11_1 : List AV) (x12_1 : Int) : f128_l0 run n (k0 + 1) x0_1 x1_1 x3_1 x4_1 x11_1 x12_1 =
  bif leI x12_1 (x11_1.length : Int) then
    bif inR (IntKind.wrap .i64 ((x11_1.length : Int) - x12_1)) x11_1.length then
    (run 153 [.int x12_1, .int (IntKind.wrap .i64 ((x0_1.length : Int) - (nth x11_1 (Int.toNat (IntKind.wrap .i64 ((x11_1.length : Int) - x12_1)))).toInt)), .int x1_1, .int x3_1, .int x4_1]).bind fun r2 =>
    nilV r2.outs (consV r2.vals fun v2 vs2 =>
    nilV vs2 (bif !v2.toBool then
    some ⟨[.bool false], [], f128_fresh⟩
  else
    f128_l0 run n k0 x0_1 x1_1 x3_1 x4_1 x11_1 (IntKind.wrap .i64 (x12_1 + 1))))
  else none
  else
    some ⟨[.bool true], [], f128_fresh⟩ := by kernel_rfl
noncomputable def f128 (run : Run) (n : Nat) (a0_1 : List AV) (a1_1 : Int) (a2_1 : Int) (a3_1 : Int) (a4_1 : Int) : Option Res := evalK G run n f128_info.keep 0 f128_info.body (retE G f128_info) (f128_info.start [.slice a0_1, .int a1_1, .int a2_1, .int a3_1, .int a4_1])
theorem f128_eq (run : Run) (n : Nat) (a0_1 : List AV) (a1_1 : Int) (a2_1 : Int) (a3_1 : Int) (a4_1 : Int) : f128 run n a0_1 a1_1 a2_1 a3_1 a4_1 =
  (run 56 [.slice a0_1, .int 0, .int a1_1]).bind fun r1 =>
    bif r1.fresh then
    nilV r1.outs (consV r1.vals fun v1 vs1 =>
    nilV vs1 (bif ltI 1024 (a0_1.length : Int) then
    some ⟨[.bool false], [], f128_fresh⟩
  else
    f128_l0 run n n a0_1 a1_1 a3_1 a4_1 v1.toSlice (mx2 a2_1 1)))
  else none := by kernel_rfl
theorem f128_run (ext : Run) (n : Nat) (a0_1 : List AV) (a1_1 : Int) (a2_1 : Int) (a3_1 : Int) (a4_1 : Int) : runE G ext (n + 1) 128 [.slice a0_1, .int a1_1, .int a2_1, .int a3_1, .int a4_1] = f128 (runE G ext n) n a0_1 a1_1 a2_1 a3_1 a4_1 := runE_succ f128_at f128_in

noncomputable def f154_l0 (run : Run) (n : Nat) (k0 : Nat) (x1_1 : Int) (m1 : Nat) (x12_1 : List AV) (x13_1 : Int) (x14_1 : Int) (o11_1 : List AV) : Option Res :=
  iterK (evalK G run n f154_keep 0 (sub [1, 1, 0, 1, 0, 0] f154_body)) f154_t0 f154_o0 (blockK 0 (seqK (evalK G run n f154_keep 0 (sub [1, 1, 1] f154_body) (retE G f154_info)) (retE G f154_info))) k0
    ⟨[.any, .val (.int .i64) none (.int x1_1), .any, .any, .any, .ref ⟨(.arr m1 (.int .i64)), 11, 1, []⟩ 0 m1, .any, .any, .any, .any, .any, .any, .val (.slice (.int .i64)) none (.slice x12_1), .val (.int .i64) none (.int x13_1), .val (.int .i64) none (.int x14_1), .any, .any, .any, .any, .any, .any, .any, .any, .any, .any, .any, .any, .any, .any, .any, .any, .any, .any, .any, .any, .any, .any, .any, .any], [⟨0, none⟩, ⟨0, none⟩, ⟨0, none⟩, ⟨0, none⟩, ⟨0, none⟩, ⟨0, none⟩, ⟨0, none⟩, ⟨0, none⟩, ⟨0, none⟩, ⟨0, none⟩, ⟨0, none⟩, ⟨1, some ⟨(.arr m1 (.int .i64)), .agg o11_1⟩⟩, ⟨0, none⟩, ⟨0, none⟩, ⟨0, none⟩, ⟨0, none⟩, ⟨0, none⟩, ⟨0, none⟩, ⟨0, none⟩, ⟨0, none⟩, ⟨0, none⟩, ⟨0, none⟩, ⟨0, none⟩, ⟨0, none⟩, ⟨0, none⟩, ⟨0, none⟩, ⟨0, none⟩, ⟨0, none⟩, ⟨0, none⟩, ⟨0, none⟩, ⟨0, none⟩, ⟨0, none⟩, ⟨0, none⟩, ⟨0, none⟩, ⟨0, none⟩, ⟨0, none⟩, ⟨0, none⟩, ⟨0, none⟩, ⟨0, none⟩], List.replicate 39 0⟩
theorem f154_l0_eq (run : Run) (n : Nat) (k0 : Nat) (x1_1 : Int) (m1 : Nat) (x12_1 : List AV) (x13_1 : Int) (x14_1 : Int) (o11_1 : List AV) : f154_l0 run n (k0 + 1) x1_1 m1 x12_1 x13_1 x14_1 o11_1 =
  bif ltI x14_1 x13_1 then
    bif inR x14_1 x12_1.length then
    bif inR x14_1 m1 then
    bif inR (IntKind.wrap .i64 (x14_1 + 1)) m1 then
    bif leI x1_1 ((nth x12_1 (Int.toNat x14_1)).toInt) then
    bif inR (IntKind.wrap .i64 (x14_1 + 1)) m1 then
    bif inR (IntKind.wrap .i64 (x14_1 + 1)) m1 then
    f154_l0 run n k0 x1_1 m1 x12_1 x13_1 (IntKind.wrap .i64 (x14_1 + 1)) ((o11_1.set (0 + (Int.toNat (IntKind.wrap .i64 (x14_1 + 1)))) (.int ((AV.fld (.agg o11_1) (0 + (Int.toNat x14_1))).toInt))).set (0 + (Int.toNat (IntKind.wrap .i64 (x14_1 + 1)))) (.int (IntKind.wrap .i64 ((AV.fld (.agg (o11_1.set (0 + (Int.toNat (IntKind.wrap .i64 (x14_1 + 1)))) (.int ((AV.fld (.agg o11_1) (0 + (Int.toNat x14_1))).toInt)))) (0 + (Int.toNat (IntKind.wrap .i64 (x14_1 + 1))))).toInt + 1))))
  else none
  else none
  else
    f154_l0 run n k0 x1_1 m1 x12_1 x13_1 (IntKind.wrap .i64 (x14_1 + 1)) (o11_1.set (0 + (Int.toNat (IntKind.wrap .i64 (x14_1 + 1)))) (.int ((AV.fld (.agg o11_1) (0 + (Int.toNat x14_1))).toInt)))
  else none
  else none
  else none
  else
    some ⟨[.slice (List.drop 0 (List.take m1 o11_1))], [], f154_fresh⟩ := by kernel_rfl
noncomputable def f154 (run : Run) (n : Nat) (a0_1 : List AV) (a1_1 : Int) : Option Res := evalK G run n f154_info.keep 0 f154_info.body (retE G f154_info) (f154_info.start [.slice a0_1, .int a1_1])
theorem f154_eq (run : Run) (n : Nat) (a0_1 : List AV) (a1_1 : Int) : f154 run n a0_1 a1_1 =
  bif eqI (IntKind.wrap .i64 ((a0_1.length : Int) + 1)) (IntKind.wrap .i64 ((a0_1.length : Int) + 1)) && leI 0 (IntKind.wrap .i64 ((a0_1.length : Int) + 1)) && Nat.ble (Int.toNat (IntKind.wrap .i64 ((a0_1.length : Int) + 1)) * 8) 140737488355328 then
    f154_l0 run n n a1_1 (Int.toNat (IntKind.wrap .i64 ((a0_1.length : Int) + 1))) a0_1 (a0_1.length : Int) 0 (List.replicate (Int.toNat (IntKind.wrap .i64 ((a0_1.length : Int) + 1))) (.int 0))
  else none := by kernel_rfl
theorem f154_run (ext : Run) (n : Nat) (a0_1 : List AV) (a1_1 : Int) : runE G ext (n + 1) 154 [.slice a0_1, .int a1_1] = f154 (runE G ext n) n a0_1 a1_1 := runE_succ f154_at f154_in

noncomputable def f174 (run : Run) (n : Nat) (a0_1 : Int) (a1_1 : Int) (a2_1 : Int) (a3_1 : Int) (a4_1 : Int) : Option Res := evalK G run n f174_info.keep 0 f174_info.body (retE G f174_info) (f174_info.start [.int a0_1, .int a1_1, .int a2_1, .int a3_1, .int a4_1])
theorem f174_eq (run : Run) (n : Nat) (a0_1 : Int) (a1_1 : Int) (a2_1 : Int) (a3_1 : Int) (a4_1 : Int) : f174 run n a0_1 a1_1 a2_1 a3_1 a4_1 =
  (run 189 [.int a0_1, .int a1_1, .int a2_1, .int a3_1, .int a4_1]).bind fun r1 =>
    nilV r1.outs (consV r1.vals fun v1 vs1 =>
    consV vs1 fun v2 vs2 =>
    consV vs2 fun v3 vs3 =>
    nilV vs3 (bif v3.toBool then
    (run 190 [.agg v1.toAgg, .agg v2.toAgg]).bind fun r2 =>
    nilV r2.outs (consV r2.vals fun v4 vs4 =>
    nilV vs4 (some ⟨[.bool (leI 0 v4.toInt)], [], f174_fresh⟩))
  else
    some ⟨[.bool false], [], f174_fresh⟩)) := by kernel_rfl
theorem f174_run (ext : Run) (n : Nat) (a0_1 : Int) (a1_1 : Int) (a2_1 : Int) (a3_1 : Int) (a4_1 : Int) : runE G ext (n + 1) 174 [.int a0_1, .int a1_1, .int a2_1, .int a3_1, .int a4_1] = f174 (runE G ext n) n a0_1 a1_1 a2_1 a3_1 a4_1 := runE_succ f174_at f174_in

noncomputable def f155_l2 (run : Run) (n : Nat) (k0 : Nat) (k2 : Nat) (x0_2 : List AV) (x1_2 : List AV) (x2_2 : Int) (x3_2 : Int) (x4_2 : Int) (x5_2 : Int) (x13_1 : Int) (x14_1 : Int) (x18_2 : Int) (x19_2 : Int) : Option Res :=
  iterK (evalK G run n f155_keep 2 (sub [1, 0, 1, 0, 0, 1, 1, 0, 0, 1, 1, 0, 0] f155_body)) f155_t2 f155_o2 (blockK 2 (blockK 1 (seqK (evalK G run n f155_keep 0 (sub [1, 0, 1, 0, 0, 1, 1, 1] f155_body) (seqK (fun t => iterK (evalK G run n f155_keep 0 (sub [1, 0, 1, 0, 0] f155_body)) f155_t0 f155_o0 (blockK 0 (seqK (evalK G run n f155_keep 0 (sub [1, 1] f155_body) (retE G f155_info)) (retE G f155_info))) k0 (t.clear f155_t0 f155_o0)) (blockK 0 (seqK (evalK G run n f155_keep 0 (sub [1, 1] f155_body) (retE G f155_info)) (retE G f155_info))))) (seqK (fun t => iterK (evalK G run n f155_keep 0 (sub [1, 0, 1, 0, 0] f155_body)) f155_t0 f155_o0 (blockK 0 (seqK (evalK G run n f155_keep 0 (sub [1, 1] f155_body) (retE G f155_info)) (retE G f155_info))) k0 (t.clear f155_t0 f155_o0)) (blockK 0 (seqK (evalK G run n f155_keep 0 (sub [1, 1] f155_body) (retE G f155_info)) (retE G f155_info))))))) k2
    ⟨[.val (.slice (.int .i64)) none (.slice x0_2), .val (.slice (.int .i64)) none (.slice x1_2), .val (.int .i64) none (.int x2_2), .val (.int .i64) none (.int x3_2), .val (.int .i64) none (.int x4_2), .val (.int .i64) none (.int x5_2), .any, .any, .any, .any, .any, .any, .any, .val (.int .i64) none (.int x13_1), .val (.int .i64) none (.int x14_1), .any, .any, .any, .val (.int .i64) none (.int x18_2), .val (.int .i64) none (.int x19_2), .any, .any, .any, .any, .any, .any, .any, .any, .any, .any, .any, .any, .any, .any, .any, .any, .any, .any, .any, .any, .any, .any, .any, .any, .any, .any, .any, .any, .any, .any, .any, .any, .any, .any, .any, .any, .any, .any, .any, .any, .any, .any, .any], [⟨0, none⟩, ⟨0, none⟩, ⟨0, none⟩, ⟨0, none⟩, ⟨0, none⟩, ⟨0, none⟩, ⟨0, none⟩, ⟨0, none⟩, ⟨0, none⟩, ⟨0, none⟩, ⟨0, none⟩, ⟨0, none⟩, ⟨0, none⟩, ⟨0, none⟩, ⟨0, none⟩, ⟨0, none⟩, ⟨0, none⟩, ⟨0, none⟩, ⟨0, none⟩, ⟨0, none⟩, ⟨0, none⟩, ⟨0, none⟩, ⟨0, none⟩, ⟨0, none⟩, ⟨0, none⟩, ⟨0, none⟩, ⟨0, none⟩, ⟨0, none⟩, ⟨0, none⟩, ⟨0, none⟩, ⟨0, none⟩, ⟨0, none⟩, ⟨0, none⟩, ⟨0, none⟩, ⟨0, none⟩, ⟨0, none⟩, ⟨0, none⟩, ⟨0, none⟩, ⟨0, none⟩, ⟨0, none⟩, ⟨0, none⟩, ⟨0, none⟩, ⟨0, none⟩, ⟨0, none⟩, ⟨0, none⟩, ⟨0, none⟩, ⟨0, none⟩, ⟨0, none⟩, ⟨0, none⟩, ⟨0, none⟩, ⟨0, none⟩, ⟨0, none⟩, ⟨0, none⟩, ⟨0, none⟩, ⟨0, none⟩, ⟨0, none⟩, ⟨0, none⟩, ⟨0, none⟩, ⟨0, none⟩, ⟨0, none⟩, ⟨0, none⟩, ⟨0, none⟩, ⟨0, none⟩], List.replicate 63 0⟩
noncomputable def f155_l0 (run : Run) (n : Nat) (k0 : Nat) (x0_1 : List AV) (x1_1 : List AV) (x2_1 : Int) (x3_1 : Int) (x4_1 : Int) (x5_1 : Int) (x18_1 : Int) (x19_1 : Int) : Option Res :=
  iterK (evalK G run n f155_keep 0 (sub [1, 0, 1, 0, 0] f155_body)) f155_t0 f155_o0 (blockK 0 (seqK (evalK G run n f155_keep 0 (sub [1, 1] f155_body) (retE G f155_info)) (retE G f155_info))) k0
    ⟨[.val (.slice (.int .i64)) none (.slice x0_1), .val (.slice (.int .i64)) none (.slice x1_1), .val (.int .i64) none (.int x2_1), .val (.int .i64) none (.int x3_1), .val (.int .i64) none (.int x4_1), .val (.int .i64) none (.int x5_1), .any, .any, .any, .any, .any, .any, .any, .any, .any, .any, .any, .any, .val (.int .i64) none (.int x18_1), .val (.int .i64) none (.int x19_1), .any, .any, .any, .any, .any, .any, .any, .any, .any, .any, .any, .any, .any, .any, .any, .any, .any, .any, .any, .any, .any, .any, .any, .any, .any, .any, .any, .any, .any, .any, .any, .any, .any, .any, .any, .any, .any, .any, .any, .any, .any, .any, .any], [⟨0, none⟩, ⟨0, none⟩, ⟨0, none⟩, ⟨0, none⟩, ⟨0, none⟩, ⟨0, none⟩, ⟨0, none⟩, ⟨0, none⟩, ⟨0, none⟩, ⟨0, none⟩, ⟨0, none⟩, ⟨0, none⟩, ⟨0, none⟩, ⟨0, none⟩, ⟨0, none⟩, ⟨0, none⟩, ⟨0, none⟩, ⟨0, none⟩, ⟨0, none⟩, ⟨0, none⟩, ⟨0, none⟩, ⟨0, none⟩, ⟨0, none⟩, ⟨0, none⟩, ⟨0, none⟩, ⟨0, none⟩, ⟨0, none⟩, ⟨0, none⟩, ⟨0, none⟩, ⟨0, none⟩, ⟨0, none⟩, ⟨0, none⟩, ⟨0, none⟩, ⟨0, none⟩, ⟨0, none⟩, ⟨0, none⟩, ⟨0, none⟩, ⟨0, none⟩, ⟨0, none⟩, ⟨0, none⟩, ⟨0, none⟩, ⟨0, none⟩, ⟨0, none⟩, ⟨0, none⟩, ⟨0, none⟩, ⟨0, none⟩, ⟨0, none⟩, ⟨0, none⟩, ⟨0, none⟩, ⟨0, none⟩, ⟨0, none⟩, ⟨0, none⟩, ⟨0, none⟩, ⟨0, none⟩, ⟨0, none⟩, ⟨0, none⟩, ⟨0, none⟩, ⟨0, none⟩, ⟨0, none⟩, ⟨0, none⟩, ⟨0, none⟩, ⟨0, none⟩, ⟨0, none⟩], List.replicate 63 0⟩
theorem f155_l2_eq (run : Run) (n : Nat) (k0 : Nat) (k2 : Nat) (x0_2 : List AV) (x1_2 : List AV) (x2_2 : Int) (x3_2 : Int) (x4_2 : Int) (x5_2 : Int) (x13_1 : Int) (x14_1 : Int) (x18_2 : Int) (x19_2 : Int) : f155_l2 run n k0 (k2 + 1) x0_2 x1_2 x2_2 x3_2 x4_2 x5_2 x13_1 x14_1 x18_2 x19_2 =
  bif ltI x14_1 (x1_2.length : Int) then
    bif inR x14_1 x0_2.length then
    bif inR x13_1 x0_2.length then
    bif inR x14_1 x1_2.length then
    bif inR x13_1 x1_2.length then
    bif leI x3_2 (IntKind.wrap .i64 ((nth x1_2 (Int.toNat x14_1)).toInt - (nth x1_2 (Int.toNat x13_1)).toInt)) then
    (run 174 [.int (IntKind.wrap .u32 (IntKind.wrap .i64 ((nth x0_2 (Int.toNat x14_1)).toInt - (nth x0_2 (Int.toNat x13_1)).toInt))), .int (IntKind.wrap .u32 (IntKind.wrap .i64 ((nth x1_2 (Int.toNat x14_1)).toInt - (nth x1_2 (Int.toNat x13_1)).toInt))), .int x2_2, .int x4_2, .int x5_2]).bind fun r1 =>
    nilV r1.outs (consV r1.vals fun v1 vs1 =>
    nilV vs1 (bif !v1.toBool then
    some ⟨[.bool false], [], f155_fresh⟩
  else
    f155_l2 run n k0 k2 x0_2 x1_2 x2_2 x3_2 x4_2 x5_2 x13_1 (IntKind.wrap .i64 (x14_1 + 1)) x18_2 x19_2))
  else
    f155_l2 run n k0 k2 x0_2 x1_2 x2_2 x3_2 x4_2 x5_2 x13_1 (IntKind.wrap .i64 (x14_1 + 1)) x18_2 x19_2
  else none
  else none
  else none
  else none
  else
    f155_l0 run n k0 x0_2 x1_2 x2_2 x3_2 x4_2 x5_2 x18_2 (IntKind.wrap .i64 (x19_2 + 1)) := by kernel_rfl
theorem f155_l0_eq (run : Run) (n : Nat) (k0 : Nat) (x0_1 : List AV) (x1_1 : List AV) (x2_1 : Int) (x3_1 : Int) (x4_1 : Int) (x5_1 : Int) (x18_1 : Int) (x19_1 : Int) : f155_l0 run n (k0 + 1) x0_1 x1_1 x2_1 x3_1 x4_1 x5_1 x18_1 x19_1 =
  bif ltI x19_1 x18_1 then
    f155_l2 run n k0 n x0_1 x1_1 x2_1 x3_1 x4_1 x5_1 x19_1 (IntKind.wrap .i64 (x19_1 + 1)) x18_1 x19_1
  else
    some ⟨[.bool true], [], f155_fresh⟩ := by kernel_rfl
noncomputable def f155 (run : Run) (n : Nat) (a0_1 : List AV) (a1_1 : List AV) (a2_1 : Int) (a3_1 : Int) (a4_1 : Int) (a5_1 : Int) : Option Res := evalK G run n f155_info.keep 0 f155_info.body (retE G f155_info) (f155_info.start [.slice a0_1, .slice a1_1, .int a2_1, .int a3_1, .int a4_1, .int a5_1])
theorem f155_eq (run : Run) (n : Nat) (a0_1 : List AV) (a1_1 : List AV) (a2_1 : Int) (a3_1 : Int) (a4_1 : Int) (a5_1 : Int) : f155 run n a0_1 a1_1 a2_1 a3_1 a4_1 a5_1 =
  f155_l0 run n n a0_1 a1_1 a2_1 a3_1 a4_1 a5_1 (a1_1.length : Int) 0 := by kernel_rfl
theorem f155_run (ext : Run) (n : Nat) (a0_1 : List AV) (a1_1 : List AV) (a2_1 : Int) (a3_1 : Int) (a4_1 : Int) (a5_1 : Int) : runE G ext (n + 1) 155 [.slice a0_1, .slice a1_1, .int a2_1, .int a3_1, .int a4_1, .int a5_1] = f155 (runE G ext n) n a0_1 a1_1 a2_1 a3_1 a4_1 a5_1 := runE_succ f155_at f155_in

noncomputable def f129_l0 (run : Run) (n : Nat) (k0 : Nat) (x0_1 : List AV) (x1_1 : Int) (x2_1 : Int) (x3_1 : Int) (x4_1 : Int) (x11_1 : List AV) (x24_1 : Int) (x25_1 : Int) : Option Res :=
  iterK (evalK G run n f129_keep 0 (sub [1, 1, 1, 0, 1, 0, 0] f129_body)) f129_t0 f129_o0 (blockK 0 (seqK (evalK G run n f129_keep 0 (sub [1, 1, 1, 1] f129_body) (retE G f129_info)) (retE G f129_info))) k0
    ⟨[.val (.slice (.int .i64)) none (.slice x0_1), .val (.int .i64) none (.int x1_1), .val (.int .i64) none (.int x2_1), .val (.int .i64) none (.int x3_1), .val (.int .i64) none (.int x4_1), .any, .any, .any, .any, .any, .any, .val (.slice (.int .i64)) none (.slice x11_1), .any, .any, .any, .any, .any, .any, .any, .any, .any, .any, .any, .any, .val (.int .i64) none (.int x24_1), .val (.int .i64) none (.int x25_1), .any, .any, .any, .any, .any, .any, .any, .any, .any, .any, .any, .any, .any, .any, .any, .any], [⟨0, none⟩, ⟨0, none⟩, ⟨0, none⟩, ⟨0, none⟩, ⟨0, none⟩, ⟨0, none⟩, ⟨0, none⟩, ⟨0, none⟩, ⟨0, none⟩, ⟨0, none⟩, ⟨0, none⟩, ⟨0, none⟩, ⟨0, none⟩, ⟨0, none⟩, ⟨0, none⟩, ⟨0, none⟩, ⟨0, none⟩, ⟨0, none⟩, ⟨0, none⟩, ⟨0, none⟩, ⟨0, none⟩, ⟨0, none⟩, ⟨0, none⟩, ⟨0, none⟩, ⟨0, none⟩, ⟨0, none⟩, ⟨0, none⟩, ⟨0, none⟩, ⟨0, none⟩, ⟨0, none⟩, ⟨0, none⟩, ⟨0, none⟩, ⟨0, none⟩, ⟨0, none⟩, ⟨0, none⟩, ⟨0, none⟩, ⟨0, none⟩, ⟨0, none⟩, ⟨0, none⟩, ⟨0, none⟩, ⟨0, none⟩, ⟨0, none⟩], List.replicate 42 0⟩
theorem f129_l0_eq (run : Run) (n : Nat) (k0 : Nat) (x0_1 : List AV) (x1_1 : Int) (x2_1 : Int) (x3_1 : Int) (x4_1 : Int) (x11_1 : List AV) (x24_1 : Int) (x25_1 : Int) : f129_l0 run n (k0 + 1) x0_1 x1_1 x2_1 x3_1 x4_1 x11_1 x24_1 x25_1 =
  bif ltI x25_1 x24_1 then
    (run 154 [.slice x0_1, .int x25_1]).bind fun r2 =>
    nilV r2.outs (consV r2.vals fun v2 vs2 =>
    nilV vs2 ((run 155 [.slice x11_1, .slice v2.toSlice, .int (IntKind.wrap .i64 (x1_1 - x25_1)), .int (mx2 x2_1 1), .int x3_1, .int x4_1]).bind fun r3 =>
    nilV r3.outs (consV r3.vals fun v3 vs3 =>
    nilV vs3 (bif !v3.toBool then
    some ⟨[.bool false], [], f129_fresh⟩
  else
    f129_l0 run n k0 x0_1 x1_1 x2_1 x3_1 x4_1 x11_1 x24_1 (IntKind.wrap .i64 (x25_1 + 1))))))
  else
    some ⟨[.bool true], [], f129_fresh⟩ := by kernel_rfl
noncomputable def f129 (run : Run) (n : Nat) (a0_1 : List AV) (a1_1 : Int) (a2_1 : Int) (a3_1 : Int) (a4_1 : Int) : Option Res := evalK G run n f129_info.keep 0 f129_info.body (retE G f129_info) (f129_info.start [.slice a0_1, .int a1_1, .int a2_1, .int a3_1, .int a4_1])
theorem f129_eq (run : Run) (n : Nat) (a0_1 : List AV) (a1_1 : Int) (a2_1 : Int) (a3_1 : Int) (a4_1 : Int) : f129 run n a0_1 a1_1 a2_1 a3_1 a4_1 =
  bif ltI 1024 (a0_1.length : Int) then
    some ⟨[.bool false], [], f129_fresh⟩
  else
    bif ltI 255 a1_1 then
    some ⟨[.bool false], [], f129_fresh⟩
  else
    (run 154 [.slice a0_1, .int a1_1]).bind fun r1 =>
    nilV r1.outs (consV r1.vals fun v1 vs1 =>
    nilV vs1 (f129_l0 run n n a0_1 a1_1 a2_1 a3_1 a4_1 v1.toSlice (mx2 a1_1 0) 0)) := by kernel_rfl
theorem f129_run (ext : Run) (n : Nat) (a0_1 : List AV) (a1_1 : Int) (a2_1 : Int) (a3_1 : Int) (a4_1 : Int) : runE G ext (n + 1) 129 [.slice a0_1, .int a1_1, .int a2_1, .int a3_1, .int a4_1] = f129 (runE G ext n) n a0_1 a1_1 a2_1 a3_1 a4_1 := runE_succ f129_at f129_in

noncomputable def f94 (run : Run) (n : Nat) (a0_1 : List AV) (a1_1 : Int) (a2_1 : Int) (a3_1 : Int) (a4_1 : Int) : Option Res := evalK G run n f94_info.keep 0 f94_info.body (retE G f94_info) (f94_info.start [.slice a0_1, .int a1_1, .int a2_1, .int a3_1, .int a4_1])
theorem f94_eq (run : Run) (n : Nat) (a0_1 : List AV) (a1_1 : Int) (a2_1 : Int) (a3_1 : Int) (a4_1 : Int) : f94 run n a0_1 a1_1 a2_1 a3_1 a4_1 =
  (run 128 [.slice a0_1, .int a1_1, .int a2_1, .int a3_1, .int a4_1]).bind fun r1 =>
    nilV r1.outs (consV r1.vals fun v1 vs1 =>
    nilV vs1 (bif v1.toBool then
    (run 129 [.slice a0_1, .int a1_1, .int a2_1, .int a3_1, .int a4_1]).bind fun r2 =>
    nilV r2.outs (consV r2.vals fun v2 vs2 =>
    nilV vs2 (some ⟨[.bool v2.toBool], [], f94_fresh⟩))
  else
    some ⟨[.bool false], [], f94_fresh⟩)) := by kernel_rfl
theorem f94_run (ext : Run) (n : Nat) (a0_1 : List AV) (a1_1 : Int) (a2_1 : Int) (a3_1 : Int) (a4_1 : Int) : runE G ext (n + 1) 94 [.slice a0_1, .int a1_1, .int a2_1, .int a3_1, .int a4_1] = f94 (runE G ext n) n a0_1 a1_1 a2_1 a3_1 a4_1 := runE_succ f94_at f94_in

noncomputable def f57 (run : Run) (n : Nat) (a0_1 : List AV) (a1_1 : Int) (a2_1 : Int) (a3_1 : Int) (a4_1 : Int) (a5_1 : Int) : Option Res := evalK G run n f57_info.keep 0 f57_info.body (retE G f57_info) (f57_info.start [.slice a0_1, .int a1_1, .int a2_1, .int a3_1, .int a4_1, .int a5_1])
theorem f57_eq (run : Run) (n : Nat) (a0_1 : List AV) (a1_1 : Int) (a2_1 : Int) (a3_1 : Int) (a4_1 : Int) (a5_1 : Int) : f57 run n a0_1 a1_1 a2_1 a3_1 a4_1 a5_1 =
  (run 56 [.slice a0_1, .int a1_1, .int a2_1]).bind fun r1 =>
    bif r1.fresh then
    nilV r1.outs (consV r1.vals fun v1 vs1 =>
    nilV vs1 (bif ltI a3_1 1 then
    some ⟨[.int a1_1], [], f57_fresh⟩
  else
    bif leI (v1.toSlice.length : Int) a3_1 then
    some ⟨[.int a1_1], [], f57_fresh⟩
  else
    bif ltI a1_1 0 then
    some ⟨[.int a1_1], [], f57_fresh⟩
  else
    bif boundsOk a1_1 (a0_1.length : Int) (a0_1.length : Int) (a0_1.length : Int) && true then
    (run 94 [.slice (List.drop (Int.toNat a1_1) (List.take (Int.toNat (a0_1.length : Int)) a0_1)), .int a2_1, .int a3_1, .int a4_1, .int a5_1]).bind fun r2 =>
    nilV r2.outs (consV r2.vals fun v2 vs2 =>
    nilV vs2 (bif !v2.toBool then
    some ⟨[.int a1_1], [], f57_fresh⟩
  else
    bif inR (IntKind.wrap .i64 ((v1.toSlice.length : Int) - a3_1)) v1.toSlice.length then
    some ⟨[.int ((nth v1.toSlice (Int.toNat (IntKind.wrap .i64 ((v1.toSlice.length : Int) - a3_1)))).toInt)], [], f57_fresh⟩
  else none))
  else none))
  else none := by kernel_rfl
theorem f57_run (ext : Run) (n : Nat) (a0_1 : List AV) (a1_1 : Int) (a2_1 : Int) (a3_1 : Int) (a4_1 : Int) (a5_1 : Int) : runE G ext (n + 1) 57 [.slice a0_1, .int a1_1, .int a2_1, .int a3_1, .int a4_1, .int a5_1] = f57 (runE G ext n) n a0_1 a1_1 a2_1 a3_1 a4_1 a5_1 := runE_succ f57_at f57_in

end Go.Proofs.YtncajhkogppojaaGreat.Ev
