/- What the evaluator does with the functions, as programs over plain values: printed by gen.py, checked by the kernel. -/
import Derived.Test.YtogehijjhibdkaaGreatEvFA
namespace Go.Proofs.YtogehijjhibdkaaGreat.Ev
open Go Go.RowKit
set_option maxRecDepth 100000


noncomputable def f108_l0 (run : Run) (n : Nat) (k0 : Nat) (x0_1 : List AV) (x3_1 : Int) (x4_1 : Int) : Option Res :=
  iterK (evalK G run n f108_keep 0 (sub [1, 1, 0, 1, 0, 0] f108_body)) f108_t0 f108_o0 (blockK 0 (seqK (evalK G run n f108_keep 0 (sub [1, 1, 1] f108_body) (retE G f108_info)) (retE G f108_info))) k0
    ⟨[.val (.slice (.struct [(.struct [(.int .u32), (.blob 32), (.blob 32), (.int .u64)]), (.struct [(.int .i64), (.int .i64), (.slice (.blob 32))])])) none (.slice x0_1), .any, .any, .val (.int .i64) none (.int x3_1), .val (.int .i64) none (.int x4_1), .any, .any, .any, .any, .any, .any, .any, .any, .any, .any, .any, .any, .any, .any, .any, .any, .any, .any, .any, .any, .any, .any, .any, .any, .any, .any, .any, .any, .any, .any, .any, .any, .any], [⟨0, none⟩, ⟨0, none⟩, ⟨0, none⟩, ⟨0, none⟩, ⟨0, none⟩, ⟨0, none⟩, ⟨0, none⟩, ⟨0, none⟩, ⟨0, none⟩, ⟨0, none⟩, ⟨0, none⟩, ⟨0, none⟩, ⟨0, none⟩, ⟨0, none⟩, ⟨0, none⟩, ⟨0, none⟩, ⟨0, none⟩, ⟨0, none⟩, ⟨0, none⟩, ⟨0, none⟩, ⟨0, none⟩, ⟨0, none⟩, ⟨0, none⟩, ⟨0, none⟩, ⟨0, none⟩, ⟨0, none⟩, ⟨0, none⟩, ⟨0, none⟩, ⟨0, none⟩, ⟨0, none⟩, ⟨0, none⟩, ⟨0, none⟩, ⟨0, none⟩, ⟨0, none⟩, ⟨0, none⟩, ⟨0, none⟩, ⟨0, none⟩, ⟨0, none⟩], List.replicate 38 0⟩
theorem f108_l0_eq (run : Run) (n : Nat) (k0 : Nat) (x0_1 : List AV) (x3_1 : Int) (x4_1 : Int) : f108_l0 run n (k0 + 1) x0_1 x3_1 x4_1 =
  bif ltI 0 x4_1 then
    bif inR x4_1 x0_1.length then
    bif !(eqI ((((nth x0_1 (Int.toNat x4_1)).fld 1).fld 0).toInt) 0) then
    some ⟨[.int x3_1], [], f108_fresh⟩
  else
    bif inR x4_1 x0_1.length then
    bif inR (IntKind.wrap .i64 (x4_1 - 1)) x0_1.length then
    (run 137 [.agg [.int ((((nth x0_1 (Int.toNat x4_1)).fld 0).fld 0).toInt), .blob ((((nth x0_1 (Int.toNat x4_1)).fld 0).fld 1).toBlob), .blob ((((nth x0_1 (Int.toNat x4_1)).fld 0).fld 2).toBlob), .int ((((nth x0_1 (Int.toNat x4_1)).fld 0).fld 3).toInt)], .agg [.int ((((nth x0_1 (Int.toNat (IntKind.wrap .i64 (x4_1 - 1)))).fld 0).fld 0).toInt), .blob ((((nth x0_1 (Int.toNat (IntKind.wrap .i64 (x4_1 - 1)))).fld 0).fld 1).toBlob), .blob ((((nth x0_1 (Int.toNat (IntKind.wrap .i64 (x4_1 - 1)))).fld 0).fld 2).toBlob), .int ((((nth x0_1 (Int.toNat (IntKind.wrap .i64 (x4_1 - 1)))).fld 0).fld 3).toInt)]]).bind fun r1 =>
    nilV r1.outs (consV r1.vals fun v1 vs1 =>
    nilV vs1 (bif !v1.toBool then
    some ⟨[.int x3_1], [], f108_fresh⟩
  else
    f108_l0 run n k0 x0_1 (IntKind.wrap .i64 (x3_1 + 1)) (IntKind.wrap .i64 (x4_1 - 1))))
  else none
  else none
  else none
  else
    some ⟨[.int x3_1], [], f108_fresh⟩ := by kernel_rfl
noncomputable def f108 (run : Run) (n : Nat) (a0_1 : List AV) : Option Res := evalK G run n f108_info.keep 0 f108_info.body (retE G f108_info) (f108_info.start [.slice a0_1])
theorem f108_eq (run : Run) (n : Nat) (a0_1 : List AV) : f108 run n a0_1 =
  f108_l0 run n n a0_1 0 (IntKind.wrap .i64 ((a0_1.length : Int) - 1)) := by kernel_rfl
theorem f108_run (ext : Run) (n : Nat) (a0_1 : List AV) : runE G ext (n + 1) 108 [.slice a0_1] = f108 (runE G ext n) n a0_1 := runE_succ f108_at f108_in

noncomputable def f68 (run : Run) (n : Nat) (a0_1 : List AV) (a1_1 : Int) : Option Res := evalK G run n f68_info.keep 0 f68_info.body (retE G f68_info) (f68_info.start [.slice a0_1, .int a1_1])
theorem f68_eq (run : Run) (n : Nat) (a0_1 : List AV) (a1_1 : Int) : f68 run n a0_1 a1_1 =
  (run 108 [.slice a0_1]).bind fun r1 =>
    nilV r1.outs (consV r1.vals fun v1 vs1 =>
    nilV vs1 (bif ltI v1.toInt a1_1 then
    some ⟨[.int 11], [], f68_fresh⟩
  else
    some ⟨[.int 0], [], f68_fresh⟩)) := by kernel_rfl
theorem f68_run (ext : Run) (n : Nat) (a0_1 : List AV) (a1_1 : Int) : runE G ext (n + 1) 68 [.slice a0_1, .int a1_1] = f68 (runE G ext n) n a0_1 a1_1 := runE_succ f68_at f68_in

noncomputable def f32_l2 (run : Run) (n : Nat) (k0 : Nat) (k2 : Nat) (x1_2 : List AV) (x2_12 : Int) (x2_13 : List UInt8) (x2_14 : List UInt8) (x2_15 : Int) (x2_16 : List UInt8) (x2_17 : Int) (x2_18 : Int) (x2_19 : Int) (x2_20 : Int) (x2_21 : Int) (x2_22 : Int) (x6_2 : List AV) (x7_1 : Int) (x23_2 : Int) (x24_2 : Int) (x27_1 : List AV) (x28_1 : Int) (x29_1 : Int) (o4_3 : Int) (o4_4 : Int) : Option Res :=
  iterK (evalK G run n f32_keep 2 (sub [1, 1, 1, 0, 1, 0, 0, 1, 1, 0, 0, 1, 1, 0, 0] f32_body)) f32_t2 f32_o2 (blockK 2 (blockK 1 (seqK (evalK G run n f32_keep 0 (sub [1, 1, 1, 0, 1, 0, 0, 1, 1, 1] f32_body) (seqK (fun t => iterK (evalK G run n f32_keep 0 (sub [1, 1, 1, 0, 1, 0, 0] f32_body)) f32_t0 f32_o0 (blockK 0 (seqK (evalK G run n f32_keep 0 (sub [1, 1, 1, 1] f32_body) (retE G f32_info)) (retE G f32_info))) k0 (t.clear f32_t0 f32_o0)) (blockK 0 (seqK (evalK G run n f32_keep 0 (sub [1, 1, 1, 1] f32_body) (retE G f32_info)) (retE G f32_info))))) (seqK (fun t => iterK (evalK G run n f32_keep 0 (sub [1, 1, 1, 0, 1, 0, 0] f32_body)) f32_t0 f32_o0 (blockK 0 (seqK (evalK G run n f32_keep 0 (sub [1, 1, 1, 1] f32_body) (retE G f32_info)) (retE G f32_info))) k0 (t.clear f32_t0 f32_o0)) (blockK 0 (seqK (evalK G run n f32_keep 0 (sub [1, 1, 1, 1] f32_body) (retE G f32_info)) (retE G f32_info))))))) k2
    ⟨[.any, .val (.slice (.struct [(.struct [(.int .u32), (.blob 32), (.blob 32), (.int .u64)]), (.struct [(.int .i64), (.int .i64), (.slice (.blob 32))])])) none (.slice x1_2), .val (.pat (.struct [(.struct [(.int .u32), (.blob 32), (.blob 32), (.int .u64)]), (.blob 32), (.int .i64), (.int .i64), (.int .i64), (.int .i64), (.int .i64), (.int .i64)])) none (.agg [.agg [.int x2_12, .blob x2_13, .blob x2_14, .int x2_15], .blob x2_16, .int x2_17, .int x2_18, .int x2_19, .int x2_20, .int x2_21, .int x2_22]), .any, .ptr ⟨(.struct [(.int .i64), (.int .i64)]), 4, 1, []⟩, .any, .val (.slice (.struct [(.clos [(104, ([], [0])), (105, ([], [0, 1])), (106, ([], [0]))] [(.pat (.slice (.struct [(.struct [(.int .u32), (.blob 32), (.blob 32), (.int .u64)]), (.struct [(.int .i64), (.int .i64), (.slice (.blob 32))])]))), (.pat (.struct [(.struct [(.int .u32), (.blob 32), (.blob 32), (.int .u64)]), (.blob 32), (.int .i64), (.int .i64), (.int .i64), (.int .i64), (.int .i64), (.int .i64)]))]), (.int .i64)])) (some (6, 0)) (.slice x6_2), .val (.int .i64) none (.int x7_1), .any, .any, .any, .any, .any, .any, .any, .any, .any, .any, .any, .any, .any, .any, .any, .val (.int .i64) none (.int x23_2), .val (.int .i64) none (.int x24_2), .any, .any, .val (.slice (.struct [(.clos [(104, ([], [0])), (105, ([], [0, 1])), (106, ([], [0]))] [(.pat (.slice (.struct [(.struct [(.int .u32), (.blob 32), (.blob 32), (.int .u64)]), (.struct [(.int .i64), (.int .i64), (.slice (.blob 32))])]))), (.pat (.struct [(.struct [(.int .u32), (.blob 32), (.blob 32), (.int .u64)]), (.blob 32), (.int .i64), (.int .i64), (.int .i64), (.int .i64), (.int .i64), (.int .i64)]))]), (.int .i64)])) none (.slice x27_1), .val (.int .i64) none (.int x28_1), .val (.int .i64) none (.int x29_1), .any, .any, .any, .any, .any, .any, .any, .any, .any, .any, .any, .any, .any, .any, .any, .any, .any, .any, .any, .any, .any, .any, .any, .any, .any], [⟨0, none⟩, ⟨0, none⟩, ⟨0, none⟩, ⟨0, none⟩, ⟨1, some ⟨(.struct [(.int .i64), (.int .i64)]), .agg [.int o4_3, .int o4_4]⟩⟩, ⟨0, none⟩, ⟨0, none⟩, ⟨0, none⟩, ⟨0, none⟩, ⟨0, none⟩, ⟨0, none⟩, ⟨0, none⟩, ⟨0, none⟩, ⟨0, none⟩, ⟨0, none⟩, ⟨0, none⟩, ⟨0, none⟩, ⟨0, none⟩, ⟨0, none⟩, ⟨0, none⟩, ⟨0, none⟩, ⟨0, none⟩, ⟨0, none⟩, ⟨0, none⟩, ⟨0, none⟩, ⟨0, none⟩, ⟨0, none⟩, ⟨0, none⟩, ⟨0, none⟩, ⟨0, none⟩, ⟨0, none⟩, ⟨0, none⟩, ⟨0, none⟩, ⟨0, none⟩, ⟨0, none⟩, ⟨0, none⟩, ⟨0, none⟩, ⟨0, none⟩, ⟨0, none⟩, ⟨0, none⟩, ⟨0, none⟩, ⟨0, none⟩, ⟨0, none⟩, ⟨0, none⟩, ⟨0, none⟩, ⟨0, none⟩, ⟨0, none⟩, ⟨0, none⟩, ⟨0, none⟩, ⟨0, none⟩, ⟨0, none⟩, ⟨0, none⟩, ⟨0, none⟩, ⟨0, none⟩, ⟨0, none⟩], List.replicate 55 0⟩
noncomputable def f32_l0 (run : Run) (n : Nat) (k0 : Nat) (x1_1 : List AV) (x2_1 : Int) (x2_2 : List UInt8) (x2_3 : List UInt8) (x2_4 : Int) (x2_5 : List UInt8) (x2_6 : Int) (x2_7 : Int) (x2_8 : Int) (x2_9 : Int) (x2_10 : Int) (x2_11 : Int) (x6_1 : List AV) (x23_1 : Int) (x24_1 : Int) (o4_1 : Int) (o4_2 : Int) : Option Res :=
  iterK (evalK G run n f32_keep 0 (sub [1, 1, 1, 0, 1, 0, 0] f32_body)) f32_t0 f32_o0 (blockK 0 (seqK (evalK G run n f32_keep 0 (sub [1, 1, 1, 1] f32_body) (retE G f32_info)) (retE G f32_info))) k0
    ⟨[.any, .val (.slice (.struct [(.struct [(.int .u32), (.blob 32), (.blob 32), (.int .u64)]), (.struct [(.int .i64), (.int .i64), (.slice (.blob 32))])])) none (.slice x1_1), .val (.pat (.struct [(.struct [(.int .u32), (.blob 32), (.blob 32), (.int .u64)]), (.blob 32), (.int .i64), (.int .i64), (.int .i64), (.int .i64), (.int .i64), (.int .i64)])) none (.agg [.agg [.int x2_1, .blob x2_2, .blob x2_3, .int x2_4], .blob x2_5, .int x2_6, .int x2_7, .int x2_8, .int x2_9, .int x2_10, .int x2_11]), .any, .ptr ⟨(.struct [(.int .i64), (.int .i64)]), 4, 1, []⟩, .any, .val (.slice (.struct [(.clos [(104, ([], [0])), (105, ([], [0, 1])), (106, ([], [0]))] [(.pat (.slice (.struct [(.struct [(.int .u32), (.blob 32), (.blob 32), (.int .u64)]), (.struct [(.int .i64), (.int .i64), (.slice (.blob 32))])]))), (.pat (.struct [(.struct [(.int .u32), (.blob 32), (.blob 32), (.int .u64)]), (.blob 32), (.int .i64), (.int .i64), (.int .i64), (.int .i64), (.int .i64), (.int .i64)]))]), (.int .i64)])) (some (6, 0)) (.slice x6_1), .any, .any, .any, .any, .any, .any, .any, .any, .any, .any, .any, .any, .any, .any, .any, .any, .val (.int .i64) none (.int x23_1), .val (.int .i64) none (.int x24_1), .any, .any, .any, .any, .any, .any, .any, .any, .any, .any, .any, .any, .any, .any, .any, .any, .any, .any, .any, .any, .any, .any, .any, .any, .any, .any, .any, .any, .any, .any], [⟨0, none⟩, ⟨0, none⟩, ⟨0, none⟩, ⟨0, none⟩, ⟨1, some ⟨(.struct [(.int .i64), (.int .i64)]), .agg [.int o4_1, .int o4_2]⟩⟩, ⟨0, none⟩, ⟨0, none⟩, ⟨0, none⟩, ⟨0, none⟩, ⟨0, none⟩, ⟨0, none⟩, ⟨0, none⟩, ⟨0, none⟩, ⟨0, none⟩, ⟨0, none⟩, ⟨0, none⟩, ⟨0, none⟩, ⟨0, none⟩, ⟨0, none⟩, ⟨0, none⟩, ⟨0, none⟩, ⟨0, none⟩, ⟨0, none⟩, ⟨0, none⟩, ⟨0, none⟩, ⟨0, none⟩, ⟨0, none⟩, ⟨0, none⟩, ⟨0, none⟩, ⟨0, none⟩, ⟨0, none⟩, ⟨0, none⟩, ⟨0, none⟩, ⟨0, none⟩, ⟨0, none⟩, ⟨0, none⟩, ⟨0, none⟩, ⟨0, none⟩, ⟨0, none⟩, ⟨0, none⟩, ⟨0, none⟩, ⟨0, none⟩, ⟨0, none⟩, ⟨0, none⟩, ⟨0, none⟩, ⟨0, none⟩, ⟨0, none⟩, ⟨0, none⟩, ⟨0, none⟩, ⟨0, none⟩, ⟨0, none⟩, ⟨0, none⟩, ⟨0, none⟩, ⟨0, none⟩, ⟨0, none⟩], List.replicate 55 0⟩
theorem f32_l2_eq (run : Run) (n : Nat) (k0 : Nat) (k2 : Nat) (x1_2 : List AV) (x2_12 : Int) (x2_13 : List UInt8) (x2_14 : List UInt8) (x2_15 : Int) (x2_16 : List UInt8) (x2_17 : Int) (x2_18 : Int) (x2_19 : Int) (x2_20 : Int) (x2_21 : Int) (x2_22 : Int) (x6_2 : List AV) (x7_1 : Int) (x23_2 : Int) (x24_2 : Int) (x27_1 : List AV) (x28_1 : Int) (x29_1 : Int) (o4_3 : Int) (o4_4 : Int) : f32_l2 run n k0 (k2 + 1) x1_2 x2_12 x2_13 x2_14 x2_15 x2_16 x2_17 x2_18 x2_19 x2_20 x2_21 x2_22 x6_2 x7_1 x23_2 x24_2 x27_1 x28_1 x29_1 o4_3 o4_4 =
  bif ltI x29_1 x28_1 then
    bif inR x29_1 x27_1.length then
    bif Nat.beq (((nth x27_1 (Int.toNat x29_1)).fld 0).cloF) 104 then
    (run 104 [.int x7_1, nth (((nth x27_1 (Int.toNat x29_1)).fld 0).cloXs) 0]).bind fun r5 =>
    nilV r5.outs (consV r5.vals fun v5 vs5 =>
    nilV vs5 (bif !v5.toBool then
    some ⟨[.agg [.int (((nth x27_1 (Int.toNat x29_1)).fld 1).toInt), .int x7_1]], [], f32_fresh⟩
  else
    f32_l2 run n k0 k2 x1_2 x2_12 x2_13 x2_14 x2_15 x2_16 x2_17 x2_18 x2_19 x2_20 x2_21 x2_22 x6_2 x7_1 x23_2 x24_2 x27_1 x28_1 (IntKind.wrap .i64 (x29_1 + 1)) o4_3 o4_4))
  else
    bif Nat.beq (((nth x27_1 (Int.toNat x29_1)).fld 0).cloF) 105 then
    (run 105 [.int x7_1, nth (((nth x27_1 (Int.toNat x29_1)).fld 0).cloXs) 0, nth (((nth x27_1 (Int.toNat x29_1)).fld 0).cloXs) 1]).bind fun r4 =>
    nilV r4.outs (consV r4.vals fun v4 vs4 =>
    nilV vs4 (bif !v4.toBool then
    some ⟨[.agg [.int (((nth x27_1 (Int.toNat x29_1)).fld 1).toInt), .int x7_1]], [], f32_fresh⟩
  else
    f32_l2 run n k0 k2 x1_2 x2_12 x2_13 x2_14 x2_15 x2_16 x2_17 x2_18 x2_19 x2_20 x2_21 x2_22 x6_2 x7_1 x23_2 x24_2 x27_1 x28_1 (IntKind.wrap .i64 (x29_1 + 1)) o4_3 o4_4))
  else
    bif Nat.beq (((nth x27_1 (Int.toNat x29_1)).fld 0).cloF) 106 then
    (run 106 [.int x7_1, nth (((nth x27_1 (Int.toNat x29_1)).fld 0).cloXs) 0]).bind fun r3 =>
    nilV r3.outs (consV r3.vals fun v3 vs3 =>
    nilV vs3 (bif !v3.toBool then
    some ⟨[.agg [.int (((nth x27_1 (Int.toNat x29_1)).fld 1).toInt), .int x7_1]], [], f32_fresh⟩
  else
    f32_l2 run n k0 k2 x1_2 x2_12 x2_13 x2_14 x2_15 x2_16 x2_17 x2_18 x2_19 x2_20 x2_21 x2_22 x6_2 x7_1 x23_2 x24_2 x27_1 x28_1 (IntKind.wrap .i64 (x29_1 + 1)) o4_3 o4_4))
  else
    none
  else none
  else
    f32_l0 run n k0 x1_2 x2_12 x2_13 x2_14 x2_15 x2_16 x2_17 x2_18 x2_19 x2_20 x2_21 x2_22 x6_2 x23_2 (IntKind.wrap .i64 (x24_2 + 1)) o4_3 o4_4 := by kernel_rfl
theorem f32_l0_eq (run : Run) (n : Nat) (k0 : Nat) (x1_1 : List AV) (x2_1 : Int) (x2_2 : List UInt8) (x2_3 : List UInt8) (x2_4 : Int) (x2_5 : List UInt8) (x2_6 : Int) (x2_7 : Int) (x2_8 : Int) (x2_9 : Int) (x2_10 : Int) (x2_11 : Int) (x6_1 : List AV) (x23_1 : Int) (x24_1 : Int) (o4_1 : Int) (o4_2 : Int) : f32_l0 run n (k0 + 1) x1_1 x2_1 x2_2 x2_3 x2_4 x2_5 x2_6 x2_7 x2_8 x2_9 x2_10 x2_11 x6_1 x23_1 x24_1 o4_1 o4_2 =
  bif ltI x24_1 x23_1 then
    f32_l2 run n k0 n x1_1 x2_1 x2_2 x2_3 x2_4 x2_5 x2_6 x2_7 x2_8 x2_9 x2_10 x2_11 x6_1 x24_1 x23_1 x24_1 x6_1 (x6_1.length : Int) 0 o4_1 o4_2
  else
    (run 68 [.slice x1_1, .int x2_7]).bind fun r6 =>
    nilV r6.outs (consV r6.vals fun v6 vs6 =>
    nilV vs6 (bif !(eqI v6.toInt 0) then
    some ⟨[.agg [.int v6.toInt, .int (x1_1.length : Int)]], [], f32_fresh⟩
  else
    some ⟨[.agg [.int 0, .int 0]], [], f32_fresh⟩)) := by kernel_rfl
noncomputable def f32 (run : Run) (n : Nat) (a0_1 : Int) (a0_2 : List UInt8) (a0_3 : List UInt8) (a0_4 : Int) (a0_5 : List UInt8) (a0_6 : Int) (a0_7 : Int) (a0_8 : Int) (a0_9 : Int) (a0_10 : Int) (a0_11 : Int) (a1_1 : List AV) : Option Res := evalK G run n f32_info.keep 0 f32_info.body (retE G f32_info) (f32_info.start [.agg [.agg [.int a0_1, .blob a0_2, .blob a0_3, .int a0_4], .blob a0_5, .int a0_6, .int a0_7, .int a0_8, .int a0_9, .int a0_10, .int a0_11], .slice a1_1])
theorem f32_eq (run : Run) (n : Nat) (a0_1 : Int) (a0_2 : List UInt8) (a0_3 : List UInt8) (a0_4 : Int) (a0_5 : List UInt8) (a0_6 : Int) (a0_7 : Int) (a0_8 : Int) (a0_9 : Int) (a0_10 : Int) (a0_11 : Int) (a1_1 : List AV) : f32 run n a0_1 a0_2 a0_3 a0_4 a0_5 a0_6 a0_7 a0_8 a0_9 a0_10 a0_11 a1_1 =
  (run 66 [.agg [.int a0_1, .blob a0_2, .blob a0_3, .int a0_4], .slice a1_1]).bind fun r1 =>
    nilV r1.outs (consV r1.vals fun v1 vs1 =>
    nilV vs1 (bif !(eqI v1.toInt 0) then
    some ⟨[.agg [.int v1.toInt, .int 0]], [], f32_fresh⟩
  else
    (run 67 [.agg [.agg [.int a0_1, .blob a0_2, .blob a0_3, .int a0_4], .blob a0_5, .int a0_6, .int a0_7, .int a0_8, .int a0_9, .int a0_10, .int a0_11], .slice a1_1]).bind fun r2 =>
    bif r2.fresh then
    nilV r2.outs (consV r2.vals fun v2 vs2 =>
    nilV vs2 (f32_l0 run n n a1_1 a0_1 a0_2 a0_3 a0_4 a0_5 a0_6 a0_7 a0_8 a0_9 a0_10 a0_11 v2.toSlice (a1_1.length : Int) 0 0 0))
  else none)) := by kernel_rfl
theorem f32_run (ext : Run) (n : Nat) (a0_1 : Int) (a0_2 : List UInt8) (a0_3 : List UInt8) (a0_4 : Int) (a0_5 : List UInt8) (a0_6 : Int) (a0_7 : Int) (a0_8 : Int) (a0_9 : Int) (a0_10 : Int) (a0_11 : Int) (a1_1 : List AV) : runE G ext (n + 1) 32 [.agg [.agg [.int a0_1, .blob a0_2, .blob a0_3, .int a0_4], .blob a0_5, .int a0_6, .int a0_7, .int a0_8, .int a0_9, .int a0_10, .int a0_11], .slice a1_1] = f32 (runE G ext n) n a0_1 a0_2 a0_3 a0_4 a0_5 a0_6 a0_7 a0_8 a0_9 a0_10 a0_11 a1_1 := runE_succ f32_at f32_in

noncomputable def f7_l0 (run : Run) (n : Nat) (k0 : Nat) (x1_1 : List AV) (x2_1 : Int) (x2_2 : List UInt8) (x2_3 : List UInt8) (x2_4 : Int) (x2_5 : List UInt8) (x2_6 : Int) (x2_7 : Int) (x2_8 : Int) (x2_9 : Int) (x2_10 : Int) (x2_11 : Int) (x5_1 : List AV) (x7_1 : Int) : Option Res :=
  iterK (evalK G run n f7_keep 0 (sub [1, 1, 1, 1, 0, 1, 0, 0] f7_body)) f7_t0 f7_o0 (blockK 0 (seqK (evalK G run n f7_keep 0 (sub [1, 1, 1, 1, 1] f7_body) (retE G f7_info)) (retE G f7_info))) k0
    ⟨[.any, .val (.slice (.struct [(.struct [(.int .u32), (.blob 32), (.blob 32), (.int .u64)]), (.slice .str)])) none (.slice x1_1), .val (.pat (.struct [(.struct [(.int .u32), (.blob 32), (.blob 32), (.int .u64)]), (.blob 32), (.int .i64), (.int .i64), (.int .i64), (.int .i64), (.int .i64), (.int .i64)])) none (.agg [.agg [.int x2_1, .blob x2_2, .blob x2_3, .int x2_4], .blob x2_5, .int x2_6, .int x2_7, .int x2_8, .int x2_9, .int x2_10, .int x2_11]), .any, .any, .val (.slice (.struct [(.struct [(.int .u32), (.blob 32), (.blob 32), (.int .u64)]), (.struct [(.int .i64), (.int .i64), (.slice (.blob 32))])])) none (.slice x5_1), .any, .val (.int .i64) none (.int x7_1), .any, .any, .any, .any, .any, .any, .any, .any, .any, .any, .any, .any, .any, .any, .any, .any, .any, .any, .any, .any, .any, .any, .any, .any, .any, .any, .any, .any, .any, .any, .any, .any, .any, .any, .any, .any, .any, .any, .any, .any, .any, .any, .any, .any, .any, .any, .any, .any, .any, .any, .any, .any, .any, .any, .any, .any, .any, .any, .any, .any, .any, .any, .any, .any, .any, .any, .any, .any, .any, .any, .any, .any, .any, .any, .any, .any, .any, .any, .any, .any, .any, .any, .any, .any, .any, .any, .any, .any, .any, .any, .any, .any, .any, .any, .any, .any, .any, .any, .any, .any, .any, .any, .any, .any, .any, .any, .any, .any, .any, .any, .any, .any, .any, .any, .any, .any, .any, .any, .any, .any, .any, .any, .any, .any], [⟨0, none⟩, ⟨0, none⟩, ⟨0, none⟩, ⟨0, none⟩, ⟨0, none⟩, ⟨0, none⟩, ⟨0, none⟩, ⟨0, none⟩, ⟨0, none⟩, ⟨0, none⟩, ⟨0, none⟩, ⟨0, none⟩, ⟨0, none⟩, ⟨0, none⟩, ⟨0, none⟩, ⟨0, none⟩, ⟨0, none⟩, ⟨0, none⟩, ⟨0, none⟩, ⟨0, none⟩, ⟨0, none⟩, ⟨0, none⟩, ⟨0, none⟩, ⟨0, none⟩, ⟨0, none⟩, ⟨0, none⟩, ⟨0, none⟩, ⟨0, none⟩, ⟨0, none⟩, ⟨0, none⟩, ⟨0, none⟩, ⟨0, none⟩, ⟨0, none⟩, ⟨0, none⟩, ⟨0, none⟩, ⟨0, none⟩, ⟨0, none⟩, ⟨0, none⟩, ⟨0, none⟩, ⟨0, none⟩, ⟨0, none⟩, ⟨0, none⟩, ⟨0, none⟩, ⟨0, none⟩, ⟨0, none⟩, ⟨0, none⟩, ⟨0, none⟩, ⟨0, none⟩, ⟨0, none⟩, ⟨0, none⟩, ⟨0, none⟩, ⟨0, none⟩, ⟨0, none⟩, ⟨0, none⟩, ⟨0, none⟩, ⟨0, none⟩, ⟨0, none⟩, ⟨0, none⟩, ⟨0, none⟩, ⟨0, none⟩, ⟨0, none⟩, ⟨0, none⟩, ⟨0, none⟩, ⟨0, none⟩, ⟨0, none⟩, ⟨0, none⟩, ⟨0, none⟩, ⟨0, none⟩, ⟨0, none⟩, ⟨0, none⟩, ⟨0, none⟩, ⟨0, none⟩, ⟨0, none⟩, ⟨0, none⟩, ⟨0, none⟩, ⟨0, none⟩, ⟨0, none⟩, ⟨0, none⟩, ⟨0, none⟩, ⟨0, none⟩, ⟨0, none⟩, ⟨0, none⟩, ⟨0, none⟩, ⟨0, none⟩, ⟨0, none⟩, ⟨0, none⟩, ⟨0, none⟩, ⟨0, none⟩, ⟨0, none⟩, ⟨0, none⟩, ⟨0, none⟩, ⟨0, none⟩, ⟨0, none⟩, ⟨0, none⟩, ⟨0, none⟩, ⟨0, none⟩, ⟨0, none⟩, ⟨0, none⟩, ⟨0, none⟩, ⟨0, none⟩, ⟨0, none⟩, ⟨0, none⟩, ⟨0, none⟩, ⟨0, none⟩, ⟨0, none⟩, ⟨0, none⟩, ⟨0, none⟩, ⟨0, none⟩, ⟨0, none⟩, ⟨0, none⟩, ⟨0, none⟩, ⟨0, none⟩, ⟨0, none⟩, ⟨0, none⟩, ⟨0, none⟩, ⟨0, none⟩, ⟨0, none⟩, ⟨0, none⟩, ⟨0, none⟩, ⟨0, none⟩, ⟨0, none⟩, ⟨0, none⟩, ⟨0, none⟩, ⟨0, none⟩, ⟨0, none⟩, ⟨0, none⟩, ⟨0, none⟩, ⟨0, none⟩, ⟨0, none⟩, ⟨0, none⟩, ⟨0, none⟩, ⟨0, none⟩], List.replicate 132 0⟩
theorem f7_l0_eq (run : Run) (n : Nat) (k0 : Nat) (x1_1 : List AV) (x2_1 : Int) (x2_2 : List UInt8) (x2_3 : List UInt8) (x2_4 : Int) (x2_5 : List UInt8) (x2_6 : Int) (x2_7 : Int) (x2_8 : Int) (x2_9 : Int) (x2_10 : Int) (x2_11 : Int) (x5_1 : List AV) (x7_1 : Int) : f7_l0 run n (k0 + 1) x1_1 x2_1 x2_2 x2_3 x2_4 x2_5 x2_6 x2_7 x2_8 x2_9 x2_10 x2_11 x5_1 x7_1 =
  bif ltI x7_1 (x5_1.length : Int) then
    bif inR x7_1 x5_1.length then
    bif leI (x1_1.length : Int) (IntKind.wrap .i64 ((((nth x5_1 (Int.toNat x7_1)).fld 0).fld 0).toInt)) then
    some ⟨[.bool false], [], f7_fresh⟩
  else
    bif inR ((((nth x5_1 (Int.toNat x7_1)).fld 0).fld 0).toInt) x1_1.length then
    bif !(eqI ((((nth x1_1 (Int.toNat ((((nth x5_1 (Int.toNat x7_1)).fld 0).fld 0).toInt))).fld 0).fld 0).toInt) ((((nth x5_1 (Int.toNat x7_1)).fld 0).fld 0).toInt) && (eqS ((((nth x1_1 (Int.toNat ((((nth x5_1 (Int.toNat x7_1)).fld 0).fld 0).toInt))).fld 0).fld 1).toBlob) ((((nth x5_1 (Int.toNat x7_1)).fld 0).fld 1).toBlob) && (eqS ((((nth x1_1 (Int.toNat ((((nth x5_1 (Int.toNat x7_1)).fld 0).fld 0).toInt))).fld 0).fld 2).toBlob) ((((nth x5_1 (Int.toNat x7_1)).fld 0).fld 2).toBlob) && (eqI ((((nth x1_1 (Int.toNat ((((nth x5_1 (Int.toNat x7_1)).fld 0).fld 0).toInt))).fld 0).fld 3).toInt) ((((nth x5_1 (Int.toNat x7_1)).fld 0).fld 3).toInt) && true)))) then
    some ⟨[.bool false], [], f7_fresh⟩
  else
    bif ltI 0 x7_1 then
    bif inR (IntKind.wrap .i64 (x7_1 - 1)) x5_1.length then
    (run 33 [.agg [.int ((((nth x5_1 (Int.toNat x7_1)).fld 0).fld 0).toInt), .blob ((((nth x5_1 (Int.toNat x7_1)).fld 0).fld 1).toBlob), .blob ((((nth x5_1 (Int.toNat x7_1)).fld 0).fld 2).toBlob), .int ((((nth x5_1 (Int.toNat x7_1)).fld 0).fld 3).toInt)], .agg [.int ((((nth x5_1 (Int.toNat (IntKind.wrap .i64 (x7_1 - 1)))).fld 0).fld 0).toInt), .blob ((((nth x5_1 (Int.toNat (IntKind.wrap .i64 (x7_1 - 1)))).fld 0).fld 1).toBlob), .blob ((((nth x5_1 (Int.toNat (IntKind.wrap .i64 (x7_1 - 1)))).fld 0).fld 2).toBlob), .int ((((nth x5_1 (Int.toNat (IntKind.wrap .i64 (x7_1 - 1)))).fld 0).fld 3).toInt)]]).bind fun r10 =>
    nilV r10.outs (consV r10.vals fun v11 vs11 =>
    nilV vs11 (bif !v11.toBool then
    some ⟨[.bool false], [], f7_fresh⟩
  else
    bif leI (IntKind.wrap .i64 ((x5_1.length : Int) - x2_7)) x7_1 then
    bif !(eqI (IntKind.wrap .i64 ((((nth x5_1 (Int.toNat x7_1)).fld 0).fld 0).toInt)) (IntKind.wrap .i64 (IntKind.wrap .i64 ((x1_1.length : Int) - (x5_1.length : Int)) + x7_1))) then
    some ⟨[.bool false], [], f7_fresh⟩
  else
    f7_l0 run n k0 x1_1 x2_1 x2_2 x2_3 x2_4 x2_5 x2_6 x2_7 x2_8 x2_9 x2_10 x2_11 x5_1 (IntKind.wrap .i64 (x7_1 + 1))
  else
    f7_l0 run n k0 x1_1 x2_1 x2_2 x2_3 x2_4 x2_5 x2_6 x2_7 x2_8 x2_9 x2_10 x2_11 x5_1 (IntKind.wrap .i64 (x7_1 + 1))))
  else none
  else
    bif leI (IntKind.wrap .i64 ((x5_1.length : Int) - x2_7)) x7_1 then
    bif !(eqI (IntKind.wrap .i64 ((((nth x5_1 (Int.toNat x7_1)).fld 0).fld 0).toInt)) (IntKind.wrap .i64 (IntKind.wrap .i64 ((x1_1.length : Int) - (x5_1.length : Int)) + x7_1))) then
    some ⟨[.bool false], [], f7_fresh⟩
  else
    f7_l0 run n k0 x1_1 x2_1 x2_2 x2_3 x2_4 x2_5 x2_6 x2_7 x2_8 x2_9 x2_10 x2_11 x5_1 (IntKind.wrap .i64 (x7_1 + 1))
  else
    f7_l0 run n k0 x1_1 x2_1 x2_2 x2_3 x2_4 x2_5 x2_6 x2_7 x2_8 x2_9 x2_10 x2_11 x5_1 (IntKind.wrap .i64 (x7_1 + 1))
  else none
  else none
  else
    (run 17 []).bind fun r11 =>
    nilV r11.outs (consV r11.vals fun v12 vs12 =>
    nilV vs12 (some ⟨[.bool v12.toBool], [], f7_fresh⟩)) := by kernel_rfl
noncomputable def f7 (run : Run) (n : Nat) (a0_1 : Int) (a0_2 : List UInt8) (a0_3 : List UInt8) (a0_4 : Int) (a0_5 : List UInt8) (a0_6 : Int) (a0_7 : Int) (a0_8 : Int) (a0_9 : Int) (a0_10 : Int) (a0_11 : Int) (a1_1 : List AV) : Option Res := evalK G run n f7_info.keep 0 f7_info.body (retE G f7_info) (f7_info.start [.agg [.agg [.int a0_1, .blob a0_2, .blob a0_3, .int a0_4], .blob a0_5, .int a0_6, .int a0_7, .int a0_8, .int a0_9, .int a0_10, .int a0_11], .slice a1_1])
theorem f7_eq (run : Run) (n : Nat) (a0_1 : Int) (a0_2 : List UInt8) (a0_3 : List UInt8) (a0_4 : Int) (a0_5 : List UInt8) (a0_6 : Int) (a0_7 : Int) (a0_8 : Int) (a0_9 : Int) (a0_10 : Int) (a0_11 : Int) (a1_1 : List AV) : f7 run n a0_1 a0_2 a0_3 a0_4 a0_5 a0_6 a0_7 a0_8 a0_9 a0_10 a0_11 a1_1 =
  (run 9 [.slice a1_1]).bind fun r1 =>
    nilV r1.outs (consV r1.vals fun v1 vs1 =>
    nilV vs1 (bif v1.toBool then
    (run 17 []).bind fun r2 =>
    nilV r2.outs (consV r2.vals fun v2 vs2 =>
    nilV vs2 (some ⟨[.bool v2.toBool], [], f7_fresh⟩))
  else
    bif leI (a1_1.length : Int) a0_7 then
    (run 17 []).bind fun r3 =>
    nilV r3.outs (consV r3.vals fun v3 vs3 =>
    nilV vs3 (some ⟨[.bool v3.toBool], [], f7_fresh⟩))
  else
    (run 10 [.int a0_6, .int a0_7, .int a0_8, .int a0_9]).bind fun r4 =>
    nilV r4.outs (consV r4.vals fun v4 vs4 =>
    nilV vs4 (bif !v4.toBool then
    (run 17 []).bind fun r5 =>
    nilV r5.outs (consV r5.vals fun v5 vs5 =>
    nilV vs5 (some ⟨[.bool v5.toBool], [], f7_fresh⟩))
  else
    (run 11 [.agg [.agg [.int a0_1, .blob a0_2, .blob a0_3, .int a0_4], .blob a0_5, .int a0_6, .int a0_7, .int a0_8, .int a0_9, .int a0_10, .int a0_11], .slice a1_1]).bind fun r6 =>
    nilV r6.outs (consV r6.vals fun v6 vs6 =>
    nilV vs6 (bif !(eqI ((v6.fld 0).toInt) 0) then
    (run 17 []).bind fun r7 =>
    nilV r7.outs (consV r7.vals fun v7 vs7 =>
    nilV vs7 (some ⟨[.bool v7.toBool], [], f7_fresh⟩))
  else
    (run 18 [.agg [.agg [.int a0_1, .blob a0_2, .blob a0_3, .int a0_4], .blob a0_5, .int a0_6, .int a0_7, .int a0_8, .int a0_9, .int a0_10, .int a0_11], .slice a1_1]).bind fun r8 =>
    nilV r8.outs (consV r8.vals fun v8 vs8 =>
    consV vs8 fun v9 vs9 =>
    nilV vs9 (bif !(eqI v9.toInt 0) then
    some ⟨[.bool false], [], f7_fresh⟩
  else
    (run 32 [.agg [.agg [.int a0_1, .blob a0_2, .blob a0_3, .int a0_4], .blob a0_5, .int a0_6, .int a0_7, .int a0_8, .int a0_9, .int a0_10, .int a0_11], .slice v8.toSlice]).bind fun r9 =>
    nilV r9.outs (consV r9.vals fun v10 vs10 =>
    nilV vs10 (bif !(eqI ((v10.fld 0).toInt) 0 && (eqI ((v10.fld 1).toInt) 0 && true)) then
    some ⟨[.bool false], [], f7_fresh⟩
  else
    bif leI (v8.toSlice.length : Int) a0_7 then
    some ⟨[.bool false], [], f7_fresh⟩
  else
    bif ltI (a1_1.length : Int) (v8.toSlice.length : Int) then
    some ⟨[.bool false], [], f7_fresh⟩
  else
    f7_l0 run n n a1_1 a0_1 a0_2 a0_3 a0_4 a0_5 a0_6 a0_7 a0_8 a0_9 a0_10 a0_11 v8.toSlice 0)))))))))) := by kernel_rfl
theorem f7_run (ext : Run) (n : Nat) (a0_1 : Int) (a0_2 : List UInt8) (a0_3 : List UInt8) (a0_4 : Int) (a0_5 : List UInt8) (a0_6 : Int) (a0_7 : Int) (a0_8 : Int) (a0_9 : Int) (a0_10 : Int) (a0_11 : Int) (a1_1 : List AV) : runE G ext (n + 1) 7 [.agg [.agg [.int a0_1, .blob a0_2, .blob a0_3, .int a0_4], .blob a0_5, .int a0_6, .int a0_7, .int a0_8, .int a0_9, .int a0_10, .int a0_11], .slice a1_1] = f7 (runE G ext n) n a0_1 a0_2 a0_3 a0_4 a0_5 a0_6 a0_7 a0_8 a0_9 a0_10 a0_11 a1_1 := runE_succ f7_at f7_in

noncomputable def f69 (run : Run) (n : Nat) (a0_1 : Int) (a1_1 : Int) (a1_2 : List AV) (a1_3 : Int) (a1_4 : Int) (a1_5 : List AV) (a1_6 : Int) (a1_7 : List UInt8) (a1_8 : Int) (a1_9 : Int) (a1_10 : List AV) : Option Res := evalK G run n f69_info.keep 0 f69_info.body (retE G f69_info) (f69_info.start [.int a0_1, .agg [.int a1_1, .slice a1_2, .agg [.int a1_3, .int a1_4, .slice a1_5], .int a1_6, .str a1_7, .agg [.int a1_8, .int a1_9, .slice a1_10]]])
theorem f69_eq (run : Run) (n : Nat) (a0_1 : Int) (a1_1 : Int) (a1_2 : List AV) (a1_3 : Int) (a1_4 : Int) (a1_5 : List AV) (a1_6 : Int) (a1_7 : List UInt8) (a1_8 : Int) (a1_9 : Int) (a1_10 : List AV) : f69 run n a0_1 a1_1 a1_2 a1_3 a1_4 a1_5 a1_6 a1_7 a1_8 a1_9 a1_10 =
  bif ltI a1_1 0 then
    some ⟨[.int 15], [], f69_fresh⟩
  else
    bif leI a0_1 a1_1 then
    some ⟨[.int 15], [], f69_fresh⟩
  else
    bif ltI a1_6 0 then
    some ⟨[.int 15], [], f69_fresh⟩
  else
    bif leI (mx2 (a1_2.length : Int) 1) a1_6 then
    some ⟨[.int 15], [], f69_fresh⟩
  else
    bif ltI 0 (a1_2.length : Int) then
    bif eqI a1_1 0 then
    some ⟨[.int 15], [], f69_fresh⟩
  else
    bif ltI 1024 (a1_2.length : Int) then
    some ⟨[.int 4], [], f69_fresh⟩
  else
    some ⟨[.int 0], [], f69_fresh⟩
  else
    bif ltI 1024 (a1_2.length : Int) then
    some ⟨[.int 4], [], f69_fresh⟩
  else
    some ⟨[.int 0], [], f69_fresh⟩ := by kernel_rfl
theorem f69_run (ext : Run) (n : Nat) (a0_1 : Int) (a1_1 : Int) (a1_2 : List AV) (a1_3 : Int) (a1_4 : Int) (a1_5 : List AV) (a1_6 : Int) (a1_7 : List UInt8) (a1_8 : Int) (a1_9 : Int) (a1_10 : List AV) : runE G ext (n + 1) 69 [.int a0_1, .agg [.int a1_1, .slice a1_2, .agg [.int a1_3, .int a1_4, .slice a1_5], .int a1_6, .str a1_7, .agg [.int a1_8, .int a1_9, .slice a1_10]]] = f69 (runE G ext n) n a0_1 a1_1 a1_2 a1_3 a1_4 a1_5 a1_6 a1_7 a1_8 a1_9 a1_10 := runE_succ f69_at f69_in

noncomputable def f35 (run : Run) (n : Nat) (a0_1 : List AV) (a1_1 : Int) (a1_2 : List AV) (a1_3 : Int) (a1_4 : Int) (a1_5 : List AV) (a1_6 : Int) (a1_7 : List UInt8) (a1_8 : Int) (a1_9 : Int) (a1_10 : List AV) : Option Res := evalK G run n f35_info.keep 0 f35_info.body (retE G f35_info) (f35_info.start [.slice a0_1, .agg [.int a1_1, .slice a1_2, .agg [.int a1_3, .int a1_4, .slice a1_5], .int a1_6, .str a1_7, .agg [.int a1_8, .int a1_9, .slice a1_10]]])
theorem f35_eq (run : Run) (n : Nat) (a0_1 : List AV) (a1_1 : Int) (a1_2 : List AV) (a1_3 : Int) (a1_4 : Int) (a1_5 : List AV) (a1_6 : Int) (a1_7 : List UInt8) (a1_8 : Int) (a1_9 : Int) (a1_10 : List AV) : f35 run n a0_1 a1_1 a1_2 a1_3 a1_4 a1_5 a1_6 a1_7 a1_8 a1_9 a1_10 =
  (run 69 [.int (a0_1.length : Int), .agg [.int a1_1, .slice a1_2, .agg [.int a1_3, .int a1_4, .slice a1_5], .int a1_6, .str a1_7, .agg [.int a1_8, .int a1_9, .slice a1_10]]]).bind fun r1 =>
    nilV r1.outs (consV r1.vals fun v1 vs1 =>
    nilV vs1 (bif !(eqI v1.toInt 0) then
    some ⟨[.agg [.int 0, .blob (List.replicate 32 0), .blob (List.replicate 32 0), .int 0], .bool false], [], f35_fresh⟩
  else
    bif ltI 0 (a1_2.length : Int) then
    bif inR a1_6 a1_2.length then
    some ⟨[.agg [.int ((((nth a1_2 (Int.toNat a1_6)).fld 0).fld 0).toInt), .blob ((((nth a1_2 (Int.toNat a1_6)).fld 0).fld 1).toBlob), .blob ((((nth a1_2 (Int.toNat a1_6)).fld 0).fld 2).toBlob), .int ((((nth a1_2 (Int.toNat a1_6)).fld 0).fld 3).toInt)], .bool true], [], f35_fresh⟩
  else none
  else
    bif inR a1_1 a0_1.length then
    some ⟨[.agg [.int ((((nth a0_1 (Int.toNat a1_1)).fld 0).fld 0).toInt), .blob ((((nth a0_1 (Int.toNat a1_1)).fld 0).fld 1).toBlob), .blob ((((nth a0_1 (Int.toNat a1_1)).fld 0).fld 2).toBlob), .int ((((nth a0_1 (Int.toNat a1_1)).fld 0).fld 3).toInt)], .bool true], [], f35_fresh⟩
  else none)) := by kernel_rfl
theorem f35_run (ext : Run) (n : Nat) (a0_1 : List AV) (a1_1 : Int) (a1_2 : List AV) (a1_3 : Int) (a1_4 : Int) (a1_5 : List AV) (a1_6 : Int) (a1_7 : List UInt8) (a1_8 : Int) (a1_9 : Int) (a1_10 : List AV) : runE G ext (n + 1) 35 [.slice a0_1, .agg [.int a1_1, .slice a1_2, .agg [.int a1_3, .int a1_4, .slice a1_5], .int a1_6, .str a1_7, .agg [.int a1_8, .int a1_9, .slice a1_10]]] = f35 (runE G ext n) n a0_1 a1_1 a1_2 a1_3 a1_4 a1_5 a1_6 a1_7 a1_8 a1_9 a1_10 := runE_succ f35_at f35_in

noncomputable def f109 (run : Run) (n : Nat) (a0_1 : List UInt8) (a1_1 : Int) (a1_2 : List UInt8) (a1_3 : List UInt8) (a1_4 : Int) (a1_5 : Int) (a1_6 : Int) (a1_7 : List AV) (a2_1 : Int) (a2_2 : List UInt8) (a2_3 : List UInt8) (a2_4 : Int) (a3_1 : Int) : Option Res := evalK G run n f109_info.keep 0 f109_info.body (retE G f109_info) (f109_info.start [.blob a0_1, .agg [.agg [.int a1_1, .blob a1_2, .blob a1_3, .int a1_4], .agg [.int a1_5, .int a1_6, .slice a1_7]], .agg [.int a2_1, .blob a2_2, .blob a2_3, .int a2_4], .int a3_1])
theorem f109_eq (run : Run) (n : Nat) (a0_1 : List UInt8) (a1_1 : Int) (a1_2 : List UInt8) (a1_3 : List UInt8) (a1_4 : Int) (a1_5 : Int) (a1_6 : Int) (a1_7 : List AV) (a2_1 : Int) (a2_2 : List UInt8) (a2_3 : List UInt8) (a2_4 : Int) (a3_1 : Int) : f109 run n a0_1 a1_1 a1_2 a1_3 a1_4 a1_5 a1_6 a1_7 a2_1 a2_2 a2_3 a2_4 a3_1 =
  (run 33 [.agg [.int a1_1, .blob a1_2, .blob a1_3, .int a1_4], .agg [.int a2_1, .blob a2_2, .blob a2_3, .int a2_4]]).bind fun r1 =>
    nilV r1.outs (consV r1.vals fun v1 vs1 =>
    nilV vs1 (bif !v1.toBool then
    some ⟨[.int 8], [], f109_fresh⟩
  else
    bif leI a3_1 a1_1 then
    some ⟨[.int 8], [], f109_fresh⟩
  else
    (run 79 [.agg [.int a1_1, .blob a1_2, .blob a1_3, .int a1_4]]).bind fun r2 =>
    nilV r2.outs (consV r2.vals fun v2 vs2 =>
    nilV vs2 ((run 73 [.blob v2.toBlob, .blob a0_1]).bind fun r3 =>
    nilV r3.outs (consV r3.vals fun v3 vs3 =>
    nilV vs3 (bif !v3.toBool then
    some ⟨[.int 9], [], f109_fresh⟩
  else
    (run 107 [.agg [.agg [.int a1_1, .blob a1_2, .blob a1_3, .int a1_4], .agg [.int a1_5, .int a1_6, .slice a1_7]], .agg [.int a2_1, .blob a2_2, .blob a2_3, .int a2_4]]).bind fun r4 =>
    nilV r4.outs (consV r4.vals fun v4 vs4 =>
    nilV vs4 (bif !v4.toBool then
    some ⟨[.int 10], [], f109_fresh⟩
  else
    some ⟨[.int 0], [], f109_fresh⟩)))))))) := by kernel_rfl
theorem f109_run (ext : Run) (n : Nat) (a0_1 : List UInt8) (a1_1 : Int) (a1_2 : List UInt8) (a1_3 : List UInt8) (a1_4 : Int) (a1_5 : Int) (a1_6 : Int) (a1_7 : List AV) (a2_1 : Int) (a2_2 : List UInt8) (a2_3 : List UInt8) (a2_4 : Int) (a3_1 : Int) : runE G ext (n + 1) 109 [.blob a0_1, .agg [.agg [.int a1_1, .blob a1_2, .blob a1_3, .int a1_4], .agg [.int a1_5, .int a1_6, .slice a1_7]], .agg [.int a2_1, .blob a2_2, .blob a2_3, .int a2_4], .int a3_1] = f109 (runE G ext n) n a0_1 a1_1 a1_2 a1_3 a1_4 a1_5 a1_6 a1_7 a2_1 a2_2 a2_3 a2_4 a3_1 := runE_succ f109_at f109_in

noncomputable def f70_l0 (run : Run) (n : Nat) (k0 : Nat) (x34_1 : List AV) (x35_1 : Int) (x36_1 : Int) (o3_1 : List UInt8) (o5_1 : Int) (o5_2 : List AV) (o5_3 : Int) (o5_4 : Int) (o5_5 : List AV) (o5_6 : Int) (o5_7 : List UInt8) (o5_8 : Int) (o5_9 : Int) (o5_10 : List AV) (o7_1 : Int) (o7_2 : List UInt8) (o7_3 : List UInt8) (o7_4 : Int) (o8_1 : Int) (o8_2 : List UInt8) (o8_3 : List UInt8) (o8_4 : Int) : Option Res :=
  iterK (evalK G run n f70_keep 0 (sub [1, 1, 1, 0, 1, 0, 0] f70_body)) f70_t0 f70_o0 (blockK 0 (seqK (evalK G run n f70_keep 0 (sub [1, 1, 1, 1] f70_body) (retE G f70_info)) (retE G f70_info))) k0
    ⟨[.any, .any, .any, .ptr ⟨(.blob 32), 3, 1, []⟩, .any, .ptr ⟨(.struct [(.int .i64), (.slice (.struct [(.struct [(.int .u32), (.blob 32), (.blob 32), (.int .u64)]), (.struct [(.int .i64), (.int .i64), (.slice (.blob 32))])])), (.struct [(.int .i64), (.int .i64), (.slice (.blob 32))]), (.int .i64), .str, (.struct [(.int .i64), (.int .i64), (.slice (.blob 32))])]), 5, 1, []⟩, .any, .ptr ⟨(.struct [(.int .u32), (.blob 32), (.blob 32), (.int .u64)]), 7, 1, []⟩, .ptr ⟨(.struct [(.int .u32), (.blob 32), (.blob 32), (.int .u64)]), 8, 1, []⟩, .any, .any, .any, .any, .any, .any, .any, .any, .any, .any, .any, .any, .any, .any, .any, .any, .any, .any, .any, .any, .any, .any, .any, .any, .any, .val (.slice (.struct [(.struct [(.int .u32), (.blob 32), (.blob 32), (.int .u64)]), (.struct [(.int .i64), (.int .i64), (.slice (.blob 32))])])) none (.slice x34_1), .val (.int .i64) none (.int x35_1), .val (.int .i64) none (.int x36_1), .any, .any, .any, .any, .any, .any, .any, .any, .any, .any, .any, .any, .any, .any, .any, .any, .any, .any, .any, .any, .any, .any], [⟨0, none⟩, ⟨0, none⟩, ⟨0, none⟩, ⟨1, some ⟨(.blob 32), .blob o3_1⟩⟩, ⟨0, none⟩, ⟨1, some ⟨(.struct [(.int .i64), (.slice (.struct [(.struct [(.int .u32), (.blob 32), (.blob 32), (.int .u64)]), (.struct [(.int .i64), (.int .i64), (.slice (.blob 32))])])), (.struct [(.int .i64), (.int .i64), (.slice (.blob 32))]), (.int .i64), .str, (.struct [(.int .i64), (.int .i64), (.slice (.blob 32))])]), .agg [.int o5_1, .slice o5_2, .agg [.int o5_3, .int o5_4, .slice o5_5], .int o5_6, .str o5_7, .agg [.int o5_8, .int o5_9, .slice o5_10]]⟩⟩, ⟨0, none⟩, ⟨1, some ⟨(.struct [(.int .u32), (.blob 32), (.blob 32), (.int .u64)]), .agg [.int o7_1, .blob o7_2, .blob o7_3, .int o7_4]⟩⟩, ⟨1, some ⟨(.struct [(.int .u32), (.blob 32), (.blob 32), (.int .u64)]), .agg [.int o8_1, .blob o8_2, .blob o8_3, .int o8_4]⟩⟩, ⟨0, none⟩, ⟨0, none⟩, ⟨0, none⟩, ⟨0, none⟩, ⟨0, none⟩, ⟨0, none⟩, ⟨0, none⟩, ⟨0, none⟩, ⟨0, none⟩, ⟨0, none⟩, ⟨0, none⟩, ⟨0, none⟩, ⟨0, none⟩, ⟨0, none⟩, ⟨0, none⟩, ⟨0, none⟩, ⟨0, none⟩, ⟨0, none⟩, ⟨0, none⟩, ⟨0, none⟩, ⟨0, none⟩, ⟨0, none⟩, ⟨0, none⟩, ⟨0, none⟩, ⟨0, none⟩, ⟨0, none⟩, ⟨0, none⟩, ⟨0, none⟩, ⟨0, none⟩, ⟨0, none⟩, ⟨0, none⟩, ⟨0, none⟩, ⟨0, none⟩, ⟨0, none⟩, ⟨0, none⟩, ⟨0, none⟩, ⟨0, none⟩, ⟨0, none⟩, ⟨0, none⟩, ⟨0, none⟩, ⟨0, none⟩, ⟨0, none⟩, ⟨0, none⟩, ⟨0, none⟩, ⟨0, none⟩, ⟨0, none⟩, ⟨0, none⟩, ⟨0, none⟩, ⟨0, none⟩, ⟨0, none⟩], List.replicate 59 0⟩
theorem f70_l0_eq (run : Run) (n : Nat) (k0 : Nat) (x34_1 : List AV) (x35_1 : Int) (x36_1 : Int) (o3_1 : List UInt8) (o5_1 : Int) (o5_2 : List AV) (o5_3 : Int) (o5_4 : Int) (o5_5 : List AV) (o5_6 : Int) (o5_7 : List UInt8) (o5_8 : Int) (o5_9 : Int) (o5_10 : List AV) (o7_1 : Int) (o7_2 : List UInt8) (o7_3 : List UInt8) (o7_4 : Int) (o8_1 : Int) (o8_2 : List UInt8) (o8_3 : List UInt8) (o8_4 : Int) : f70_l0 run n (k0 + 1) x34_1 x35_1 x36_1 o3_1 o5_1 o5_2 o5_3 o5_4 o5_5 o5_6 o5_7 o5_8 o5_9 o5_10 o7_1 o7_2 o7_3 o7_4 o8_1 o8_2 o8_3 o8_4 =
  bif ltI x36_1 x35_1 then
    bif inR x36_1 x34_1.length then
    (run 109 [.blob o3_1, .agg [.agg [.int ((((nth x34_1 (Int.toNat x36_1)).fld 0).fld 0).toInt), .blob ((((nth x34_1 (Int.toNat x36_1)).fld 0).fld 1).toBlob), .blob ((((nth x34_1 (Int.toNat x36_1)).fld 0).fld 2).toBlob), .int ((((nth x34_1 (Int.toNat x36_1)).fld 0).fld 3).toInt)], .agg [.int ((((nth x34_1 (Int.toNat x36_1)).fld 1).fld 0).toInt), .int ((((nth x34_1 (Int.toNat x36_1)).fld 1).fld 1).toInt), .slice ((((nth x34_1 (Int.toNat x36_1)).fld 1).fld 2).toSlice)]], .agg [.int o7_1, .blob o7_2, .blob o7_3, .int o7_4], .int o8_1]).bind fun r2 =>
    nilV r2.outs (consV r2.vals fun v2 vs2 =>
    nilV vs2 (bif !(eqI v2.toInt 0) then
    some ⟨[.int v2.toInt], [], f70_fresh⟩
  else
    f70_l0 run n k0 x34_1 x35_1 (IntKind.wrap .i64 (x36_1 + 1)) o3_1 o5_1 o5_2 o5_3 o5_4 o5_5 o5_6 o5_7 o5_8 o5_9 o5_10 ((((nth x34_1 (Int.toNat x36_1)).fld 0).fld 0).toInt) ((((nth x34_1 (Int.toNat x36_1)).fld 0).fld 1).toBlob) ((((nth x34_1 (Int.toNat x36_1)).fld 0).fld 2).toBlob) ((((nth x34_1 (Int.toNat x36_1)).fld 0).fld 3).toInt) o8_1 o8_2 o8_3 o8_4))
  else none
  else
    (run 107 [.agg [.agg [.int o8_1, .blob o8_2, .blob o8_3, .int o8_4], .agg [.int o5_3, .int o5_4, .slice o5_5]], .agg [.int o7_1, .blob o7_2, .blob o7_3, .int o7_4]]).bind fun r3 =>
    nilV r3.outs (consV r3.vals fun v3 vs3 =>
    nilV vs3 (bif !v3.toBool then
    some ⟨[.int 10], [], f70_fresh⟩
  else
    some ⟨[.int 0], [], f70_fresh⟩)) := by kernel_rfl
noncomputable def f70 (run : Run) (n : Nat) (a0_1 : List UInt8) (a1_1 : List AV) (a2_1 : Int) (a2_2 : List AV) (a2_3 : Int) (a2_4 : Int) (a2_5 : List AV) (a2_6 : Int) (a2_7 : List UInt8) (a2_8 : Int) (a2_9 : Int) (a2_10 : List AV) : Option Res := evalK G run n f70_info.keep 0 f70_info.body (retE G f70_info) (f70_info.start [.blob a0_1, .slice a1_1, .agg [.int a2_1, .slice a2_2, .agg [.int a2_3, .int a2_4, .slice a2_5], .int a2_6, .str a2_7, .agg [.int a2_8, .int a2_9, .slice a2_10]]])
theorem f70_eq (run : Run) (n : Nat) (a0_1 : List UInt8) (a1_1 : List AV) (a2_1 : Int) (a2_2 : List AV) (a2_3 : Int) (a2_4 : Int) (a2_5 : List AV) (a2_6 : Int) (a2_7 : List UInt8) (a2_8 : Int) (a2_9 : Int) (a2_10 : List AV) : f70 run n a0_1 a1_1 a2_1 a2_2 a2_3 a2_4 a2_5 a2_6 a2_7 a2_8 a2_9 a2_10 =
  bif eqI (a2_2.length : Int) 0 then
    (run 103 [.agg [.int a2_3, .int a2_4, .slice a2_5]]).bind fun r1 =>
    nilV r1.outs (consV r1.vals fun v1 vs1 =>
    nilV vs1 (bif !v1.toBool then
    some ⟨[.int 2], [], f70_fresh⟩
  else
    some ⟨[.int 0], [], f70_fresh⟩))
  else
    bif inR (IntKind.wrap .i64 (a2_1 - 1)) a1_1.length then
    bif inR a2_1 a1_1.length then
    f70_l0 run n n a2_2 (a2_2.length : Int) 0 a0_1 a2_1 a2_2 a2_3 a2_4 a2_5 a2_6 a2_7 a2_8 a2_9 a2_10 ((((nth a1_1 (Int.toNat (IntKind.wrap .i64 (a2_1 - 1)))).fld 0).fld 0).toInt) ((((nth a1_1 (Int.toNat (IntKind.wrap .i64 (a2_1 - 1)))).fld 0).fld 1).toBlob) ((((nth a1_1 (Int.toNat (IntKind.wrap .i64 (a2_1 - 1)))).fld 0).fld 2).toBlob) ((((nth a1_1 (Int.toNat (IntKind.wrap .i64 (a2_1 - 1)))).fld 0).fld 3).toInt) ((((nth a1_1 (Int.toNat a2_1)).fld 0).fld 0).toInt) ((((nth a1_1 (Int.toNat a2_1)).fld 0).fld 1).toBlob) ((((nth a1_1 (Int.toNat a2_1)).fld 0).fld 2).toBlob) ((((nth a1_1 (Int.toNat a2_1)).fld 0).fld 3).toInt)
  else none
  else none := by kernel_rfl
theorem f70_run (ext : Run) (n : Nat) (a0_1 : List UInt8) (a1_1 : List AV) (a2_1 : Int) (a2_2 : List AV) (a2_3 : Int) (a2_4 : Int) (a2_5 : List AV) (a2_6 : Int) (a2_7 : List UInt8) (a2_8 : Int) (a2_9 : Int) (a2_10 : List AV) : runE G ext (n + 1) 70 [.blob a0_1, .slice a1_1, .agg [.int a2_1, .slice a2_2, .agg [.int a2_3, .int a2_4, .slice a2_5], .int a2_6, .str a2_7, .agg [.int a2_8, .int a2_9, .slice a2_10]]] = f70 (runE G ext n) n a0_1 a1_1 a2_1 a2_2 a2_3 a2_4 a2_5 a2_6 a2_7 a2_8 a2_9 a2_10 := runE_succ f70_at f70_in

noncomputable def f71 (run : Run) (n : Nat) (a0_1 : List UInt8) (a1_1 : List UInt8) (a2_1 : Int) (a2_2 : Int) (a2_3 : List AV) : Option Res := evalK G run n f71_info.keep 0 f71_info.body (retE G f71_info) (f71_info.start [.blob a0_1, .str a1_1, .agg [.int a2_1, .int a2_2, .slice a2_3]])
theorem f71_eq (run : Run) (n : Nat) (a0_1 : List UInt8) (a1_1 : List UInt8) (a2_1 : Int) (a2_2 : Int) (a2_3 : List AV) : f71 run n a0_1 a1_1 a2_1 a2_2 a2_3 =
  bif leI a2_2 1024 then
    bif leI (a1_1.length : Int) 4096 then
    (run 111 [.str a1_1]).bind fun r1 =>
    nilV r1.outs (consV r1.vals fun v1 vs1 =>
    nilV vs1 ((run 110 [.blob a0_1, .str v1.toStr, .agg [.int a2_1, .int a2_2, .slice a2_3]]).bind fun r2 =>
    nilV r2.outs (consV r2.vals fun v2 vs2 =>
    nilV vs2 (some ⟨[.bool v2.toBool], [], f71_fresh⟩))))
  else
    some ⟨[.bool false], [], f71_fresh⟩
  else
    some ⟨[.bool false], [], f71_fresh⟩ := by kernel_rfl
theorem f71_run (ext : Run) (n : Nat) (a0_1 : List UInt8) (a1_1 : List UInt8) (a2_1 : Int) (a2_2 : Int) (a2_3 : List AV) : runE G ext (n + 1) 71 [.blob a0_1, .str a1_1, .agg [.int a2_1, .int a2_2, .slice a2_3]] = f71 (runE G ext n) n a0_1 a1_1 a2_1 a2_2 a2_3 := runE_succ f71_at f71_in

noncomputable def f36 (run : Run) (n : Nat) (a0_1 : List UInt8) (a1_1 : List AV) (a2_1 : Int) (a2_2 : List AV) (a2_3 : Int) (a2_4 : Int) (a2_5 : List AV) (a2_6 : Int) (a2_7 : List UInt8) (a2_8 : Int) (a2_9 : Int) (a2_10 : List AV) : Option Res := evalK G run n f36_info.keep 0 f36_info.body (retE G f36_info) (f36_info.start [.blob a0_1, .slice a1_1, .agg [.int a2_1, .slice a2_2, .agg [.int a2_3, .int a2_4, .slice a2_5], .int a2_6, .str a2_7, .agg [.int a2_8, .int a2_9, .slice a2_10]]])
theorem f36_eq (run : Run) (n : Nat) (a0_1 : List UInt8) (a1_1 : List AV) (a2_1 : Int) (a2_2 : List AV) (a2_3 : Int) (a2_4 : Int) (a2_5 : List AV) (a2_6 : Int) (a2_7 : List UInt8) (a2_8 : Int) (a2_9 : Int) (a2_10 : List AV) : f36 run n a0_1 a1_1 a2_1 a2_2 a2_3 a2_4 a2_5 a2_6 a2_7 a2_8 a2_9 a2_10 =
  (run 69 [.int (a1_1.length : Int), .agg [.int a2_1, .slice a2_2, .agg [.int a2_3, .int a2_4, .slice a2_5], .int a2_6, .str a2_7, .agg [.int a2_8, .int a2_9, .slice a2_10]]]).bind fun r1 =>
    nilV r1.outs (consV r1.vals fun v1 vs1 =>
    nilV vs1 (bif !(eqI v1.toInt 0) then
    some ⟨[.int v1.toInt], [], f36_fresh⟩
  else
    (run 70 [.blob a0_1, .slice a1_1, .agg [.int a2_1, .slice a2_2, .agg [.int a2_3, .int a2_4, .slice a2_5], .int a2_6, .str a2_7, .agg [.int a2_8, .int a2_9, .slice a2_10]]]).bind fun r2 =>
    nilV r2.outs (consV r2.vals fun v2 vs2 =>
    nilV vs2 (bif !(eqI v2.toInt 0) then
    some ⟨[.int v2.toInt], [], f36_fresh⟩
  else
    (run 35 [.slice a1_1, .agg [.int a2_1, .slice a2_2, .agg [.int a2_3, .int a2_4, .slice a2_5], .int a2_6, .str a2_7, .agg [.int a2_8, .int a2_9, .slice a2_10]]]).bind fun r3 =>
    nilV r3.outs (consV r3.vals fun v3 vs3 =>
    consV vs3 fun _v4 vs4 =>
    nilV vs4 ((run 71 [.blob ((v3.fld 2).toBlob), .str a2_7, .agg [.int a2_8, .int a2_9, .slice a2_10]]).bind fun r4 =>
    nilV r4.outs (consV r4.vals fun v5 vs5 =>
    nilV vs5 (bif !v5.toBool then
    some ⟨[.int 14], [], f36_fresh⟩
  else
    some ⟨[.int 0], [], f36_fresh⟩)))))))) := by kernel_rfl
theorem f36_run (ext : Run) (n : Nat) (a0_1 : List UInt8) (a1_1 : List AV) (a2_1 : Int) (a2_2 : List AV) (a2_3 : Int) (a2_4 : Int) (a2_5 : List AV) (a2_6 : Int) (a2_7 : List UInt8) (a2_8 : Int) (a2_9 : Int) (a2_10 : List AV) : runE G ext (n + 1) 36 [.blob a0_1, .slice a1_1, .agg [.int a2_1, .slice a2_2, .agg [.int a2_3, .int a2_4, .slice a2_5], .int a2_6, .str a2_7, .agg [.int a2_8, .int a2_9, .slice a2_10]]] = f36 (runE G ext n) n a0_1 a1_1 a2_1 a2_2 a2_3 a2_4 a2_5 a2_6 a2_7 a2_8 a2_9 a2_10 := runE_succ f36_at f36_in

noncomputable def f34 (run : Run) (n : Nat) : Option Res := evalK G run n f34_info.keep 0 f34_info.body (retE G f34_info) (f34_info.start [])
theorem f34_eq (run : Run) (n : Nat) : f34 run n  =
  (run 35 [.slice [.agg [.agg [.int 0, .blob (List.replicate 32 0), .blob (List.replicate 32 0), .int 7], .agg [.int 0, .int 0, .slice []]]], .agg [.int 0, .slice [], .agg [.int 0, .int 0, .slice []], .int 0, .str [], .agg [.int 0, .int 0, .slice []]]]).bind fun r1 =>
    nilV r1.outs (consV r1.vals fun v1 vs1 =>
    consV vs1 fun v2 vs2 =>
    nilV vs2 ((run 36 [.blob [0, 0, 0, 0, 0, 0, 0, 0, 0, 0, 0, 0, 0, 0, 0, 0, 0, 0, 0, 0, 0, 0, 0, 0, 0, 0, 0, 0, 0, 0, 0, 0], .slice [], .agg [.int 0, .slice [], .agg [.int 0, .int 0, .slice []], .int 0, .str [], .agg [.int 0, .int 0, .slice []]]]).bind fun r2 =>
    nilV r2.outs (consV r2.vals fun v3 vs3 =>
    nilV vs3 (bif eqI v3.toInt 15 then
    bif v2.toBool then
    some ⟨[.bool (eqI ((v1.fld 3).toInt) 7)], [], f34_fresh⟩
  else
    some ⟨[.bool false], [], f34_fresh⟩
  else
    some ⟨[.bool false], [], f34_fresh⟩)))) := by kernel_rfl
theorem f34_run (ext : Run) (n : Nat) : runE G ext (n + 1) 34 [] = f34 (runE G ext n) n  := runE_succ f34_at f34_in

noncomputable def f61 (run : Run) (n : Nat) (a0_1 : List AV) (a1_1 : Int) : Option Res := evalK G run n f61_info.keep 0 f61_info.body (retE G f61_info) (f61_info.start [.slice a0_1, .int a1_1])
theorem f61_eq (run : Run) (n : Nat) (a0_1 : List AV) (a1_1 : Int) : f61 run n a0_1 a1_1 =
  (run 97 [.slice a0_1]).bind fun r1 =>
    nilV r1.outs (consV r1.vals fun v1 vs1 =>
    nilV vs1 (bif !(eqI v1.toInt 0) then
    some ⟨[.agg [.int 0, .int 0, .slice []], .int v1.toInt], [], f61_fresh⟩
  else
    (run 99 [.slice a0_1]).bind fun r2 =>
    bif r2.fresh then
    nilV r2.outs (consV r2.vals fun v2 vs2 =>
    nilV vs2 ((run 98 [.slice v2.toSlice, .int a1_1]).bind fun r3 =>
    nilV r3.outs (consV r3.vals fun v3 vs3 =>
    consV vs3 fun v4 vs4 =>
    nilV vs4 (some ⟨[.agg [.int ((v3.fld 0).toInt), .int ((v3.fld 1).toInt), .slice ((v3.fld 2).toSlice)], .int v4.toInt], [], f61_fresh⟩))))
  else none)) := by kernel_rfl
theorem f61_run (ext : Run) (n : Nat) (a0_1 : List AV) (a1_1 : Int) : runE G ext (n + 1) 61 [.slice a0_1, .int a1_1] = f61 (runE G ext n) n a0_1 a1_1 := runE_succ f61_at f61_in

noncomputable def f62_l0 (run : Run) (n : Nat) (k0 : Nat) (x0_1 : List AV) (x1_1 : Int) (x7_1 : List AV) (x8_1 : Int) (x9_1 : Int) : Option Res :=
  iterK (evalK G run n f62_keep 0 (sub [1, 0, 1, 0, 0] f62_body)) f62_t0 f62_o0 (blockK 0 (seqK (evalK G run n f62_keep 0 (sub [1, 1] f62_body) (retE G f62_info)) (retE G f62_info))) k0
    ⟨[.val (.slice (.int .i64)) none (.slice x0_1), .val (.int .i64) none (.int x1_1), .any, .any, .any, .any, .any, .val (.slice (.int .i64)) none (.slice x7_1), .val (.int .i64) none (.int x8_1), .val (.int .i64) none (.int x9_1), .any, .any, .any, .any, .any, .any, .any, .any, .any, .any, .any], [⟨0, none⟩, ⟨0, none⟩, ⟨0, none⟩, ⟨0, none⟩, ⟨0, none⟩, ⟨0, none⟩, ⟨0, none⟩, ⟨0, none⟩, ⟨0, none⟩, ⟨0, none⟩, ⟨0, none⟩, ⟨0, none⟩, ⟨0, none⟩, ⟨0, none⟩, ⟨0, none⟩, ⟨0, none⟩, ⟨0, none⟩, ⟨0, none⟩, ⟨0, none⟩, ⟨0, none⟩, ⟨0, none⟩], List.replicate 21 0⟩
theorem f62_l0_eq (run : Run) (n : Nat) (k0 : Nat) (x0_1 : List AV) (x1_1 : Int) (x7_1 : List AV) (x8_1 : Int) (x9_1 : Int) : f62_l0 run n (k0 + 1) x0_1 x1_1 x7_1 x8_1 x9_1 =
  bif ltI x9_1 x8_1 then
    bif inR x9_1 x7_1.length then
    bif leI x1_1 ((nth x7_1 (Int.toNat x9_1)).toInt) then
    some ⟨[.int x9_1], [], f62_fresh⟩
  else
    f62_l0 run n k0 x0_1 x1_1 x7_1 x8_1 (IntKind.wrap .i64 (x9_1 + 1))
  else none
  else
    some ⟨[.int (x0_1.length : Int)], [], f62_fresh⟩ := by kernel_rfl
noncomputable def f62 (run : Run) (n : Nat) (a0_1 : List AV) (a1_1 : Int) : Option Res := evalK G run n f62_info.keep 0 f62_info.body (retE G f62_info) (f62_info.start [.slice a0_1, .int a1_1])
theorem f62_eq (run : Run) (n : Nat) (a0_1 : List AV) (a1_1 : Int) : f62 run n a0_1 a1_1 =
  f62_l0 run n n a0_1 a1_1 a0_1 (a0_1.length : Int) 0 := by kernel_rfl
theorem f62_run (ext : Run) (n : Nat) (a0_1 : List AV) (a1_1 : Int) : runE G ext (n + 1) 62 [.slice a0_1, .int a1_1] = f62 (runE G ext n) n a0_1 a1_1 := runE_succ f62_at f62_in

noncomputable def f63 (run : Run) (n : Nat) (a0_1 : List UInt8) (a1_1 : List AV) (a2_1 : List AV) (a3_1 : Int) (a4_1 : Int) (a4_2 : List AV) (a4_3 : Int) (a4_4 : Int) (a4_5 : List AV) (a4_6 : Int) (a4_7 : List UInt8) (a4_8 : Int) (a4_9 : Int) (a4_10 : List AV) : Option Res := evalK G run n f63_info.keep 0 f63_info.body (retE G f63_info) (f63_info.start [.blob a0_1, .slice a1_1, .slice a2_1, .int a3_1, .agg [.int a4_1, .slice a4_2, .agg [.int a4_3, .int a4_4, .slice a4_5], .int a4_6, .str a4_7, .agg [.int a4_8, .int a4_9, .slice a4_10]]])
theorem f63_eq (run : Run) (n : Nat) (a0_1 : List UInt8) (a1_1 : List AV) (a2_1 : List AV) (a3_1 : Int) (a4_1 : Int) (a4_2 : List AV) (a4_3 : Int) (a4_4 : Int) (a4_5 : List AV) (a4_6 : Int) (a4_7 : List UInt8) (a4_8 : Int) (a4_9 : Int) (a4_10 : List AV) : f63 run n a0_1 a1_1 a2_1 a3_1 a4_1 a4_2 a4_3 a4_4 a4_5 a4_6 a4_7 a4_8 a4_9 a4_10 =
  bif inR (IntKind.wrap .i64 (a4_1 - 1)) a2_1.length then
    bif inR a4_1 a2_1.length then
    (run 13 [.blob a0_1, .slice a1_1]).bind fun r1 =>
    bif r1.fresh then
    nilV r1.outs (consV r1.vals fun v1 vs1 =>
    nilV vs1 ((run 27 [.slice v1.toSlice, .int ((nth a2_1 (Int.toNat a4_1)).toInt), .int a3_1, .int ((nth a2_1 (Int.toNat (IntKind.wrap .i64 (a4_1 - 1)))).toInt)]).bind fun r2 =>
    nilV r2.outs (consV r2.vals fun v2 vs2 =>
    nilV vs2 (bif Nat.ble ((1 + v2.toSlice.length) * 8) 140737488355328 then
    bif Nat.ble ((([.int ((nth a2_1 (Int.toNat (IntKind.wrap .i64 (a4_1 - 1)))).toInt)] ++ v2.toSlice : List AV).length + 1) * 8) 140737488355328 then
    (run 50 [.blob a0_1, .slice a1_1, .slice (([.int ((nth a2_1 (Int.toNat (IntKind.wrap .i64 (a4_1 - 1)))).toInt)] ++ v2.toSlice) ++ [.int ((nth a2_1 (Int.toNat a4_1)).toInt)])]).bind fun r3 =>
    nilV r3.outs (consV r3.vals fun v3 vs3 =>
    consV vs3 fun v4 vs4 =>
    nilV vs4 (bif !(eqI v4.toInt 0) then
    some ⟨[.agg [.int 0, .slice [], .agg [.int 0, .int 0, .slice []], .int 0, .str [], .agg [.int 0, .int 0, .slice []]], .int v4.toInt], [], f63_fresh⟩
  else
    bif boundsOk 1 (IntKind.wrap .i64 ((v3.toSlice.length : Int) - 1)) (v3.toSlice.length : Int) (v3.toSlice.length : Int) && true then
    bif inR (IntKind.wrap .i64 ((v3.toSlice.length : Int) - 1)) v3.toSlice.length then
    (run 62 [.slice v2.toSlice, .int a3_1]).bind fun r4 =>
    nilV r4.outs (consV r4.vals fun v5 vs5 =>
    nilV vs5 (some ⟨[.agg [.int a4_1, .slice (List.drop 1 (List.take (Int.toNat (IntKind.wrap .i64 ((v3.toSlice.length : Int) - 1))) v3.toSlice)), .agg [.int ((((nth v3.toSlice (Int.toNat (IntKind.wrap .i64 ((v3.toSlice.length : Int) - 1)))).fld 1).fld 0).toInt), .int ((((nth v3.toSlice (Int.toNat (IntKind.wrap .i64 ((v3.toSlice.length : Int) - 1)))).fld 1).fld 1).toInt), .slice ((((nth v3.toSlice (Int.toNat (IntKind.wrap .i64 ((v3.toSlice.length : Int) - 1)))).fld 1).fld 2).toSlice)], .int v5.toInt, .str a4_7, .agg [.int a4_8, .int a4_9, .slice a4_10]], .int 0], [], f63_fresh⟩))
  else none
  else none))
  else none
  else none))))
  else none
  else none
  else none := by kernel_rfl
theorem f63_run (ext : Run) (n : Nat) (a0_1 : List UInt8) (a1_1 : List AV) (a2_1 : List AV) (a3_1 : Int) (a4_1 : Int) (a4_2 : List AV) (a4_3 : Int) (a4_4 : Int) (a4_5 : List AV) (a4_6 : Int) (a4_7 : List UInt8) (a4_8 : Int) (a4_9 : Int) (a4_10 : List AV) : runE G ext (n + 1) 63 [.blob a0_1, .slice a1_1, .slice a2_1, .int a3_1, .agg [.int a4_1, .slice a4_2, .agg [.int a4_3, .int a4_4, .slice a4_5], .int a4_6, .str a4_7, .agg [.int a4_8, .int a4_9, .slice a4_10]]] = f63 (runE G ext n) n a0_1 a1_1 a2_1 a3_1 a4_1 a4_2 a4_3 a4_4 a4_5 a4_6 a4_7 a4_8 a4_9 a4_10 := runE_succ f63_at f63_in

noncomputable def f29 (run : Run) (n : Nat) (a0_1 : Int) (a0_2 : List UInt8) (a0_3 : List UInt8) (a0_4 : Int) (a0_5 : List UInt8) (a0_6 : Int) (a0_7 : Int) (a0_8 : Int) (a0_9 : Int) (a0_10 : Int) (a0_11 : Int) (a1_1 : List AV) (a2_1 : Int) (a3_1 : Int) : Option Res := evalK G run n f29_info.keep 0 f29_info.body (retE G f29_info) (f29_info.start [.agg [.agg [.int a0_1, .blob a0_2, .blob a0_3, .int a0_4], .blob a0_5, .int a0_6, .int a0_7, .int a0_8, .int a0_9, .int a0_10, .int a0_11], .slice a1_1, .int a2_1, .int a3_1])
theorem f29_eq (run : Run) (n : Nat) (a0_1 : Int) (a0_2 : List UInt8) (a0_3 : List UInt8) (a0_4 : Int) (a0_5 : List UInt8) (a0_6 : Int) (a0_7 : Int) (a0_8 : Int) (a0_9 : Int) (a0_10 : Int) (a0_11 : Int) (a1_1 : List AV) (a2_1 : Int) (a3_1 : Int) : f29 run n a0_1 a0_2 a0_3 a0_4 a0_5 a0_6 a0_7 a0_8 a0_9 a0_10 a0_11 a1_1 a2_1 a3_1 =
  (run 24 [.agg [.agg [.int a0_1, .blob a0_2, .blob a0_3, .int a0_4], .blob a0_5, .int a0_6, .int a0_7, .int a0_8, .int a0_9, .int a0_10, .int a0_11], .slice a1_1]).bind fun r1 =>
    nilV r1.outs (consV r1.vals fun v1 vs1 =>
    nilV vs1 (bif !(eqI v1.toInt 0) then
    some ⟨[.agg [.int 0, .slice [], .agg [.int 0, .int 0, .slice []], .int 0, .str [], .agg [.int 0, .int 0, .slice []]], .int v1.toInt], [], f29_fresh⟩
  else
    bif ltI a2_1 0 then
    some ⟨[.agg [.int 0, .slice [], .agg [.int 0, .int 0, .slice []], .int 0, .str [], .agg [.int 0, .int 0, .slice []]], .int 15], [], f29_fresh⟩
  else
    bif leI (IntKind.wrap .i64 ((a1_1.length : Int) - a0_7)) a2_1 then
    some ⟨[.agg [.int 0, .slice [], .agg [.int 0, .int 0, .slice []], .int 0, .str [], .agg [.int 0, .int 0, .slice []]], .int 15], [], f29_fresh⟩
  else
    bif inR a2_1 a1_1.length then
    (run 61 [.slice (((nth a1_1 (Int.toNat a2_1)).fld 1).toSlice), .int a3_1]).bind fun r2 =>
    nilV r2.outs (consV r2.vals fun v2 vs2 =>
    consV vs2 fun v3 vs3 =>
    nilV vs3 (bif !(eqI v3.toInt 0) then
    some ⟨[.agg [.int 0, .slice [], .agg [.int 0, .int 0, .slice []], .int 0, .str [], .agg [.int 0, .int 0, .slice []]], .int 14], [], f29_fresh⟩
  else
    (run 21 [.agg [.agg [.int a0_1, .blob a0_2, .blob a0_3, .int a0_4], .blob a0_5, .int a0_6, .int a0_7, .int a0_8, .int a0_9, .int a0_10, .int a0_11], .slice a1_1]).bind fun r3 =>
    bif r3.fresh then
    nilV r3.outs (consV r3.vals fun v4 vs4 =>
    nilV vs4 ((run 62 [.slice v4.toSlice, .int a2_1]).bind fun r4 =>
    nilV r4.outs (consV r4.vals fun v5 vs5 =>
    nilV vs5 (bif inR a2_1 a1_1.length then
    bif inR a3_1 ((((nth a1_1 (Int.toNat a2_1)).fld 1).toSlice).length) then
    bif inR v5.toInt v4.toSlice.length then
    bif eqI ((nth v4.toSlice (Int.toNat v5.toInt)).toInt) a2_1 then
    some ⟨[.agg [.int v5.toInt, .slice [], .agg [.int 0, .int 0, .slice []], .int 0, .str ((nth (((nth a1_1 (Int.toNat a2_1)).fld 1).toSlice) (Int.toNat a3_1)).toStr), .agg [.int ((v2.fld 0).toInt), .int ((v2.fld 1).toInt), .slice ((v2.fld 2).toSlice)]], .int 0], [], f29_fresh⟩
  else
    (run 63 [.blob a0_5, .slice a1_1, .slice v4.toSlice, .int a2_1, .agg [.int v5.toInt, .slice [], .agg [.int 0, .int 0, .slice []], .int 0, .str ((nth (((nth a1_1 (Int.toNat a2_1)).fld 1).toSlice) (Int.toNat a3_1)).toStr), .agg [.int ((v2.fld 0).toInt), .int ((v2.fld 1).toInt), .slice ((v2.fld 2).toSlice)]]]).bind fun r5 =>
    nilV r5.outs (consV r5.vals fun v6 vs6 =>
    consV vs6 fun v7 vs7 =>
    nilV vs7 (some ⟨[.agg [.int ((v6.fld 0).toInt), .slice ((v6.fld 1).toSlice), .agg [.int (((v6.fld 2).fld 0).toInt), .int (((v6.fld 2).fld 1).toInt), .slice (((v6.fld 2).fld 2).toSlice)], .int ((v6.fld 3).toInt), .str ((v6.fld 4).toStr), .agg [.int (((v6.fld 5).fld 0).toInt), .int (((v6.fld 5).fld 1).toInt), .slice (((v6.fld 5).fld 2).toSlice)]], .int v7.toInt], [], f29_fresh⟩))
  else none
  else none
  else none))))
  else none))
  else none)) := by kernel_rfl
theorem f29_run (ext : Run) (n : Nat) (a0_1 : Int) (a0_2 : List UInt8) (a0_3 : List UInt8) (a0_4 : Int) (a0_5 : List UInt8) (a0_6 : Int) (a0_7 : Int) (a0_8 : Int) (a0_9 : Int) (a0_10 : Int) (a0_11 : Int) (a1_1 : List AV) (a2_1 : Int) (a3_1 : Int) : runE G ext (n + 1) 29 [.agg [.agg [.int a0_1, .blob a0_2, .blob a0_3, .int a0_4], .blob a0_5, .int a0_6, .int a0_7, .int a0_8, .int a0_9, .int a0_10, .int a0_11], .slice a1_1, .int a2_1, .int a3_1] = f29 (runE G ext n) n a0_1 a0_2 a0_3 a0_4 a0_5 a0_6 a0_7 a0_8 a0_9 a0_10 a0_11 a1_1 a2_1 a3_1 := runE_succ f29_at f29_in

noncomputable def f8_l2 (run : Run) (n : Nat) (k0 : Nat) (k2 : Nat) (x1_2 : List AV) (x2_12 : Int) (x2_13 : List UInt8) (x2_14 : List UInt8) (x2_15 : Int) (x2_16 : List UInt8) (x2_17 : Int) (x2_18 : Int) (x2_19 : Int) (x2_20 : Int) (x2_21 : Int) (x2_22 : Int) (x5_2 : List AV) (x7_2 : Int) (x8_1 : Int) : Option Res :=
  iterK (evalK G run n f8_keep 2 (sub [1, 1, 1, 1, 0, 1, 0, 0, 1, 0, 0, 1, 0, 0] f8_body)) f8_t2 f8_o2 (blockK 2 (blockK 1 (seqK (evalK G run n f8_keep 0 (sub [1, 1, 1, 1, 0, 1, 0, 0, 1, 1] f8_body) (seqK (fun t => iterK (evalK G run n f8_keep 0 (sub [1, 1, 1, 1, 0, 1, 0, 0] f8_body)) f8_t0 f8_o0 (blockK 0 (seqK (evalK G run n f8_keep 0 (sub [1, 1, 1, 1, 1] f8_body) (retE G f8_info)) (retE G f8_info))) k0 (t.clear f8_t0 f8_o0)) (blockK 0 (seqK (evalK G run n f8_keep 0 (sub [1, 1, 1, 1, 1] f8_body) (retE G f8_info)) (retE G f8_info))))) (seqK (fun t => iterK (evalK G run n f8_keep 0 (sub [1, 1, 1, 1, 0, 1, 0, 0] f8_body)) f8_t0 f8_o0 (blockK 0 (seqK (evalK G run n f8_keep 0 (sub [1, 1, 1, 1, 1] f8_body) (retE G f8_info)) (retE G f8_info))) k0 (t.clear f8_t0 f8_o0)) (blockK 0 (seqK (evalK G run n f8_keep 0 (sub [1, 1, 1, 1, 1] f8_body) (retE G f8_info)) (retE G f8_info))))))) k2
    ⟨[.any, .val (.slice (.struct [(.struct [(.int .u32), (.blob 32), (.blob 32), (.int .u64)]), (.slice .str)])) none (.slice x1_2), .val (.pat (.struct [(.struct [(.int .u32), (.blob 32), (.blob 32), (.int .u64)]), (.blob 32), (.int .i64), (.int .i64), (.int .i64), (.int .i64), (.int .i64), (.int .i64)])) none (.agg [.agg [.int x2_12, .blob x2_13, .blob x2_14, .int x2_15], .blob x2_16, .int x2_17, .int x2_18, .int x2_19, .int x2_20, .int x2_21, .int x2_22]), .any, .any, .val (.slice (.struct [(.struct [(.int .u32), (.blob 32), (.blob 32), (.int .u64)]), (.struct [(.int .i64), (.int .i64), (.slice (.blob 32))])])) none (.slice x5_2), .any, .val (.int .i64) none (.int x7_2), .val (.int .i64) none (.int x8_1), .any, .any, .any, .any, .any, .any, .any, .any, .any, .any, .any, .any, .any, .any, .any, .any, .any, .any, .any, .any, .any, .any, .any, .any, .any, .any, .any, .any, .any, .any, .any, .any, .any, .any, .any, .any, .any, .any, .any, .any, .any, .any, .any, .any, .any, .any, .any, .any, .any, .any, .any, .any, .any, .any, .any, .any, .any, .any, .any, .any, .any, .any, .any, .any, .any, .any, .any, .any, .any, .any, .any, .any, .any, .any, .any, .any, .any, .any, .any, .any, .any, .any, .any, .any, .any, .any, .any, .any, .any, .any, .any, .any, .any, .any, .any, .any, .any, .any, .any, .any, .any, .any, .any, .any, .any, .any, .any, .any, .any, .any, .any, .any, .any, .any, .any, .any, .any, .any], [⟨0, none⟩, ⟨0, none⟩, ⟨0, none⟩, ⟨0, none⟩, ⟨0, none⟩, ⟨0, none⟩, ⟨0, none⟩, ⟨0, none⟩, ⟨0, none⟩, ⟨0, none⟩, ⟨0, none⟩, ⟨0, none⟩, ⟨0, none⟩, ⟨0, none⟩, ⟨0, none⟩, ⟨0, none⟩, ⟨0, none⟩, ⟨0, none⟩, ⟨0, none⟩, ⟨0, none⟩, ⟨0, none⟩, ⟨0, none⟩, ⟨0, none⟩, ⟨0, none⟩, ⟨0, none⟩, ⟨0, none⟩, ⟨0, none⟩, ⟨0, none⟩, ⟨0, none⟩, ⟨0, none⟩, ⟨0, none⟩, ⟨0, none⟩, ⟨0, none⟩, ⟨0, none⟩, ⟨0, none⟩, ⟨0, none⟩, ⟨0, none⟩, ⟨0, none⟩, ⟨0, none⟩, ⟨0, none⟩, ⟨0, none⟩, ⟨0, none⟩, ⟨0, none⟩, ⟨0, none⟩, ⟨0, none⟩, ⟨0, none⟩, ⟨0, none⟩, ⟨0, none⟩, ⟨0, none⟩, ⟨0, none⟩, ⟨0, none⟩, ⟨0, none⟩, ⟨0, none⟩, ⟨0, none⟩, ⟨0, none⟩, ⟨0, none⟩, ⟨0, none⟩, ⟨0, none⟩, ⟨0, none⟩, ⟨0, none⟩, ⟨0, none⟩, ⟨0, none⟩, ⟨0, none⟩, ⟨0, none⟩, ⟨0, none⟩, ⟨0, none⟩, ⟨0, none⟩, ⟨0, none⟩, ⟨0, none⟩, ⟨0, none⟩, ⟨0, none⟩, ⟨0, none⟩, ⟨0, none⟩, ⟨0, none⟩, ⟨0, none⟩, ⟨0, none⟩, ⟨0, none⟩, ⟨0, none⟩, ⟨0, none⟩, ⟨0, none⟩, ⟨0, none⟩, ⟨0, none⟩, ⟨0, none⟩, ⟨0, none⟩, ⟨0, none⟩, ⟨0, none⟩, ⟨0, none⟩, ⟨0, none⟩, ⟨0, none⟩, ⟨0, none⟩, ⟨0, none⟩, ⟨0, none⟩, ⟨0, none⟩, ⟨0, none⟩, ⟨0, none⟩, ⟨0, none⟩, ⟨0, none⟩, ⟨0, none⟩, ⟨0, none⟩, ⟨0, none⟩, ⟨0, none⟩, ⟨0, none⟩, ⟨0, none⟩, ⟨0, none⟩, ⟨0, none⟩, ⟨0, none⟩, ⟨0, none⟩, ⟨0, none⟩, ⟨0, none⟩, ⟨0, none⟩, ⟨0, none⟩, ⟨0, none⟩, ⟨0, none⟩, ⟨0, none⟩, ⟨0, none⟩, ⟨0, none⟩, ⟨0, none⟩, ⟨0, none⟩, ⟨0, none⟩, ⟨0, none⟩, ⟨0, none⟩, ⟨0, none⟩, ⟨0, none⟩, ⟨0, none⟩, ⟨0, none⟩, ⟨0, none⟩, ⟨0, none⟩], List.replicate 127 0⟩
noncomputable def f8_l0 (run : Run) (n : Nat) (k0 : Nat) (x1_1 : List AV) (x2_1 : Int) (x2_2 : List UInt8) (x2_3 : List UInt8) (x2_4 : Int) (x2_5 : List UInt8) (x2_6 : Int) (x2_7 : Int) (x2_8 : Int) (x2_9 : Int) (x2_10 : Int) (x2_11 : Int) (x5_1 : List AV) (x7_1 : Int) : Option Res :=
  iterK (evalK G run n f8_keep 0 (sub [1, 1, 1, 1, 0, 1, 0, 0] f8_body)) f8_t0 f8_o0 (blockK 0 (seqK (evalK G run n f8_keep 0 (sub [1, 1, 1, 1, 1] f8_body) (retE G f8_info)) (retE G f8_info))) k0
    ⟨[.any, .val (.slice (.struct [(.struct [(.int .u32), (.blob 32), (.blob 32), (.int .u64)]), (.slice .str)])) none (.slice x1_1), .val (.pat (.struct [(.struct [(.int .u32), (.blob 32), (.blob 32), (.int .u64)]), (.blob 32), (.int .i64), (.int .i64), (.int .i64), (.int .i64), (.int .i64), (.int .i64)])) none (.agg [.agg [.int x2_1, .blob x2_2, .blob x2_3, .int x2_4], .blob x2_5, .int x2_6, .int x2_7, .int x2_8, .int x2_9, .int x2_10, .int x2_11]), .any, .any, .val (.slice (.struct [(.struct [(.int .u32), (.blob 32), (.blob 32), (.int .u64)]), (.struct [(.int .i64), (.int .i64), (.slice (.blob 32))])])) none (.slice x5_1), .any, .val (.int .i64) none (.int x7_1), .any, .any, .any, .any, .any, .any, .any, .any, .any, .any, .any, .any, .any, .any, .any, .any, .any, .any, .any, .any, .any, .any, .any, .any, .any, .any, .any, .any, .any, .any, .any, .any, .any, .any, .any, .any, .any, .any, .any, .any, .any, .any, .any, .any, .any, .any, .any, .any, .any, .any, .any, .any, .any, .any, .any, .any, .any, .any, .any, .any, .any, .any, .any, .any, .any, .any, .any, .any, .any, .any, .any, .any, .any, .any, .any, .any, .any, .any, .any, .any, .any, .any, .any, .any, .any, .any, .any, .any, .any, .any, .any, .any, .any, .any, .any, .any, .any, .any, .any, .any, .any, .any, .any, .any, .any, .any, .any, .any, .any, .any, .any, .any, .any, .any, .any, .any, .any, .any, .any], [⟨0, none⟩, ⟨0, none⟩, ⟨0, none⟩, ⟨0, none⟩, ⟨0, none⟩, ⟨0, none⟩, ⟨0, none⟩, ⟨0, none⟩, ⟨0, none⟩, ⟨0, none⟩, ⟨0, none⟩, ⟨0, none⟩, ⟨0, none⟩, ⟨0, none⟩, ⟨0, none⟩, ⟨0, none⟩, ⟨0, none⟩, ⟨0, none⟩, ⟨0, none⟩, ⟨0, none⟩, ⟨0, none⟩, ⟨0, none⟩, ⟨0, none⟩, ⟨0, none⟩, ⟨0, none⟩, ⟨0, none⟩, ⟨0, none⟩, ⟨0, none⟩, ⟨0, none⟩, ⟨0, none⟩, ⟨0, none⟩, ⟨0, none⟩, ⟨0, none⟩, ⟨0, none⟩, ⟨0, none⟩, ⟨0, none⟩, ⟨0, none⟩, ⟨0, none⟩, ⟨0, none⟩, ⟨0, none⟩, ⟨0, none⟩, ⟨0, none⟩, ⟨0, none⟩, ⟨0, none⟩, ⟨0, none⟩, ⟨0, none⟩, ⟨0, none⟩, ⟨0, none⟩, ⟨0, none⟩, ⟨0, none⟩, ⟨0, none⟩, ⟨0, none⟩, ⟨0, none⟩, ⟨0, none⟩, ⟨0, none⟩, ⟨0, none⟩, ⟨0, none⟩, ⟨0, none⟩, ⟨0, none⟩, ⟨0, none⟩, ⟨0, none⟩, ⟨0, none⟩, ⟨0, none⟩, ⟨0, none⟩, ⟨0, none⟩, ⟨0, none⟩, ⟨0, none⟩, ⟨0, none⟩, ⟨0, none⟩, ⟨0, none⟩, ⟨0, none⟩, ⟨0, none⟩, ⟨0, none⟩, ⟨0, none⟩, ⟨0, none⟩, ⟨0, none⟩, ⟨0, none⟩, ⟨0, none⟩, ⟨0, none⟩, ⟨0, none⟩, ⟨0, none⟩, ⟨0, none⟩, ⟨0, none⟩, ⟨0, none⟩, ⟨0, none⟩, ⟨0, none⟩, ⟨0, none⟩, ⟨0, none⟩, ⟨0, none⟩, ⟨0, none⟩, ⟨0, none⟩, ⟨0, none⟩, ⟨0, none⟩, ⟨0, none⟩, ⟨0, none⟩, ⟨0, none⟩, ⟨0, none⟩, ⟨0, none⟩, ⟨0, none⟩, ⟨0, none⟩, ⟨0, none⟩, ⟨0, none⟩, ⟨0, none⟩, ⟨0, none⟩, ⟨0, none⟩, ⟨0, none⟩, ⟨0, none⟩, ⟨0, none⟩, ⟨0, none⟩, ⟨0, none⟩, ⟨0, none⟩, ⟨0, none⟩, ⟨0, none⟩, ⟨0, none⟩, ⟨0, none⟩, ⟨0, none⟩, ⟨0, none⟩, ⟨0, none⟩, ⟨0, none⟩, ⟨0, none⟩, ⟨0, none⟩, ⟨0, none⟩, ⟨0, none⟩, ⟨0, none⟩, ⟨0, none⟩, ⟨0, none⟩, ⟨0, none⟩], List.replicate 127 0⟩
theorem f8_l2_eq (run : Run) (n : Nat) (k0 : Nat) (k2 : Nat) (x1_2 : List AV) (x2_12 : Int) (x2_13 : List UInt8) (x2_14 : List UInt8) (x2_15 : Int) (x2_16 : List UInt8) (x2_17 : Int) (x2_18 : Int) (x2_19 : Int) (x2_20 : Int) (x2_21 : Int) (x2_22 : Int) (x5_2 : List AV) (x7_2 : Int) (x8_1 : Int) : f8_l2 run n k0 (k2 + 1) x1_2 x2_12 x2_13 x2_14 x2_15 x2_16 x2_17 x2_18 x2_19 x2_20 x2_21 x2_22 x5_2 x7_2 x8_1 =
  bif inR x7_2 x1_2.length then
    bif ltI x8_1 ((((nth x1_2 (Int.toNat x7_2)).fld 1).toSlice).length : Int) then
    (run 29 [.agg [.agg [.int x2_12, .blob x2_13, .blob x2_14, .int x2_15], .blob x2_16, .int x2_17, .int x2_18, .int x2_19, .int x2_20, .int x2_21, .int x2_22], .slice x1_2, .int x7_2, .int x8_1]).bind fun r9 =>
    nilV r9.outs (consV r9.vals fun v10 vs10 =>
    consV vs10 fun v11 vs11 =>
    nilV vs11 ((run 35 [.slice x5_2, .agg [.int ((v10.fld 0).toInt), .slice ((v10.fld 1).toSlice), .agg [.int (((v10.fld 2).fld 0).toInt), .int (((v10.fld 2).fld 1).toInt), .slice (((v10.fld 2).fld 2).toSlice)], .int ((v10.fld 3).toInt), .str ((v10.fld 4).toStr), .agg [.int (((v10.fld 5).fld 0).toInt), .int (((v10.fld 5).fld 1).toInt), .slice (((v10.fld 5).fld 2).toSlice)]]]).bind fun r10 =>
    nilV r10.outs (consV r10.vals fun v12 vs12 =>
    consV vs12 fun v13 vs13 =>
    nilV vs13 (bif !(eqI v11.toInt 0) then
    some ⟨[.bool false], [], f8_fresh⟩
  else
    (run 36 [.blob x2_16, .slice x5_2, .agg [.int ((v10.fld 0).toInt), .slice ((v10.fld 1).toSlice), .agg [.int (((v10.fld 2).fld 0).toInt), .int (((v10.fld 2).fld 1).toInt), .slice (((v10.fld 2).fld 2).toSlice)], .int ((v10.fld 3).toInt), .str ((v10.fld 4).toStr), .agg [.int (((v10.fld 5).fld 0).toInt), .int (((v10.fld 5).fld 1).toInt), .slice (((v10.fld 5).fld 2).toSlice)]]]).bind fun r11 =>
    nilV r11.outs (consV r11.vals fun v14 vs14 =>
    nilV vs14 (bif !(eqI v14.toInt 0) then
    some ⟨[.bool false], [], f8_fresh⟩
  else
    bif !v13.toBool then
    some ⟨[.bool false], [], f8_fresh⟩
  else
    bif inR x7_2 x1_2.length then
    bif !(eqI ((v12.fld 0).toInt) ((((nth x1_2 (Int.toNat x7_2)).fld 0).fld 0).toInt) && (eqS ((v12.fld 1).toBlob) ((((nth x1_2 (Int.toNat x7_2)).fld 0).fld 1).toBlob) && (eqS ((v12.fld 2).toBlob) ((((nth x1_2 (Int.toNat x7_2)).fld 0).fld 2).toBlob) && (eqI ((v12.fld 3).toInt) ((((nth x1_2 (Int.toNat x7_2)).fld 0).fld 3).toInt) && true)))) then
    some ⟨[.bool false], [], f8_fresh⟩
  else
    bif inR x7_2 x1_2.length then
    bif inR x8_1 ((((nth x1_2 (Int.toNat x7_2)).fld 1).toSlice).length) then
    bif !(eqS ((v10.fld 4).toStr) ((nth (((nth x1_2 (Int.toNat x7_2)).fld 1).toSlice) (Int.toNat x8_1)).toStr)) then
    some ⟨[.bool false], [], f8_fresh⟩
  else
    bif !(eqI (((v10.fld 5).fld 0).toInt) x8_1) then
    some ⟨[.bool false], [], f8_fresh⟩
  else
    f8_l2 run n k0 k2 x1_2 x2_12 x2_13 x2_14 x2_15 x2_16 x2_17 x2_18 x2_19 x2_20 x2_21 x2_22 x5_2 x7_2 (IntKind.wrap .i64 (x8_1 + 1))
  else none
  else none
  else none))))))
  else
    f8_l0 run n k0 x1_2 x2_12 x2_13 x2_14 x2_15 x2_16 x2_17 x2_18 x2_19 x2_20 x2_21 x2_22 x5_2 (IntKind.wrap .i64 (x7_2 + 1))
  else none := by kernel_rfl
theorem f8_l0_eq (run : Run) (n : Nat) (k0 : Nat) (x1_1 : List AV) (x2_1 : Int) (x2_2 : List UInt8) (x2_3 : List UInt8) (x2_4 : Int) (x2_5 : List UInt8) (x2_6 : Int) (x2_7 : Int) (x2_8 : Int) (x2_9 : Int) (x2_10 : Int) (x2_11 : Int) (x5_1 : List AV) (x7_1 : Int) : f8_l0 run n (k0 + 1) x1_1 x2_1 x2_2 x2_3 x2_4 x2_5 x2_6 x2_7 x2_8 x2_9 x2_10 x2_11 x5_1 x7_1 =
  bif ltI x7_1 (IntKind.wrap .i64 ((x1_1.length : Int) - x2_7)) then
    f8_l2 run n k0 n x1_1 x2_1 x2_2 x2_3 x2_4 x2_5 x2_6 x2_7 x2_8 x2_9 x2_10 x2_11 x5_1 x7_1 0
  else
    (run 34 []).bind fun r12 =>
    nilV r12.outs (consV r12.vals fun v15 vs15 =>
    nilV vs15 (some ⟨[.bool v15.toBool], [], f8_fresh⟩)) := by kernel_rfl
noncomputable def f8 (run : Run) (n : Nat) (a0_1 : Int) (a0_2 : List UInt8) (a0_3 : List UInt8) (a0_4 : Int) (a0_5 : List UInt8) (a0_6 : Int) (a0_7 : Int) (a0_8 : Int) (a0_9 : Int) (a0_10 : Int) (a0_11 : Int) (a1_1 : List AV) : Option Res := evalK G run n f8_info.keep 0 f8_info.body (retE G f8_info) (f8_info.start [.agg [.agg [.int a0_1, .blob a0_2, .blob a0_3, .int a0_4], .blob a0_5, .int a0_6, .int a0_7, .int a0_8, .int a0_9, .int a0_10, .int a0_11], .slice a1_1])
theorem f8_eq (run : Run) (n : Nat) (a0_1 : Int) (a0_2 : List UInt8) (a0_3 : List UInt8) (a0_4 : Int) (a0_5 : List UInt8) (a0_6 : Int) (a0_7 : Int) (a0_8 : Int) (a0_9 : Int) (a0_10 : Int) (a0_11 : Int) (a1_1 : List AV) : f8 run n a0_1 a0_2 a0_3 a0_4 a0_5 a0_6 a0_7 a0_8 a0_9 a0_10 a0_11 a1_1 =
  (run 9 [.slice a1_1]).bind fun r1 =>
    nilV r1.outs (consV r1.vals fun v1 vs1 =>
    nilV vs1 (bif v1.toBool then
    (run 34 []).bind fun r2 =>
    nilV r2.outs (consV r2.vals fun v2 vs2 =>
    nilV vs2 (some ⟨[.bool v2.toBool], [], f8_fresh⟩))
  else
    bif leI (a1_1.length : Int) a0_7 then
    (run 34 []).bind fun r3 =>
    nilV r3.outs (consV r3.vals fun v3 vs3 =>
    nilV vs3 (some ⟨[.bool v3.toBool], [], f8_fresh⟩))
  else
    (run 10 [.int a0_6, .int a0_7, .int a0_8, .int a0_9]).bind fun r4 =>
    nilV r4.outs (consV r4.vals fun v4 vs4 =>
    nilV vs4 (bif !v4.toBool then
    (run 34 []).bind fun r5 =>
    nilV r5.outs (consV r5.vals fun v5 vs5 =>
    nilV vs5 (some ⟨[.bool v5.toBool], [], f8_fresh⟩))
  else
    (run 11 [.agg [.agg [.int a0_1, .blob a0_2, .blob a0_3, .int a0_4], .blob a0_5, .int a0_6, .int a0_7, .int a0_8, .int a0_9, .int a0_10, .int a0_11], .slice a1_1]).bind fun r6 =>
    nilV r6.outs (consV r6.vals fun v6 vs6 =>
    nilV vs6 (bif !(eqI ((v6.fld 0).toInt) 0) then
    (run 34 []).bind fun r7 =>
    nilV r7.outs (consV r7.vals fun v7 vs7 =>
    nilV vs7 (some ⟨[.bool v7.toBool], [], f8_fresh⟩))
  else
    (run 18 [.agg [.agg [.int a0_1, .blob a0_2, .blob a0_3, .int a0_4], .blob a0_5, .int a0_6, .int a0_7, .int a0_8, .int a0_9, .int a0_10, .int a0_11], .slice a1_1]).bind fun r8 =>
    nilV r8.outs (consV r8.vals fun v8 vs8 =>
    consV vs8 fun v9 vs9 =>
    nilV vs9 (bif !(eqI v9.toInt 0) then
    some ⟨[.bool false], [], f8_fresh⟩
  else
    f8_l0 run n n a1_1 a0_1 a0_2 a0_3 a0_4 a0_5 a0_6 a0_7 a0_8 a0_9 a0_10 a0_11 v8.toSlice 0)))))))) := by kernel_rfl
theorem f8_run (ext : Run) (n : Nat) (a0_1 : Int) (a0_2 : List UInt8) (a0_3 : List UInt8) (a0_4 : Int) (a0_5 : List UInt8) (a0_6 : Int) (a0_7 : Int) (a0_8 : Int) (a0_9 : Int) (a0_10 : Int) (a0_11 : Int) (a1_1 : List AV) : runE G ext (n + 1) 8 [.agg [.agg [.int a0_1, .blob a0_2, .blob a0_3, .int a0_4], .blob a0_5, .int a0_6, .int a0_7, .int a0_8, .int a0_9, .int a0_10, .int a0_11], .slice a1_1] = f8 (runE G ext n) n a0_1 a0_2 a0_3 a0_4 a0_5 a0_6 a0_7 a0_8 a0_9 a0_10 a0_11 a1_1 := runE_succ f8_at f8_in

end Go.Proofs.YtogehijjhibdkaaGreat.Ev
