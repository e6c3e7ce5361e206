/- What the evaluator does with the functions, as programs over plain values: printed by gen.py, checked by the kernel. -/
import Derived.Test.YtddcooedbibehaaGreatEvFA
namespace Go.Proofs.YtddcooedbibehaaGreat.Ev
open Go Go.RowKit
set_option maxRecDepth 100000


noncomputable def f9_l2 (run : Run) (n : Nat) (k0 : Nat) (k2 : Nat) (x1_2 : List AV) (x2_12 : Int) (x2_13 : List UInt8) (x2_14 : List UInt8) (x2_15 : Int) (x2_16 : List UInt8) (x2_17 : Int) (x2_18 : Int) (x2_19 : Int) (x2_20 : Int) (x2_21 : Int) (x2_22 : Int) (x6_2 : List AV) (x7_1 : Int) (x23_2 : Int) (x24_2 : Int) (x27_1 : List AV) (x28_1 : Int) (x29_1 : Int) (o4_3 : Int) (o4_4 : Int) : Option Res :=
  iterK (evalK G run n f9_keep 2 (sub [1, 1, 1, 0, 1, 0, 0, 1, 1, 0, 0, 1, 1, 0, 0] f9_body)) f9_t2 f9_o2 (blockK 2 (blockK 1 (seqK (evalK G run n f9_keep 0 (sub [1, 1, 1, 0, 1, 0, 0, 1, 1, 1] f9_body) (seqK (fun t => iterK (evalK G run n f9_keep 0 (sub [1, 1, 1, 0, 1, 0, 0] f9_body)) f9_t0 f9_o0 (blockK 0 (seqK (evalK G run n f9_keep 0 (sub [1, 1, 1, 1] f9_body) (retE G f9_info)) (retE G f9_info))) k0 (t.clear f9_t0 f9_o0)) (blockK 0 (seqK (evalK G run n f9_keep 0 (sub [1, 1, 1, 1] f9_body) (retE G f9_info)) (retE G f9_info))))) (seqK (fun t => iterK (evalK G run n f9_keep 0 (sub [1, 1, 1, 0, 1, 0, 0] f9_body)) f9_t0 f9_o0 (blockK 0 (seqK (evalK G run n f9_keep 0 (sub [1, 1, 1, 1] f9_body) (retE G f9_info)) (retE G f9_info))) k0 (t.clear f9_t0 f9_o0)) (blockK 0 (seqK (evalK G run n f9_keep 0 (sub [1, 1, 1, 1] f9_body) (retE G f9_info)) (retE G f9_info))))))) k2
    ⟨[.any, .val (.slice (.struct [(.struct [(.int .u32), (.blob 32), (.blob 32), (.int .u64)]), (.struct [(.int .i64), (.int .i64), (.slice (.blob 32))])])) none (.slice x1_2), .val (.pat (.struct [(.struct [(.int .u32), (.blob 32), (.blob 32), (.int .u64)]), (.blob 32), (.int .i64), (.int .i64), (.int .i64), (.int .i64), (.int .i64), (.int .i64)])) none (.agg [.agg [.int x2_12, .blob x2_13, .blob x2_14, .int x2_15], .blob x2_16, .int x2_17, .int x2_18, .int x2_19, .int x2_20, .int x2_21, .int x2_22]), .any, .ptr ⟨(.struct [(.int .i64), (.int .i64)]), 4, 1, []⟩, .any, .val (.slice (.struct [(.clos [(61, ([], [0])), (63, ([], [0, 1])), (66, ([], [0]))] [(.pat (.slice (.struct [(.struct [(.int .u32), (.blob 32), (.blob 32), (.int .u64)]), (.struct [(.int .i64), (.int .i64), (.slice (.blob 32))])]))), (.pat (.struct [(.struct [(.int .u32), (.blob 32), (.blob 32), (.int .u64)]), (.blob 32), (.int .i64), (.int .i64), (.int .i64), (.int .i64), (.int .i64), (.int .i64)]))]), (.int .i64)])) (some (6, 0)) (.slice x6_2), .val (.int .i64) none (.int x7_1), .any, .any, .any, .any, .any, .any, .any, .any, .any, .any, .any, .any, .any, .any, .any, .val (.int .i64) none (.int x23_2), .val (.int .i64) none (.int x24_2), .any, .any, .val (.slice (.struct [(.clos [(61, ([], [0])), (63, ([], [0, 1])), (66, ([], [0]))] [(.pat (.slice (.struct [(.struct [(.int .u32), (.blob 32), (.blob 32), (.int .u64)]), (.struct [(.int .i64), (.int .i64), (.slice (.blob 32))])]))), (.pat (.struct [(.struct [(.int .u32), (.blob 32), (.blob 32), (.int .u64)]), (.blob 32), (.int .i64), (.int .i64), (.int .i64), (.int .i64), (.int .i64), (.int .i64)]))]), (.int .i64)])) none (.slice x27_1), .val (.int .i64) none (.int x28_1), .val (.int .i64) none (.int x29_1), .any, .any, .any, .any, .any, .any, .any, .any, .any, .any, .any, .any, .any, .any, .any, .any, .any, .any, .any, .any, .any, .any, .any, .any, .any], [⟨0, none⟩, ⟨0, none⟩, ⟨0, none⟩, ⟨0, none⟩, ⟨1, some ⟨(.struct [(.int .i64), (.int .i64)]), .agg [.int o4_3, .int o4_4]⟩⟩, ⟨0, none⟩, ⟨0, none⟩, ⟨0, none⟩, ⟨0, none⟩, ⟨0, none⟩, ⟨0, none⟩, ⟨0, none⟩, ⟨0, none⟩, ⟨0, none⟩, ⟨0, none⟩, ⟨0, none⟩, ⟨0, none⟩, ⟨0, none⟩, ⟨0, none⟩, ⟨0, none⟩, ⟨0, none⟩, ⟨0, none⟩, ⟨0, none⟩, ⟨0, none⟩, ⟨0, none⟩, ⟨0, none⟩, ⟨0, none⟩, ⟨0, none⟩, ⟨0, none⟩, ⟨0, none⟩, ⟨0, none⟩, ⟨0, none⟩, ⟨0, none⟩, ⟨0, none⟩, ⟨0, none⟩, ⟨0, none⟩, ⟨0, none⟩, ⟨0, none⟩, ⟨0, none⟩, ⟨0, none⟩, ⟨0, none⟩, ⟨0, none⟩, ⟨0, none⟩, ⟨0, none⟩, ⟨0, none⟩, ⟨0, none⟩, ⟨0, none⟩, ⟨0, none⟩, ⟨0, none⟩, ⟨0, none⟩, ⟨0, none⟩, ⟨0, none⟩, ⟨0, none⟩, ⟨0, none⟩, ⟨0, none⟩], List.replicate 55 0⟩
noncomputable def f9_l0 (run : Run) (n : Nat) (k0 : Nat) (x1_1 : List AV) (x2_1 : Int) (x2_2 : List UInt8) (x2_3 : List UInt8) (x2_4 : Int) (x2_5 : List UInt8) (x2_6 : Int) (x2_7 : Int) (x2_8 : Int) (x2_9 : Int) (x2_10 : Int) (x2_11 : Int) (x6_1 : List AV) (x23_1 : Int) (x24_1 : Int) (o4_1 : Int) (o4_2 : Int) : Option Res :=
  iterK (evalK G run n f9_keep 0 (sub [1, 1, 1, 0, 1, 0, 0] f9_body)) f9_t0 f9_o0 (blockK 0 (seqK (evalK G run n f9_keep 0 (sub [1, 1, 1, 1] f9_body) (retE G f9_info)) (retE G f9_info))) k0
    ⟨[.any, .val (.slice (.struct [(.struct [(.int .u32), (.blob 32), (.blob 32), (.int .u64)]), (.struct [(.int .i64), (.int .i64), (.slice (.blob 32))])])) none (.slice x1_1), .val (.pat (.struct [(.struct [(.int .u32), (.blob 32), (.blob 32), (.int .u64)]), (.blob 32), (.int .i64), (.int .i64), (.int .i64), (.int .i64), (.int .i64), (.int .i64)])) none (.agg [.agg [.int x2_1, .blob x2_2, .blob x2_3, .int x2_4], .blob x2_5, .int x2_6, .int x2_7, .int x2_8, .int x2_9, .int x2_10, .int x2_11]), .any, .ptr ⟨(.struct [(.int .i64), (.int .i64)]), 4, 1, []⟩, .any, .val (.slice (.struct [(.clos [(61, ([], [0])), (63, ([], [0, 1])), (66, ([], [0]))] [(.pat (.slice (.struct [(.struct [(.int .u32), (.blob 32), (.blob 32), (.int .u64)]), (.struct [(.int .i64), (.int .i64), (.slice (.blob 32))])]))), (.pat (.struct [(.struct [(.int .u32), (.blob 32), (.blob 32), (.int .u64)]), (.blob 32), (.int .i64), (.int .i64), (.int .i64), (.int .i64), (.int .i64), (.int .i64)]))]), (.int .i64)])) (some (6, 0)) (.slice x6_1), .any, .any, .any, .any, .any, .any, .any, .any, .any, .any, .any, .any, .any, .any, .any, .any, .val (.int .i64) none (.int x23_1), .val (.int .i64) none (.int x24_1), .any, .any, .any, .any, .any, .any, .any, .any, .any, .any, .any, .any, .any, .any, .any, .any, .any, .any, .any, .any, .any, .any, .any, .any, .any, .any, .any, .any, .any, .any], [⟨0, none⟩, ⟨0, none⟩, ⟨0, none⟩, ⟨0, none⟩, ⟨1, some ⟨(.struct [(.int .i64), (.int .i64)]), .agg [.int o4_1, .int o4_2]⟩⟩, ⟨0, none⟩, ⟨0, none⟩, ⟨0, none⟩, ⟨0, none⟩, ⟨0, none⟩, ⟨0, none⟩, ⟨0, none⟩, ⟨0, none⟩, ⟨0, none⟩, ⟨0, none⟩, ⟨0, none⟩, ⟨0, none⟩, ⟨0, none⟩, ⟨0, none⟩, ⟨0, none⟩, ⟨0, none⟩, ⟨0, none⟩, ⟨0, none⟩, ⟨0, none⟩, ⟨0, none⟩, ⟨0, none⟩, ⟨0, none⟩, ⟨0, none⟩, ⟨0, none⟩, ⟨0, none⟩, ⟨0, none⟩, ⟨0, none⟩, ⟨0, none⟩, ⟨0, none⟩, ⟨0, none⟩, ⟨0, none⟩, ⟨0, none⟩, ⟨0, none⟩, ⟨0, none⟩, ⟨0, none⟩, ⟨0, none⟩, ⟨0, none⟩, ⟨0, none⟩, ⟨0, none⟩, ⟨0, none⟩, ⟨0, none⟩, ⟨0, none⟩, ⟨0, none⟩, ⟨0, none⟩, ⟨0, none⟩, ⟨0, none⟩, ⟨0, none⟩, ⟨0, none⟩, ⟨0, none⟩, ⟨0, none⟩], List.replicate 55 0⟩
theorem f9_l2_eq (run : Run) (n : Nat) (k0 : Nat) (k2 : Nat) (x1_2 : List AV) (x2_12 : Int) (x2_13 : List UInt8) (x2_14 : List UInt8) (x2_15 : Int) (x2_16 : List UInt8) (x2_17 : Int) (x2_18 : Int) (x2_19 : Int) (x2_20 : Int) (x2_21 : Int) (x2_22 : Int) (x6_2 : List AV) (x7_1 : Int) (x23_2 : Int) (x24_2 : Int) (x27_1 : List AV) (x28_1 : Int) (x29_1 : Int) (o4_3 : Int) (o4_4 : Int) : f9_l2 run n k0 (k2 + 1) x1_2 x2_12 x2_13 x2_14 x2_15 x2_16 x2_17 x2_18 x2_19 x2_20 x2_21 x2_22 x6_2 x7_1 x23_2 x24_2 x27_1 x28_1 x29_1 o4_3 o4_4 =
  bif ltI x29_1 x28_1 then
    bif inR x29_1 x27_1.length then
    bif Nat.beq (((nth x27_1 (Int.toNat x29_1)).fld 0).cloF) 61 then
    (run 61 [.int x7_1, nth (((nth x27_1 (Int.toNat x29_1)).fld 0).cloXs) 0]).bind fun r5 =>
    nilV r5.outs (consV r5.vals fun v5 vs5 =>
    nilV vs5 (bif !v5.toBool then
    some ⟨[.agg [.int (((nth x27_1 (Int.toNat x29_1)).fld 1).toInt), .int x7_1]], [], f9_fresh⟩
  else
    f9_l2 run n k0 k2 x1_2 x2_12 x2_13 x2_14 x2_15 x2_16 x2_17 x2_18 x2_19 x2_20 x2_21 x2_22 x6_2 x7_1 x23_2 x24_2 x27_1 x28_1 (IntKind.wrap .i64 (x29_1 + 1)) o4_3 o4_4))
  else
    bif Nat.beq (((nth x27_1 (Int.toNat x29_1)).fld 0).cloF) 63 then
    (run 63 [.int x7_1, nth (((nth x27_1 (Int.toNat x29_1)).fld 0).cloXs) 0, nth (((nth x27_1 (Int.toNat x29_1)).fld 0).cloXs) 1]).bind fun r4 =>
    nilV r4.outs (consV r4.vals fun v4 vs4 =>
    nilV vs4 (bif !v4.toBool then
    some ⟨[.agg [.int (((nth x27_1 (Int.toNat x29_1)).fld 1).toInt), .int x7_1]], [], f9_fresh⟩
  else
    f9_l2 run n k0 k2 x1_2 x2_12 x2_13 x2_14 x2_15 x2_16 x2_17 x2_18 x2_19 x2_20 x2_21 x2_22 x6_2 x7_1 x23_2 x24_2 x27_1 x28_1 (IntKind.wrap .i64 (x29_1 + 1)) o4_3 o4_4))
  else
    bif Nat.beq (((nth x27_1 (Int.toNat x29_1)).fld 0).cloF) 66 then
    (run 66 [.int x7_1, nth (((nth x27_1 (Int.toNat x29_1)).fld 0).cloXs) 0]).bind fun r3 =>
    nilV r3.outs (consV r3.vals fun v3 vs3 =>
    nilV vs3 (bif !v3.toBool then
    some ⟨[.agg [.int (((nth x27_1 (Int.toNat x29_1)).fld 1).toInt), .int x7_1]], [], f9_fresh⟩
  else
    f9_l2 run n k0 k2 x1_2 x2_12 x2_13 x2_14 x2_15 x2_16 x2_17 x2_18 x2_19 x2_20 x2_21 x2_22 x6_2 x7_1 x23_2 x24_2 x27_1 x28_1 (IntKind.wrap .i64 (x29_1 + 1)) o4_3 o4_4))
  else
    none
  else none
  else
    f9_l0 run n k0 x1_2 x2_12 x2_13 x2_14 x2_15 x2_16 x2_17 x2_18 x2_19 x2_20 x2_21 x2_22 x6_2 x23_2 (IntKind.wrap .i64 (x24_2 + 1)) o4_3 o4_4 := by kernel_rfl
theorem f9_l0_eq (run : Run) (n : Nat) (k0 : Nat) (x1_1 : List AV) (x2_1 : Int) (x2_2 : List UInt8) (x2_3 : List UInt8) (x2_4 : Int) (x2_5 : List UInt8) (x2_6 : Int) (x2_7 : Int) (x2_8 : Int) (x2_9 : Int) (x2_10 : Int) (x2_11 : Int) (x6_1 : List AV) (x23_1 : Int) (x24_1 : Int) (o4_1 : Int) (o4_2 : Int) : f9_l0 run n (k0 + 1) x1_1 x2_1 x2_2 x2_3 x2_4 x2_5 x2_6 x2_7 x2_8 x2_9 x2_10 x2_11 x6_1 x23_1 x24_1 o4_1 o4_2 =
  bif ltI x24_1 x23_1 then
    f9_l2 run n k0 n x1_1 x2_1 x2_2 x2_3 x2_4 x2_5 x2_6 x2_7 x2_8 x2_9 x2_10 x2_11 x6_1 x24_1 x23_1 x24_1 x6_1 (x6_1.length : Int) 0 o4_1 o4_2
  else
    (run 36 [.slice x1_1, .int x2_7]).bind fun r6 =>
    nilV r6.outs (consV r6.vals fun v6 vs6 =>
    nilV vs6 (bif !(eqI v6.toInt 0) then
    some ⟨[.agg [.int v6.toInt, .int (x1_1.length : Int)]], [], f9_fresh⟩
  else
    some ⟨[.agg [.int 0, .int 0]], [], f9_fresh⟩)) := by kernel_rfl
noncomputable def f9 (run : Run) (n : Nat) (a0_1 : Int) (a0_2 : List UInt8) (a0_3 : List UInt8) (a0_4 : Int) (a0_5 : List UInt8) (a0_6 : Int) (a0_7 : Int) (a0_8 : Int) (a0_9 : Int) (a0_10 : Int) (a0_11 : Int) (a1_1 : List AV) : Option Res := evalK G run n f9_info.keep 0 f9_info.body (retE G f9_info) (f9_info.start [.agg [.agg [.int a0_1, .blob a0_2, .blob a0_3, .int a0_4], .blob a0_5, .int a0_6, .int a0_7, .int a0_8, .int a0_9, .int a0_10, .int a0_11], .slice a1_1])
theorem f9_eq (run : Run) (n : Nat) (a0_1 : Int) (a0_2 : List UInt8) (a0_3 : List UInt8) (a0_4 : Int) (a0_5 : List UInt8) (a0_6 : Int) (a0_7 : Int) (a0_8 : Int) (a0_9 : Int) (a0_10 : Int) (a0_11 : Int) (a1_1 : List AV) : f9 run n a0_1 a0_2 a0_3 a0_4 a0_5 a0_6 a0_7 a0_8 a0_9 a0_10 a0_11 a1_1 =
  (run 34 [.agg [.int a0_1, .blob a0_2, .blob a0_3, .int a0_4], .slice a1_1]).bind fun r1 =>
    nilV r1.outs (consV r1.vals fun v1 vs1 =>
    nilV vs1 (bif !(eqI v1.toInt 0) then
    some ⟨[.agg [.int v1.toInt, .int 0]], [], f9_fresh⟩
  else
    (run 35 [.agg [.agg [.int a0_1, .blob a0_2, .blob a0_3, .int a0_4], .blob a0_5, .int a0_6, .int a0_7, .int a0_8, .int a0_9, .int a0_10, .int a0_11], .slice a1_1]).bind fun r2 =>
    bif r2.fresh then
    nilV r2.outs (consV r2.vals fun v2 vs2 =>
    nilV vs2 (f9_l0 run n n a1_1 a0_1 a0_2 a0_3 a0_4 a0_5 a0_6 a0_7 a0_8 a0_9 a0_10 a0_11 v2.toSlice (a1_1.length : Int) 0 0 0))
  else none)) := by kernel_rfl
theorem f9_run (ext : Run) (n : Nat) (a0_1 : Int) (a0_2 : List UInt8) (a0_3 : List UInt8) (a0_4 : Int) (a0_5 : List UInt8) (a0_6 : Int) (a0_7 : Int) (a0_8 : Int) (a0_9 : Int) (a0_10 : Int) (a0_11 : Int) (a1_1 : List AV) : runE G ext (n + 1) 9 [.agg [.agg [.int a0_1, .blob a0_2, .blob a0_3, .int a0_4], .blob a0_5, .int a0_6, .int a0_7, .int a0_8, .int a0_9, .int a0_10, .int a0_11], .slice a1_1] = f9 (runE G ext n) n a0_1 a0_2 a0_3 a0_4 a0_5 a0_6 a0_7 a0_8 a0_9 a0_10 a0_11 a1_1 := runE_succ f9_at f9_in

noncomputable def f11_l0 (run : Run) (n : Nat) (k0 : Nat) (x2_1 : Int) (o1_1 : List UInt8) : Option Res :=
  iterK (evalK G run n f11_keep 0 (sub [1, 1, 0, 1, 0, 0] f11_body)) f11_t0 f11_o0 (blockK 0 (seqK (evalK G run n f11_keep 0 (sub [1, 1, 1] f11_body) (retE G f11_info)) (retE G f11_info))) k0
    ⟨[.any, .ptr ⟨(.blob 32), 1, 1, []⟩, .val (.int .i64) none (.int x2_1), .any, .any, .any, .any, .any, .any, .any, .any, .any, .any, .any, .any, .any, .any, .any, .any, .any, .any, .any, .any, .any, .any, .any, .any, .any, .any], [⟨0, none⟩, ⟨1, some ⟨(.blob 32), .blob o1_1⟩⟩, ⟨0, none⟩, ⟨0, none⟩, ⟨0, none⟩, ⟨0, none⟩, ⟨0, none⟩, ⟨0, none⟩, ⟨0, none⟩, ⟨0, none⟩, ⟨0, none⟩, ⟨0, none⟩, ⟨0, none⟩, ⟨0, none⟩, ⟨0, none⟩, ⟨0, none⟩, ⟨0, none⟩, ⟨0, none⟩, ⟨0, none⟩, ⟨0, none⟩, ⟨0, none⟩, ⟨0, none⟩, ⟨0, none⟩, ⟨0, none⟩, ⟨0, none⟩, ⟨0, none⟩, ⟨0, none⟩, ⟨0, none⟩, ⟨0, none⟩], List.replicate 29 0⟩
theorem f11_l0_eq (run : Run) (n : Nat) (k0 : Nat) (x2_1 : Int) (o1_1 : List UInt8) : f11_l0 run n (k0 + 1) x2_1 o1_1 =
  bif ltI x2_1 32 then
    bif inR x2_1 32 then
    f11_l0 run n k0 (IntKind.wrap .i64 (x2_1 + 1)) (o1_1.set (Int.toNat x2_1) (UInt8.ofNat (Int.toNat 255)))
  else none
  else
    (run 9 [.agg [.agg [.int 0, .blob (List.replicate 32 0), .blob (List.replicate 32 0), .int 0], .blob (List.replicate 32 0), .int 0, .int 0, .int 0, .int 0, .int 0, .int 0], .slice []]).bind fun r1 =>
    nilV r1.outs (consV r1.vals fun v1 vs1 =>
    nilV vs1 (bif (eqI ((v1.fld 0).toInt) 6 && (eqI ((v1.fld 1).toInt) 0 && true)) then
    (run 9 [.agg [.agg [.int 0, .blob (List.replicate 32 0), .blob (List.replicate 32 0), .int 0], .blob o1_1, .int 0, .int 0, .int 0, .int 0, .int 0, .int 0], .slice (List.replicate 1 (.agg [.agg [.int 0, .blob (List.replicate 32 0), .blob (List.replicate 32 0), .int 0], .agg [.int 0, .int 0, .slice []]]))]).bind fun r2 =>
    nilV r2.outs (consV r2.vals fun v2 vs2 =>
    nilV vs2 (bif (eqI ((v2.fld 0).toInt) 0 && (eqI ((v2.fld 1).toInt) 0 && true)) then
    (run 9 [.agg [.agg [.int 0, .blob (List.replicate 32 0), .blob (List.replicate 32 0), .int 0], .blob o1_1, .int 0, .int 1, .int 0, .int 0, .int 0, .int 0], .slice (List.replicate 1 (.agg [.agg [.int 0, .blob (List.replicate 32 0), .blob (List.replicate 32 0), .int 0], .agg [.int 0, .int 0, .slice []]]))]).bind fun r3 =>
    nilV r3.outs (consV r3.vals fun v3 vs3 =>
    nilV vs3 (some ⟨[.bool (eqI ((v3.fld 0).toInt) 11 && (eqI ((v3.fld 1).toInt) 1 && true))], [], f11_fresh⟩))
  else
    some ⟨[.bool false], [], f11_fresh⟩))
  else
    some ⟨[.bool false], [], f11_fresh⟩)) := by kernel_rfl
noncomputable def f11 (run : Run) (n : Nat) : Option Res := evalK G run n f11_info.keep 0 f11_info.body (retE G f11_info) (f11_info.start [])
theorem f11_eq (run : Run) (n : Nat) : f11 run n  =
  f11_l0 run n n 0 (List.replicate 32 0) := by kernel_rfl
theorem f11_run (ext : Run) (n : Nat) : runE G ext (n + 1) 11 [] = f11 (runE G ext n) n  := runE_succ f11_at f11_in

noncomputable def f37 (run : Run) (n : Nat) (a0_1 : Int) (a0_2 : List UInt8) (a0_3 : List UInt8) (a0_4 : Int) (a1_1 : List AV) : Option Res := evalK G run n f37_info.keep 0 f37_info.body (retE G f37_info) (f37_info.start [.agg [.int a0_1, .blob a0_2, .blob a0_3, .int a0_4], .slice a1_1])
theorem f37_eq (run : Run) (n : Nat) (a0_1 : Int) (a0_2 : List UInt8) (a0_3 : List UInt8) (a0_4 : Int) (a1_1 : List AV) : f37 run n a0_1 a0_2 a0_3 a0_4 a1_1 =
  bif eqI (a1_1.length : Int) 0 then
    some ⟨[.int 6], [], f37_fresh⟩
  else
    bif inR 0 a1_1.length then
    bif !(eqI ((((nth a1_1 0).fld 0).fld 0).toInt) a0_1 && (eqS ((((nth a1_1 0).fld 0).fld 1).toBlob) a0_2 && (eqS ((((nth a1_1 0).fld 0).fld 2).toBlob) a0_3 && (eqI ((((nth a1_1 0).fld 0).fld 3).toInt) a0_4 && true)))) then
    some ⟨[.int 7], [], f37_fresh⟩
  else
    bif inR 0 a1_1.length then
    bif !(eqI ((((nth a1_1 0).fld 1).fld 1).toInt) 0) then
    some ⟨[.int 2], [], f37_fresh⟩
  else
    bif !(eqI ((((nth a1_1 0).fld 1).fld 0).toInt) 0) then
    some ⟨[.int 2], [], f37_fresh⟩
  else
    bif ltI 0 (((((nth a1_1 0).fld 1).fld 2).toSlice).length : Int) then
    some ⟨[.int 2], [], f37_fresh⟩
  else
    some ⟨[.int 0], [], f37_fresh⟩
  else none
  else none := by kernel_rfl
theorem f37_run (ext : Run) (n : Nat) (a0_1 : Int) (a0_2 : List UInt8) (a0_3 : List UInt8) (a0_4 : Int) (a1_1 : List AV) : runE G ext (n + 1) 37 [.agg [.int a0_1, .blob a0_2, .blob a0_3, .int a0_4], .slice a1_1] = f37 (runE G ext n) n a0_1 a0_2 a0_3 a0_4 a1_1 := runE_succ f37_at f37_in

noncomputable def f103 (run : Run) (n : Nat) (a0_1 : Int) : Option Res := evalK G run n f103_info.keep 0 f103_info.body (retE G f103_info) (f103_info.start [.int a0_1])
theorem f103_eq (run : Run) (n : Nat) (a0_1 : Int) : f103 run n a0_1 =
  some ⟨[.str (bytesOf [.int (IntKind.wrap .u8 a0_1)])], [], f103_fresh⟩ := by kernel_rfl
theorem f103_run (ext : Run) (n : Nat) (a0_1 : Int) : runE G ext (n + 1) 103 [.int a0_1] = f103 (runE G ext n) n a0_1 := runE_succ f103_at f103_in

noncomputable def f102_l0 (run : Run) (n : Nat) (k0 : Nat) (x0_1 : Int) (x1_1 : Int) (x5_1 : List UInt8) (x6_1 : Int) : Option Res :=
  iterK (evalK G run n f102_keep 0 (sub [1, 1, 0, 1, 0, 0] f102_body)) f102_t0 f102_o0 (blockK 0 (seqK (evalK G run n f102_keep 0 (sub [1, 1, 1] f102_body) (retE G f102_info)) (retE G f102_info))) k0
    ⟨[.val (.int .u64) none (.int x0_1), .val (.int .i64) none (.int x1_1), .any, .any, .any, .val .str none (.str x5_1), .val (.int .i64) none (.int x6_1), .any, .any, .any, .any, .any, .any, .any, .any, .any, .any, .any, .any, .any, .any], [⟨0, none⟩, ⟨0, none⟩, ⟨0, none⟩, ⟨0, none⟩, ⟨0, none⟩, ⟨0, none⟩, ⟨0, none⟩, ⟨0, none⟩, ⟨0, none⟩, ⟨0, none⟩, ⟨0, none⟩, ⟨0, none⟩, ⟨0, none⟩, ⟨0, none⟩, ⟨0, none⟩, ⟨0, none⟩, ⟨0, none⟩, ⟨0, none⟩, ⟨0, none⟩, ⟨0, none⟩, ⟨0, none⟩], List.replicate 21 0⟩
theorem f102_l0_eq (run : Run) (n : Nat) (k0 : Nat) (x0_1 : Int) (x1_1 : Int) (x5_1 : List UInt8) (x6_1 : Int) : f102_l0 run n (k0 + 1) x0_1 x1_1 x5_1 x6_1 =
  bif ltI x6_1 x1_1 then
    (run 103 [.int (IntKind.wrap .i64 (Int.tmod x0_1 256))]).bind fun r1 =>
    nilV r1.outs (consV r1.vals fun v1 vs1 =>
    nilV vs1 (bif Nat.ble (v1.toStr.length + x5_1.length) maxLen then
    f102_l0 run n k0 (IntKind.wrap .u64 (Int.tdiv x0_1 256)) x1_1 (v1.toStr ++ x5_1) (IntKind.wrap .i64 (x6_1 + 1))
  else none))
  else
    some ⟨[.str x5_1], [], f102_fresh⟩ := by kernel_rfl
noncomputable def f102 (run : Run) (n : Nat) (a0_1 : Int) (a1_1 : Int) : Option Res := evalK G run n f102_info.keep 0 f102_info.body (retE G f102_info) (f102_info.start [.int a0_1, .int a1_1])
theorem f102_eq (run : Run) (n : Nat) (a0_1 : Int) (a1_1 : Int) : f102 run n a0_1 a1_1 =
  f102_l0 run n n a0_1 a1_1 [] 0 := by kernel_rfl
theorem f102_run (ext : Run) (n : Nat) (a0_1 : Int) (a1_1 : Int) : runE G ext (n + 1) 102 [.int a0_1, .int a1_1] = f102 (runE G ext n) n a0_1 a1_1 := runE_succ f102_at f102_in

noncomputable def f104_l0 (run : Run) (n : Nat) (k0 : Nat) (x4_1 : Int) (o1_1 : List UInt8) (o5_1 : List AV) : Option Res :=
  iterK (evalK G run n f104_keep 0 (sub [1, 1, 0, 1, 0, 0] f104_body)) f104_t0 f104_o0 (blockK 0 (seqK (evalK G run n f104_keep 0 (sub [1, 1, 1] f104_body) (retE G f104_info)) (retE G f104_info))) k0
    ⟨[.any, .ptr ⟨(.blob 32), 1, 1, []⟩, .any, .ref ⟨(.arr 32 (.int .u8)), 5, 1, []⟩ 0 32, .val (.int .i64) none (.int x4_1), .any, .any, .any, .any, .any, .any, .any, .any, .any, .any, .any, .any, .any], [⟨0, none⟩, ⟨1, some ⟨(.blob 32), .blob o1_1⟩⟩, ⟨0, none⟩, ⟨0, none⟩, ⟨0, none⟩, ⟨1, some ⟨(.arr 32 (.int .u8)), .agg o5_1⟩⟩, ⟨0, none⟩, ⟨0, none⟩, ⟨0, none⟩, ⟨0, none⟩, ⟨0, none⟩, ⟨0, none⟩, ⟨0, none⟩, ⟨0, none⟩, ⟨0, none⟩, ⟨0, none⟩, ⟨0, none⟩, ⟨0, none⟩], List.replicate 18 0⟩
theorem f104_l0_eq (run : Run) (n : Nat) (k0 : Nat) (x4_1 : Int) (o1_1 : List UInt8) (o5_1 : List AV) : f104_l0 run n (k0 + 1) x4_1 o1_1 o5_1 =
  bif ltI x4_1 32 then
    bif inR x4_1 32 then
    bif inR x4_1 32 then
    f104_l0 run n k0 (IntKind.wrap .i64 (x4_1 + 1)) o1_1 (o5_1.set (0 + (Int.toNat x4_1)) (.int (((o1_1).getD (Int.toNat x4_1) 0).toNat : Int)))
  else none
  else none
  else
    some ⟨[.str (bytesOf (List.drop 0 (List.take 32 o5_1)))], [], f104_fresh⟩ := by kernel_rfl
noncomputable def f104 (run : Run) (n : Nat) (a0_1 : List UInt8) : Option Res := evalK G run n f104_info.keep 0 f104_info.body (retE G f104_info) (f104_info.start [.blob a0_1])
theorem f104_eq (run : Run) (n : Nat) (a0_1 : List UInt8) : f104 run n a0_1 =
  f104_l0 run n n 0 a0_1 (List.replicate 32 (.int 0)) := by kernel_rfl
theorem f104_run (ext : Run) (n : Nat) (a0_1 : List UInt8) : runE G ext (n + 1) 104 [.blob a0_1] = f104 (runE G ext n) n a0_1 := runE_succ f104_at f104_in

noncomputable def f73 (run : Run) (n : Nat) (a0_1 : Int) (a0_2 : List UInt8) (a0_3 : List UInt8) (a0_4 : Int) : Option Res := evalK G run n f73_info.keep 0 f73_info.body (retE G f73_info) (f73_info.start [.agg [.int a0_1, .blob a0_2, .blob a0_3, .int a0_4]])
theorem f73_eq (run : Run) (n : Nat) (a0_1 : Int) (a0_2 : List UInt8) (a0_3 : List UInt8) (a0_4 : Int) : f73 run n a0_1 a0_2 a0_3 a0_4 =
  (run 102 [.int (IntKind.wrap .u64 a0_1), .int 4]).bind fun r1 =>
    nilV r1.outs (consV r1.vals fun v1 vs1 =>
    nilV vs1 ((run 104 [.blob a0_2]).bind fun r2 =>
    nilV r2.outs (consV r2.vals fun v2 vs2 =>
    nilV vs2 (bif Nat.ble (v1.toStr.length + v2.toStr.length) maxLen then
    (run 104 [.blob a0_3]).bind fun r3 =>
    nilV r3.outs (consV r3.vals fun v3 vs3 =>
    nilV vs3 (bif Nat.ble ((v1.toStr ++ v2.toStr).length + v3.toStr.length) maxLen then
    (run 102 [.int a0_4, .int 8]).bind fun r4 =>
    nilV r4.outs (consV r4.vals fun v4 vs4 =>
    nilV vs4 (bif Nat.ble (((v1.toStr ++ v2.toStr) ++ v3.toStr).length + v4.toStr.length) maxLen then
    some ⟨[.str (((v1.toStr ++ v2.toStr) ++ v3.toStr) ++ v4.toStr)], [], f73_fresh⟩
  else none))
  else none))
  else none)))) := by kernel_rfl
theorem f73_run (ext : Run) (n : Nat) (a0_1 : Int) (a0_2 : List UInt8) (a0_3 : List UInt8) (a0_4 : Int) : runE G ext (n + 1) 73 [.agg [.int a0_1, .blob a0_2, .blob a0_3, .int a0_4]] = f73 (runE G ext n) n a0_1 a0_2 a0_3 a0_4 := runE_succ f73_at f73_in

noncomputable def f72 (run : Run) (n : Nat) (a0_1 : List UInt8) : Option Res := evalK G run n f72_info.keep 0 f72_info.body (retE G f72_info) (f72_info.start [.str a0_1])
theorem f72_eq (run : Run) (n : Nat) (a0_1 : List UInt8) : f72 run n a0_1 =
  (run 103 [.int 3]).bind fun r1 =>
    nilV r1.outs (consV r1.vals fun v1 vs1 =>
    nilV vs1 (bif Nat.ble (v1.toStr.length + a0_1.length) maxLen then
    some ⟨[.str (v1.toStr ++ a0_1)], [], f72_fresh⟩
  else none)) := by kernel_rfl
theorem f72_run (ext : Run) (n : Nat) (a0_1 : List UInt8) : runE G ext (n + 1) 72 [.str a0_1] = f72 (runE G ext n) n a0_1 := runE_succ f72_at f72_in

noncomputable def f99 (run : Run) (n : Nat) : Option Res := evalK G run n f99_info.keep 0 f99_info.body (retE G f99_info) (f99_info.start [])
theorem f99_eq (run : Run) (n : Nat) : f99 run n  =
  some ⟨[.agg [.int 1779033703, .int 3144134277, .int 1013904242, .int 2773480762, .int 1359893119, .int 2600822924, .int 528734635, .int 1541459225]], [], f99_fresh⟩ := by kernel_rfl
theorem f99_run (ext : Run) (n : Nat) : runE G ext (n + 1) 99 [] = f99 (runE G ext n) n  := runE_succ f99_at f99_in

noncomputable def f100_l0 (run : Run) (n : Nat) (k0 : Nat) (x0_1 : Int) (x3_1 : List UInt8) : Option Res :=
  iterK (evalK G run n f100_keep 0 (sub [1, 1, 0, 0, 0] f100_body)) f100_t0 f100_o0 (blockK 0 (seqK (evalK G run n f100_keep 0 (sub [1, 1, 1] f100_body) (retE G f100_info)) (retE G f100_info))) k0
    ⟨[.val (.int .u64) none (.int x0_1), .any, .any, .val .str none (.str x3_1), .any, .any, .any, .any, .any, .any, .any, .any, .any, .any, .any, .any, .any, .any, .any, .any, .any, .any], [⟨0, none⟩, ⟨0, none⟩, ⟨0, none⟩, ⟨0, none⟩, ⟨0, none⟩, ⟨0, none⟩, ⟨0, none⟩, ⟨0, none⟩, ⟨0, none⟩, ⟨0, none⟩, ⟨0, none⟩, ⟨0, none⟩, ⟨0, none⟩, ⟨0, none⟩, ⟨0, none⟩, ⟨0, none⟩, ⟨0, none⟩, ⟨0, none⟩, ⟨0, none⟩, ⟨0, none⟩, ⟨0, none⟩, ⟨0, none⟩], List.replicate 22 0⟩
theorem f100_l0_eq (run : Run) (n : Nat) (k0 : Nat) (x0_1 : Int) (x3_1 : List UInt8) : f100_l0 run n (k0 + 1) x0_1 x3_1 =
  bif !(eqI (Int.tmod (IntKind.wrap .u64 (IntKind.wrap .u64 (Int.tmod x0_1 64 + IntKind.wrap .u64 (x3_1.length : Int)) + 8)) 64) 0) then
    (run 103 [.int 0]).bind fun r2 =>
    nilV r2.outs (consV r2.vals fun v2 vs2 =>
    nilV vs2 (bif Nat.ble (x3_1.length + v2.toStr.length) maxLen then
    f100_l0 run n k0 x0_1 (x3_1 ++ v2.toStr)
  else none))
  else
    (run 102 [.int (IntKind.wrap .u64 (x0_1 * 8)), .int 8]).bind fun r3 =>
    nilV r3.outs (consV r3.vals fun v3 vs3 =>
    nilV vs3 (bif Nat.ble (x3_1.length + v3.toStr.length) maxLen then
    some ⟨[.str (x3_1 ++ v3.toStr)], [], f100_fresh⟩
  else none)) := by kernel_rfl
noncomputable def f100 (run : Run) (n : Nat) (a0_1 : Int) : Option Res := evalK G run n f100_info.keep 0 f100_info.body (retE G f100_info) (f100_info.start [.int a0_1])
theorem f100_eq (run : Run) (n : Nat) (a0_1 : Int) : f100 run n a0_1 =
  (run 103 [.int 128]).bind fun r1 =>
    nilV r1.outs (consV r1.vals fun v1 vs1 =>
    nilV vs1 (f100_l0 run n n a0_1 v1.toStr)) := by kernel_rfl
theorem f100_run (ext : Run) (n : Nat) (a0_1 : Int) : runE G ext (n + 1) 100 [.int a0_1] = f100 (runE G ext n) n a0_1 := runE_succ f100_at f100_in

noncomputable def f143_l0 (run : Run) (n : Nat) (k0 : Nat) (x0_1 : List UInt8) (x1_1 : Int) (x2_1 : Int) (x7_1 : Int) (x8_1 : Int) : Option Res :=
  iterK (evalK G run n f143_keep 0 (sub [1, 1, 0, 1, 0, 0] f143_body)) f143_t0 f143_o0 (blockK 0 (seqK (evalK G run n f143_keep 0 (sub [1, 1, 1] f143_body) (retE G f143_info)) (retE G f143_info))) k0
    ⟨[.val .str none (.str x0_1), .val (.int .i64) none (.int x1_1), .val (.int .i64) none (.int x2_1), .any, .any, .any, .any, .val (.int .u64) none (.int x7_1), .val (.int .i64) none (.int x8_1), .any, .any, .any, .any, .any, .any, .any, .any, .any, .any, .any, .any, .any, .any, .any, .any, .any, .any, .any, .any, .any, .any, .any, .any, .any, .any, .any, .any, .any, .any, .any, .any], [⟨0, none⟩, ⟨0, none⟩, ⟨0, none⟩, ⟨0, none⟩, ⟨0, none⟩, ⟨0, none⟩, ⟨0, none⟩, ⟨0, none⟩, ⟨0, none⟩, ⟨0, none⟩, ⟨0, none⟩, ⟨0, none⟩, ⟨0, none⟩, ⟨0, none⟩, ⟨0, none⟩, ⟨0, none⟩, ⟨0, none⟩, ⟨0, none⟩, ⟨0, none⟩, ⟨0, none⟩, ⟨0, none⟩, ⟨0, none⟩, ⟨0, none⟩, ⟨0, none⟩, ⟨0, none⟩, ⟨0, none⟩, ⟨0, none⟩, ⟨0, none⟩, ⟨0, none⟩, ⟨0, none⟩, ⟨0, none⟩, ⟨0, none⟩, ⟨0, none⟩, ⟨0, none⟩, ⟨0, none⟩, ⟨0, none⟩, ⟨0, none⟩, ⟨0, none⟩, ⟨0, none⟩, ⟨0, none⟩, ⟨0, none⟩], List.replicate 41 0⟩
theorem f143_l0_eq (run : Run) (n : Nat) (k0 : Nat) (x0_1 : List UInt8) (x1_1 : Int) (x2_1 : Int) (x7_1 : Int) (x8_1 : Int) : f143_l0 run n (k0 + 1) x0_1 x1_1 x2_1 x7_1 x8_1 =
  bif ltI x8_1 x2_1 then
    bif leI 0 x1_1 then
    bif ltI x1_1 (x0_1.length : Int) then
    bif ltI x8_1 (IntKind.wrap .i64 ((x0_1.length : Int) - x1_1)) then
    bif inR (IntKind.wrap .i64 (x1_1 + x8_1)) x0_1.length then
    f143_l0 run n k0 x0_1 x1_1 x2_1 (IntKind.wrap .u64 (IntKind.wrap .u64 (x7_1 * 256) + IntKind.wrap .u64 ((x0_1.getD (Int.toNat (IntKind.wrap .i64 (x1_1 + x8_1))) 0).toNat : Int))) (IntKind.wrap .i64 (x8_1 + 1))
  else none
  else
    f143_l0 run n k0 x0_1 x1_1 x2_1 (IntKind.wrap .u64 (x7_1 * 256)) (IntKind.wrap .i64 (x8_1 + 1))
  else
    f143_l0 run n k0 x0_1 x1_1 x2_1 (IntKind.wrap .u64 (x7_1 * 256)) (IntKind.wrap .i64 (x8_1 + 1))
  else
    f143_l0 run n k0 x0_1 x1_1 x2_1 (IntKind.wrap .u64 (x7_1 * 256)) (IntKind.wrap .i64 (x8_1 + 1))
  else
    some ⟨[.int x7_1], [], f143_fresh⟩ := by kernel_rfl
noncomputable def f143 (run : Run) (n : Nat) (a0_1 : List UInt8) (a1_1 : Int) (a2_1 : Int) : Option Res := evalK G run n f143_info.keep 0 f143_info.body (retE G f143_info) (f143_info.start [.str a0_1, .int a1_1, .int a2_1])
theorem f143_eq (run : Run) (n : Nat) (a0_1 : List UInt8) (a1_1 : Int) (a2_1 : Int) : f143 run n a0_1 a1_1 a2_1 =
  f143_l0 run n n a0_1 a1_1 a2_1 0 0 := by kernel_rfl
theorem f143_run (ext : Run) (n : Nat) (a0_1 : List UInt8) (a1_1 : Int) (a2_1 : Int) : runE G ext (n + 1) 143 [.str a0_1, .int a1_1, .int a2_1] = f143 (runE G ext n) n a0_1 a1_1 a2_1 := runE_succ f143_at f143_in

noncomputable def f123 (run : Run) (n : Nat) (a0_1 : Int) (a1_1 : Int) : Option Res := evalK G run n f123_info.keep 0 f123_info.body (retE G f123_info) (f123_info.start [.int a0_1, .int a1_1])
theorem f123_eq (run : Run) (n : Nat) (a0_1 : Int) (a1_1 : Int) : f123 run n a0_1 a1_1 =
  bif leI 0 a1_1 then
    bif leI 0 (IntKind.wrap .u64 (32 - a1_1)) then
    some ⟨[.int (IntKind.wrap .u32 (Int.fdiv a0_1 (2 ^ (min (Int.toNat a1_1) 32)) + IntKind.wrap .u32 (a0_1 * 2 ^ (min (Int.toNat (IntKind.wrap .u64 (32 - a1_1))) 32))))], [], f123_fresh⟩
  else none
  else none := by kernel_rfl
theorem f123_run (ext : Run) (n : Nat) (a0_1 : Int) (a1_1 : Int) : runE G ext (n + 1) 123 [.int a0_1, .int a1_1] = f123 (runE G ext n) n a0_1 a1_1 := runE_succ f123_at f123_in

noncomputable def f122_l2 (run : Run) (n : Nat) (_k0 : Nat) (k2 : Nat) (x5_1 : Int) (o2_3 : List AV) (o3_3 : List AV) : Option Res :=
  iterK (evalK G run n f122_keep 2 (sub [1, 1, 1, 0, 1, 0, 0] f122_body)) f122_t2 f122_o2 (blockK 2 (seqK (evalK G run n f122_keep 0 (sub [1, 1, 1, 1] f122_body) (retE G f122_info)) (retE G f122_info))) k2
    ⟨[.any, .any, .ptr ⟨(.arr 64 (.int .u32)), 2, 1, []⟩, .ptr ⟨(.arr 64 (.int .u32)), 3, 1, []⟩, .any, .val (.int .i64) none (.int x5_1), .any, .any, .any, .any, .any, .any, .any, .any, .any, .any, .any, .any, .any, .any, .any, .any, .any, .any, .any, .any, .any, .any, .any, .any, .any, .any, .any, .any, .any, .any, .any, .any, .any, .any, .any, .any, .any, .any, .any, .any, .any, .any, .any, .any, .any, .any, .any, .any, .any, .any, .any, .any, .any, .any, .any], [⟨0, none⟩, ⟨0, none⟩, ⟨1, some ⟨(.arr 64 (.int .u32)), .agg o2_3⟩⟩, ⟨1, some ⟨(.arr 64 (.int .u32)), .agg o3_3⟩⟩, ⟨0, none⟩, ⟨0, none⟩, ⟨0, none⟩, ⟨0, none⟩, ⟨0, none⟩, ⟨0, none⟩, ⟨0, none⟩, ⟨0, none⟩, ⟨0, none⟩, ⟨0, none⟩, ⟨0, none⟩, ⟨0, none⟩, ⟨0, none⟩, ⟨0, none⟩, ⟨0, none⟩, ⟨0, none⟩, ⟨0, none⟩, ⟨0, none⟩, ⟨0, none⟩, ⟨0, none⟩, ⟨0, none⟩, ⟨0, none⟩, ⟨0, none⟩, ⟨0, none⟩, ⟨0, none⟩, ⟨0, none⟩, ⟨0, none⟩, ⟨0, none⟩, ⟨0, none⟩, ⟨0, none⟩, ⟨0, none⟩, ⟨0, none⟩, ⟨0, none⟩, ⟨0, none⟩, ⟨0, none⟩, ⟨0, none⟩, ⟨0, none⟩, ⟨0, none⟩, ⟨0, none⟩, ⟨0, none⟩, ⟨0, none⟩, ⟨0, none⟩, ⟨0, none⟩, ⟨0, none⟩, ⟨0, none⟩, ⟨0, none⟩, ⟨0, none⟩, ⟨0, none⟩, ⟨0, none⟩, ⟨0, none⟩, ⟨0, none⟩, ⟨0, none⟩, ⟨0, none⟩, ⟨0, none⟩, ⟨0, none⟩, ⟨0, none⟩, ⟨0, none⟩], List.replicate 61 0⟩
noncomputable def f122_l0 (run : Run) (n : Nat) (k0 : Nat) (x0_1 : List UInt8) (x4_1 : Int) (o2_1 : List AV) (o3_1 : List AV) : Option Res :=
  iterK (evalK G run n f122_keep 0 (sub [1, 1, 0, 1, 0, 0] f122_body)) f122_t0 f122_o0 (blockK 0 (seqK (evalK G run n f122_keep 0 (sub [1, 1, 1] f122_body) (retE G f122_info)) (retE G f122_info))) k0
    ⟨[.val .str none (.str x0_1), .any, .ptr ⟨(.arr 64 (.int .u32)), 2, 1, []⟩, .ptr ⟨(.arr 64 (.int .u32)), 3, 1, []⟩, .val (.int .i64) none (.int x4_1), .any, .any, .any, .any, .any, .any, .any, .any, .any, .any, .any, .any, .any, .any, .any, .any, .any, .any, .any, .any, .any, .any, .any, .any, .any, .any, .any, .any, .any, .any, .any, .any, .any, .any, .any, .any, .any, .any, .any, .any, .any, .any, .any, .any, .any, .any, .any, .any, .any, .any, .any, .any, .any, .any, .any, .any], [⟨0, none⟩, ⟨0, none⟩, ⟨1, some ⟨(.arr 64 (.int .u32)), .agg o2_1⟩⟩, ⟨1, some ⟨(.arr 64 (.int .u32)), .agg o3_1⟩⟩, ⟨0, none⟩, ⟨0, none⟩, ⟨0, none⟩, ⟨0, none⟩, ⟨0, none⟩, ⟨0, none⟩, ⟨0, none⟩, ⟨0, none⟩, ⟨0, none⟩, ⟨0, none⟩, ⟨0, none⟩, ⟨0, none⟩, ⟨0, none⟩, ⟨0, none⟩, ⟨0, none⟩, ⟨0, none⟩, ⟨0, none⟩, ⟨0, none⟩, ⟨0, none⟩, ⟨0, none⟩, ⟨0, none⟩, ⟨0, none⟩, ⟨0, none⟩, ⟨0, none⟩, ⟨0, none⟩, ⟨0, none⟩, ⟨0, none⟩, ⟨0, none⟩, ⟨0, none⟩, ⟨0, none⟩, ⟨0, none⟩, ⟨0, none⟩, ⟨0, none⟩, ⟨0, none⟩, ⟨0, none⟩, ⟨0, none⟩, ⟨0, none⟩, ⟨0, none⟩, ⟨0, none⟩, ⟨0, none⟩, ⟨0, none⟩, ⟨0, none⟩, ⟨0, none⟩, ⟨0, none⟩, ⟨0, none⟩, ⟨0, none⟩, ⟨0, none⟩, ⟨0, none⟩, ⟨0, none⟩, ⟨0, none⟩, ⟨0, none⟩, ⟨0, none⟩, ⟨0, none⟩, ⟨0, none⟩, ⟨0, none⟩, ⟨0, none⟩, ⟨0, none⟩], List.replicate 61 0⟩
theorem f122_l2_eq (run : Run) (n : Nat) (k0 : Nat) (k2 : Nat) (x5_1 : Int) (o2_3 : List AV) (o3_3 : List AV) : f122_l2 run n k0 (k2 + 1) x5_1 o2_3 o3_3 =
  bif ltI x5_1 64 then
    bif inR (IntKind.wrap .i64 (x5_1 - 15)) 64 then
    bif inR (IntKind.wrap .i64 (x5_1 - 2)) 64 then
    bif inR (IntKind.wrap .i64 (x5_1 - 16)) 64 then
    (run 123 [.int ((AV.fld (.agg o3_3) (Int.toNat (IntKind.wrap .i64 (x5_1 - 15)))).toInt), .int 7]).bind fun r2 =>
    nilV r2.outs (consV r2.vals fun v2 vs2 =>
    nilV vs2 ((run 123 [.int ((AV.fld (.agg o3_3) (Int.toNat (IntKind.wrap .i64 (x5_1 - 15)))).toInt), .int 18]).bind fun r3 =>
    nilV r3.outs (consV r3.vals fun v3 vs3 =>
    nilV vs3 (bif inR (IntKind.wrap .i64 (x5_1 - 7)) 64 then
    (run 123 [.int ((AV.fld (.agg o3_3) (Int.toNat (IntKind.wrap .i64 (x5_1 - 2)))).toInt), .int 17]).bind fun r4 =>
    nilV r4.outs (consV r4.vals fun v4 vs4 =>
    nilV vs4 ((run 123 [.int ((AV.fld (.agg o3_3) (Int.toNat (IntKind.wrap .i64 (x5_1 - 2)))).toInt), .int 19]).bind fun r5 =>
    nilV r5.outs (consV r5.vals fun v5 vs5 =>
    nilV vs5 (bif inR x5_1 64 then
    f122_l2 run n k0 k2 (IntKind.wrap .i64 (x5_1 + 1)) o2_3 (o3_3.set (Int.toNat x5_1) (.int (IntKind.wrap .u32 (IntKind.wrap .u32 (IntKind.wrap .u32 ((AV.fld (.agg o3_3) (Int.toNat (IntKind.wrap .i64 (x5_1 - 16)))).toInt + IntKind.wrap .u32 (BitVec.toNat (BitVec.ofInt 32 (IntKind.wrap .u32 (BitVec.toNat (BitVec.ofInt 32 v2.toInt ^^^ BitVec.ofInt 32 v3.toInt))) ^^^ BitVec.ofInt 32 (Int.fdiv ((AV.fld (.agg o3_3) (Int.toNat (IntKind.wrap .i64 (x5_1 - 15)))).toInt) (2 ^ 3))))) + (AV.fld (.agg o3_3) (Int.toNat (IntKind.wrap .i64 (x5_1 - 7)))).toInt) + IntKind.wrap .u32 (BitVec.toNat (BitVec.ofInt 32 (IntKind.wrap .u32 (BitVec.toNat (BitVec.ofInt 32 v4.toInt ^^^ BitVec.ofInt 32 v5.toInt))) ^^^ BitVec.ofInt 32 (Int.fdiv ((AV.fld (.agg o3_3) (Int.toNat (IntKind.wrap .i64 (x5_1 - 2)))).toInt) (2 ^ 10))))))))
  else none))))
  else none))))
  else none
  else none
  else none
  else
    some ⟨[.agg o3_3], [], f122_fresh⟩ := by kernel_rfl
theorem f122_l0_eq (run : Run) (n : Nat) (k0 : Nat) (x0_1 : List UInt8) (x4_1 : Int) (o2_1 : List AV) (o3_1 : List AV) : f122_l0 run n (k0 + 1) x0_1 x4_1 o2_1 o3_1 =
  bif ltI x4_1 16 then
    (run 143 [.str x0_1, .int (IntKind.wrap .i64 (4 * x4_1)), .int 4]).bind fun r1 =>
    nilV r1.outs (consV r1.vals fun v1 vs1 =>
    nilV vs1 (bif inR x4_1 64 then
    f122_l0 run n k0 x0_1 (IntKind.wrap .i64 (x4_1 + 1)) o2_1 (o3_1.set (Int.toNat x4_1) (.int (IntKind.wrap .u32 v1.toInt)))
  else none))
  else
    f122_l2 run n k0 n 16 o2_1 o3_1 := by kernel_rfl
noncomputable def f122 (run : Run) (n : Nat) (a0_1 : List UInt8) : Option Res := evalK G run n f122_info.keep 0 f122_info.body (retE G f122_info) (f122_info.start [.str a0_1])
theorem f122_eq (run : Run) (n : Nat) (a0_1 : List UInt8) : f122 run n a0_1 =
  f122_l0 run n n a0_1 0 (List.replicate 64 (.int 0)) (List.replicate 64 (.int 0)) := by kernel_rfl
theorem f122_run (ext : Run) (n : Nat) (a0_1 : List UInt8) : runE G ext (n + 1) 122 [.str a0_1] = f122 (runE G ext n) n a0_1 := runE_succ f122_at f122_in

noncomputable def f124 (run : Run) (n : Nat) (a0_1 : Int) : Option Res := evalK G run n f124_info.keep 0 f124_info.body (retE G f124_info) (f124_info.start [.int a0_1])
theorem f124_eq (run : Run) (n : Nat) (a0_1 : Int) : f124 run n a0_1 =
  bif inR a0_1 64 then
    some ⟨[.int ((nth [.int 1116352408, .int 1899447441, .int 3049323471, .int 3921009573, .int 961987163, .int 1508970993, .int 2453635748, .int 2870763221, .int 3624381080, .int 310598401, .int 607225278, .int 1426881987, .int 1925078388, .int 2162078206, .int 2614888103, .int 3248222580, .int 3835390401, .int 4022224774, .int 264347078, .int 604807628, .int 770255983, .int 1249150122, .int 1555081692, .int 1996064986, .int 2554220882, .int 2821834349, .int 2952996808, .int 3210313671, .int 3336571891, .int 3584528711, .int 113926993, .int 338241895, .int 666307205, .int 773529912, .int 1294757372, .int 1396182291, .int 1695183700, .int 1986661051, .int 2177026350, .int 2456956037, .int 2730485921, .int 2820302411, .int 3259730800, .int 3345764771, .int 3516065817, .int 3600352804, .int 4094571909, .int 275423344, .int 430227734, .int 506948616, .int 659060556, .int 883997877, .int 958139571, .int 1322822218, .int 1537002063, .int 1747873779, .int 1955562222, .int 2024104815, .int 2227730452, .int 2361852424, .int 2428436474, .int 2756734187, .int 3204031479, .int 3329325298] (Int.toNat a0_1)).toInt)], [], f124_fresh⟩
  else none := by kernel_rfl
theorem f124_run (ext : Run) (n : Nat) (a0_1 : Int) : runE G ext (n + 1) 124 [.int a0_1] = f124 (runE G ext n) n a0_1 := runE_succ f124_at f124_in

noncomputable def f101_l2 (run : Run) (n : Nat) (k0 : Nat) (k2 : Nat) (x7_2 : Int) (x10_1 : Int) (x11_1 : Int) (x12_1 : Int) (o2_2 : List AV) (o4_2 : List AV) (o5_2 : List AV) (o6_2 : List AV) : Option Res :=
  iterK (evalK G run n f101_keep 2 (sub [1, 1, 1, 0, 1, 0, 0, 1, 0, 0, 1, 1, 1, 1, 0, 1, 0, 0] f101_body)) f101_t2 f101_o2 (blockK 2 (seqK (evalK G run n f101_keep 1 (sub [1, 1, 1, 0, 1, 0, 0, 1, 0, 0, 1, 1, 1, 1, 1] f101_body) (blockK 1 (seqK (evalK G run n f101_keep 0 (sub [1, 1, 1, 0, 1, 0, 0, 1, 1] f101_body) (seqK (fun t => iterK (evalK G run n f101_keep 0 (sub [1, 1, 1, 0, 1, 0, 0] f101_body)) f101_t0 f101_o0 (blockK 0 (seqK (evalK G run n f101_keep 0 (sub [1, 1, 1, 1] f101_body) (retE G f101_info)) (retE G f101_info))) k0 (t.clear f101_t0 f101_o0)) (blockK 0 (seqK (evalK G run n f101_keep 0 (sub [1, 1, 1, 1] f101_body) (retE G f101_info)) (retE G f101_info))))) (seqK (fun t => iterK (evalK G run n f101_keep 0 (sub [1, 1, 1, 0, 1, 0, 0] f101_body)) f101_t0 f101_o0 (blockK 0 (seqK (evalK G run n f101_keep 0 (sub [1, 1, 1, 1] f101_body) (retE G f101_info)) (retE G f101_info))) k0 (t.clear f101_t0 f101_o0)) (blockK 0 (seqK (evalK G run n f101_keep 0 (sub [1, 1, 1, 1] f101_body) (retE G f101_info)) (retE G f101_info))))))) (blockK 1 (seqK (evalK G run n f101_keep 0 (sub [1, 1, 1, 0, 1, 0, 0, 1, 1] f101_body) (seqK (fun t => iterK (evalK G run n f101_keep 0 (sub [1, 1, 1, 0, 1, 0, 0] f101_body)) f101_t0 f101_o0 (blockK 0 (seqK (evalK G run n f101_keep 0 (sub [1, 1, 1, 1] f101_body) (retE G f101_info)) (retE G f101_info))) k0 (t.clear f101_t0 f101_o0)) (blockK 0 (seqK (evalK G run n f101_keep 0 (sub [1, 1, 1, 1] f101_body) (retE G f101_info)) (retE G f101_info))))) (seqK (fun t => iterK (evalK G run n f101_keep 0 (sub [1, 1, 1, 0, 1, 0, 0] f101_body)) f101_t0 f101_o0 (blockK 0 (seqK (evalK G run n f101_keep 0 (sub [1, 1, 1, 1] f101_body) (retE G f101_info)) (retE G f101_info))) k0 (t.clear f101_t0 f101_o0)) (blockK 0 (seqK (evalK G run n f101_keep 0 (sub [1, 1, 1, 1] f101_body) (retE G f101_info)) (retE G f101_info)))))))) k2
    ⟨[.any, .any, .ptr ⟨(.arr 8 (.int .u32)), 2, 1, []⟩, .any, .ptr ⟨(.arr 8 (.int .u32)), 4, 1, []⟩, .ptr ⟨(.arr 64 (.int .u32)), 5, 1, []⟩, .ptr ⟨(.arr 8 (.int .u32)), 6, 1, []⟩, .val (.int .i64) none (.int x7_2), .any, .any, .val (.int .u32) none (.int x10_1), .val (.int .u32) none (.int x11_1), .val (.int .i64) none (.int x12_1), .any, .any, .any, .any, .any, .any, .any, .any, .any, .any, .any, .any, .any, .any, .any, .any, .any, .any, .any, .any, .any, .any, .any, .any, .any, .any, .any, .any, .any, .any, .any, .any, .any, .any, .any, .any, .any, .any, .any, .any, .any, .any, .any, .any, .any, .any, .any, .any, .any, .any, .any, .any, .any, .any, .any, .any, .any, .any, .any, .any, .any, .any, .any, .any, .any, .any, .any, .any, .any, .any, .any, .any, .any, .any, .any, .any, .any, .any, .any, .any, .any, .any, .any, .any, .any, .any, .any, .any, .any, .any, .any, .any, .any, .any, .any, .any, .any], [⟨0, none⟩, ⟨0, none⟩, ⟨1, some ⟨(.arr 8 (.int .u32)), .agg o2_2⟩⟩, ⟨0, none⟩, ⟨1, some ⟨(.arr 8 (.int .u32)), .agg o4_2⟩⟩, ⟨1, some ⟨(.arr 64 (.int .u32)), .agg o5_2⟩⟩, ⟨1, some ⟨(.arr 8 (.int .u32)), .agg o6_2⟩⟩, ⟨0, none⟩, ⟨0, none⟩, ⟨0, none⟩, ⟨0, none⟩, ⟨0, none⟩, ⟨0, none⟩, ⟨0, none⟩, ⟨0, none⟩, ⟨0, none⟩, ⟨0, none⟩, ⟨0, none⟩, ⟨0, none⟩, ⟨0, none⟩, ⟨0, none⟩, ⟨0, none⟩, ⟨0, none⟩, ⟨0, none⟩, ⟨0, none⟩, ⟨0, none⟩, ⟨0, none⟩, ⟨0, none⟩, ⟨0, none⟩, ⟨0, none⟩, ⟨0, none⟩, ⟨0, none⟩, ⟨0, none⟩, ⟨0, none⟩, ⟨0, none⟩, ⟨0, none⟩, ⟨0, none⟩, ⟨0, none⟩, ⟨0, none⟩, ⟨0, none⟩, ⟨0, none⟩, ⟨0, none⟩, ⟨0, none⟩, ⟨0, none⟩, ⟨0, none⟩, ⟨0, none⟩, ⟨0, none⟩, ⟨0, none⟩, ⟨0, none⟩, ⟨0, none⟩, ⟨0, none⟩, ⟨0, none⟩, ⟨0, none⟩, ⟨0, none⟩, ⟨0, none⟩, ⟨0, none⟩, ⟨0, none⟩, ⟨0, none⟩, ⟨0, none⟩, ⟨0, none⟩, ⟨0, none⟩, ⟨0, none⟩, ⟨0, none⟩, ⟨0, none⟩, ⟨0, none⟩, ⟨0, none⟩, ⟨0, none⟩, ⟨0, none⟩, ⟨0, none⟩, ⟨0, none⟩, ⟨0, none⟩, ⟨0, none⟩, ⟨0, none⟩, ⟨0, none⟩, ⟨0, none⟩, ⟨0, none⟩, ⟨0, none⟩, ⟨0, none⟩, ⟨0, none⟩, ⟨0, none⟩, ⟨0, none⟩, ⟨0, none⟩, ⟨0, none⟩, ⟨0, none⟩, ⟨0, none⟩, ⟨0, none⟩, ⟨0, none⟩, ⟨0, none⟩, ⟨0, none⟩, ⟨0, none⟩, ⟨0, none⟩, ⟨0, none⟩, ⟨0, none⟩, ⟨0, none⟩, ⟨0, none⟩, ⟨0, none⟩, ⟨0, none⟩, ⟨0, none⟩, ⟨0, none⟩, ⟨0, none⟩, ⟨0, none⟩, ⟨0, none⟩, ⟨0, none⟩, ⟨0, none⟩, ⟨0, none⟩, ⟨0, none⟩, ⟨0, none⟩, ⟨0, none⟩, ⟨0, none⟩, ⟨0, none⟩], List.replicate 110 0⟩
noncomputable def f101_l4 (run : Run) (n : Nat) (_k0 : Nat) (k4 : Nat) (x13_1 : Int) (o2_5 : List AV) (o4_5 : List AV) (o6_5 : List AV) : Option Res :=
  iterK (evalK G run n f101_keep 4 (sub [1, 1, 1, 1, 0, 1, 0, 0] f101_body)) f101_t4 f101_o4 (blockK 4 (seqK (evalK G run n f101_keep 0 (sub [1, 1, 1, 1, 1] f101_body) (retE G f101_info)) (retE G f101_info))) k4
    ⟨[.any, .any, .ptr ⟨(.arr 8 (.int .u32)), 2, 1, []⟩, .any, .ptr ⟨(.arr 8 (.int .u32)), 4, 1, []⟩, .any, .ptr ⟨(.arr 8 (.int .u32)), 6, 1, []⟩, .any, .any, .any, .any, .any, .any, .val (.int .i64) none (.int x13_1), .any, .any, .any, .any, .any, .any, .any, .any, .any, .any, .any, .any, .any, .any, .any, .any, .any, .any, .any, .any, .any, .any, .any, .any, .any, .any, .any, .any, .any, .any, .any, .any, .any, .any, .any, .any, .any, .any, .any, .any, .any, .any, .any, .any, .any, .any, .any, .any, .any, .any, .any, .any, .any, .any, .any, .any, .any, .any, .any, .any, .any, .any, .any, .any, .any, .any, .any, .any, .any, .any, .any, .any, .any, .any, .any, .any, .any, .any, .any, .any, .any, .any, .any, .any, .any, .any, .any, .any, .any, .any, .any, .any, .any, .any, .any, .any], [⟨0, none⟩, ⟨0, none⟩, ⟨1, some ⟨(.arr 8 (.int .u32)), .agg o2_5⟩⟩, ⟨0, none⟩, ⟨1, some ⟨(.arr 8 (.int .u32)), .agg o4_5⟩⟩, ⟨0, none⟩, ⟨1, some ⟨(.arr 8 (.int .u32)), .agg o6_5⟩⟩, ⟨0, none⟩, ⟨0, none⟩, ⟨0, none⟩, ⟨0, none⟩, ⟨0, none⟩, ⟨0, none⟩, ⟨0, none⟩, ⟨0, none⟩, ⟨0, none⟩, ⟨0, none⟩, ⟨0, none⟩, ⟨0, none⟩, ⟨0, none⟩, ⟨0, none⟩, ⟨0, none⟩, ⟨0, none⟩, ⟨0, none⟩, ⟨0, none⟩, ⟨0, none⟩, ⟨0, none⟩, ⟨0, none⟩, ⟨0, none⟩, ⟨0, none⟩, ⟨0, none⟩, ⟨0, none⟩, ⟨0, none⟩, ⟨0, none⟩, ⟨0, none⟩, ⟨0, none⟩, ⟨0, none⟩, ⟨0, none⟩, ⟨0, none⟩, ⟨0, none⟩, ⟨0, none⟩, ⟨0, none⟩, ⟨0, none⟩, ⟨0, none⟩, ⟨0, none⟩, ⟨0, none⟩, ⟨0, none⟩, ⟨0, none⟩, ⟨0, none⟩, ⟨0, none⟩, ⟨0, none⟩, ⟨0, none⟩, ⟨0, none⟩, ⟨0, none⟩, ⟨0, none⟩, ⟨0, none⟩, ⟨0, none⟩, ⟨0, none⟩, ⟨0, none⟩, ⟨0, none⟩, ⟨0, none⟩, ⟨0, none⟩, ⟨0, none⟩, ⟨0, none⟩, ⟨0, none⟩, ⟨0, none⟩, ⟨0, none⟩, ⟨0, none⟩, ⟨0, none⟩, ⟨0, none⟩, ⟨0, none⟩, ⟨0, none⟩, ⟨0, none⟩, ⟨0, none⟩, ⟨0, none⟩, ⟨0, none⟩, ⟨0, none⟩, ⟨0, none⟩, ⟨0, none⟩, ⟨0, none⟩, ⟨0, none⟩, ⟨0, none⟩, ⟨0, none⟩, ⟨0, none⟩, ⟨0, none⟩, ⟨0, none⟩, ⟨0, none⟩, ⟨0, none⟩, ⟨0, none⟩, ⟨0, none⟩, ⟨0, none⟩, ⟨0, none⟩, ⟨0, none⟩, ⟨0, none⟩, ⟨0, none⟩, ⟨0, none⟩, ⟨0, none⟩, ⟨0, none⟩, ⟨0, none⟩, ⟨0, none⟩, ⟨0, none⟩, ⟨0, none⟩, ⟨0, none⟩, ⟨0, none⟩, ⟨0, none⟩, ⟨0, none⟩, ⟨0, none⟩, ⟨0, none⟩, ⟨0, none⟩, ⟨0, none⟩], List.replicate 110 0⟩
noncomputable def f101_l0 (run : Run) (n : Nat) (k0 : Nat) (x7_1 : Int) (o2_1 : List AV) (o4_1 : List AV) (o5_1 : List AV) (o6_1 : List AV) : Option Res :=
  iterK (evalK G run n f101_keep 0 (sub [1, 1, 1, 0, 1, 0, 0] f101_body)) f101_t0 f101_o0 (blockK 0 (seqK (evalK G run n f101_keep 0 (sub [1, 1, 1, 1] f101_body) (retE G f101_info)) (retE G f101_info))) k0
    ⟨[.any, .any, .ptr ⟨(.arr 8 (.int .u32)), 2, 1, []⟩, .any, .ptr ⟨(.arr 8 (.int .u32)), 4, 1, []⟩, .ptr ⟨(.arr 64 (.int .u32)), 5, 1, []⟩, .ptr ⟨(.arr 8 (.int .u32)), 6, 1, []⟩, .val (.int .i64) none (.int x7_1), .any, .any, .any, .any, .any, .any, .any, .any, .any, .any, .any, .any, .any, .any, .any, .any, .any, .any, .any, .any, .any, .any, .any, .any, .any, .any, .any, .any, .any, .any, .any, .any, .any, .any, .any, .any, .any, .any, .any, .any, .any, .any, .any, .any, .any, .any, .any, .any, .any, .any, .any, .any, .any, .any, .any, .any, .any, .any, .any, .any, .any, .any, .any, .any, .any, .any, .any, .any, .any, .any, .any, .any, .any, .any, .any, .any, .any, .any, .any, .any, .any, .any, .any, .any, .any, .any, .any, .any, .any, .any, .any, .any, .any, .any, .any, .any, .any, .any, .any, .any, .any, .any], [⟨0, none⟩, ⟨0, none⟩, ⟨1, some ⟨(.arr 8 (.int .u32)), .agg o2_1⟩⟩, ⟨0, none⟩, ⟨1, some ⟨(.arr 8 (.int .u32)), .agg o4_1⟩⟩, ⟨1, some ⟨(.arr 64 (.int .u32)), .agg o5_1⟩⟩, ⟨1, some ⟨(.arr 8 (.int .u32)), .agg o6_1⟩⟩, ⟨0, none⟩, ⟨0, none⟩, ⟨0, none⟩, ⟨0, none⟩, ⟨0, none⟩, ⟨0, none⟩, ⟨0, none⟩, ⟨0, none⟩, ⟨0, none⟩, ⟨0, none⟩, ⟨0, none⟩, ⟨0, none⟩, ⟨0, none⟩, ⟨0, none⟩, ⟨0, none⟩, ⟨0, none⟩, ⟨0, none⟩, ⟨0, none⟩, ⟨0, none⟩, ⟨0, none⟩, ⟨0, none⟩, ⟨0, none⟩, ⟨0, none⟩, ⟨0, none⟩, ⟨0, none⟩, ⟨0, none⟩, ⟨0, none⟩, ⟨0, none⟩, ⟨0, none⟩, ⟨0, none⟩, ⟨0, none⟩, ⟨0, none⟩, ⟨0, none⟩, ⟨0, none⟩, ⟨0, none⟩, ⟨0, none⟩, ⟨0, none⟩, ⟨0, none⟩, ⟨0, none⟩, ⟨0, none⟩, ⟨0, none⟩, ⟨0, none⟩, ⟨0, none⟩, ⟨0, none⟩, ⟨0, none⟩, ⟨0, none⟩, ⟨0, none⟩, ⟨0, none⟩, ⟨0, none⟩, ⟨0, none⟩, ⟨0, none⟩, ⟨0, none⟩, ⟨0, none⟩, ⟨0, none⟩, ⟨0, none⟩, ⟨0, none⟩, ⟨0, none⟩, ⟨0, none⟩, ⟨0, none⟩, ⟨0, none⟩, ⟨0, none⟩, ⟨0, none⟩, ⟨0, none⟩, ⟨0, none⟩, ⟨0, none⟩, ⟨0, none⟩, ⟨0, none⟩, ⟨0, none⟩, ⟨0, none⟩, ⟨0, none⟩, ⟨0, none⟩, ⟨0, none⟩, ⟨0, none⟩, ⟨0, none⟩, ⟨0, none⟩, ⟨0, none⟩, ⟨0, none⟩, ⟨0, none⟩, ⟨0, none⟩, ⟨0, none⟩, ⟨0, none⟩, ⟨0, none⟩, ⟨0, none⟩, ⟨0, none⟩, ⟨0, none⟩, ⟨0, none⟩, ⟨0, none⟩, ⟨0, none⟩, ⟨0, none⟩, ⟨0, none⟩, ⟨0, none⟩, ⟨0, none⟩, ⟨0, none⟩, ⟨0, none⟩, ⟨0, none⟩, ⟨0, none⟩, ⟨0, none⟩, ⟨0, none⟩, ⟨0, none⟩, ⟨0, none⟩, ⟨0, none⟩, ⟨0, none⟩, ⟨0, none⟩], List.replicate 110 0⟩
theorem f101_l2_eq (run : Run) (n : Nat) (k0 : Nat) (k2 : Nat) (x7_2 : Int) (x10_1 : Int) (x11_1 : Int) (x12_1 : Int) (o2_2 : List AV) (o4_2 : List AV) (o5_2 : List AV) (o6_2 : List AV) : f101_l2 run n k0 (k2 + 1) x7_2 x10_1 x11_1 x12_1 o2_2 o4_2 o5_2 o6_2 =
  bif ltI 0 x12_1 then
    bif inR (IntKind.wrap .i64 (x12_1 - 1)) 8 then
    bif inR x12_1 8 then
    f101_l2 run n k0 k2 x7_2 x10_1 x11_1 (IntKind.wrap .i64 (x12_1 - 1)) (o2_2.set (Int.toNat x12_1) (.int ((AV.fld (.agg o2_2) (Int.toNat (IntKind.wrap .i64 (x12_1 - 1)))).toInt))) o4_2 o5_2 o6_2
  else none
  else none
  else
    f101_l0 run n k0 (IntKind.wrap .i64 (x7_2 + 1)) ((o2_2.set 4 (.int (IntKind.wrap .u32 ((AV.fld (.agg o2_2) 4).toInt + x10_1)))).set 0 (.int (IntKind.wrap .u32 (x10_1 + x11_1)))) o4_2 o5_2 o6_2 := by kernel_rfl
theorem f101_l4_eq (run : Run) (n : Nat) (k0 : Nat) (k4 : Nat) (x13_1 : Int) (o2_5 : List AV) (o4_5 : List AV) (o6_5 : List AV) : f101_l4 run n k0 (k4 + 1) x13_1 o2_5 o4_5 o6_5 =
  bif ltI x13_1 8 then
    bif inR x13_1 8 then
    bif inR x13_1 8 then
    bif inR x13_1 8 then
    f101_l4 run n k0 k4 (IntKind.wrap .i64 (x13_1 + 1)) (o2_5.set (Int.toNat x13_1) (.int (IntKind.wrap .u32 ((AV.fld (.agg o2_5) (Int.toNat x13_1)).toInt + (AV.fld (.agg o6_5) (Int.toNat x13_1)).toInt)))) o4_5 o6_5
  else none
  else none
  else none
  else
    some ⟨[.agg o2_5], [], f101_fresh⟩ := by kernel_rfl
theorem f101_l0_eq (run : Run) (n : Nat) (k0 : Nat) (x7_1 : Int) (o2_1 : List AV) (o4_1 : List AV) (o5_1 : List AV) (o6_1 : List AV) : f101_l0 run n (k0 + 1) x7_1 o2_1 o4_1 o5_1 o6_1 =
  bif ltI x7_1 64 then
    (run 123 [.int ((AV.fld (.agg o2_1) 4).toInt), .int 6]).bind fun r2 =>
    nilV r2.outs (consV r2.vals fun v2 vs2 =>
    nilV vs2 ((run 123 [.int ((AV.fld (.agg o2_1) 4).toInt), .int 11]).bind fun r3 =>
    nilV r3.outs (consV r3.vals fun v3 vs3 =>
    nilV vs3 ((run 123 [.int ((AV.fld (.agg o2_1) 4).toInt), .int 25]).bind fun r4 =>
    nilV r4.outs (consV r4.vals fun v4 vs4 =>
    nilV vs4 ((run 124 [.int x7_1]).bind fun r5 =>
    nilV r5.outs (consV r5.vals fun v5 vs5 =>
    nilV vs5 (bif inR x7_1 64 then
    (run 123 [.int ((AV.fld (.agg o2_1) 0).toInt), .int 2]).bind fun r6 =>
    nilV r6.outs (consV r6.vals fun v6 vs6 =>
    nilV vs6 ((run 123 [.int ((AV.fld (.agg o2_1) 0).toInt), .int 13]).bind fun r7 =>
    nilV r7.outs (consV r7.vals fun v7 vs7 =>
    nilV vs7 ((run 123 [.int ((AV.fld (.agg o2_1) 0).toInt), .int 22]).bind fun r8 =>
    nilV r8.outs (consV r8.vals fun v8 vs8 =>
    nilV vs8 (f101_l2 run n k0 n x7_1 (IntKind.wrap .u32 (IntKind.wrap .u32 (IntKind.wrap .u32 (IntKind.wrap .u32 ((AV.fld (.agg o2_1) 7).toInt + IntKind.wrap .u32 (BitVec.toNat (BitVec.ofInt 32 (IntKind.wrap .u32 (BitVec.toNat (BitVec.ofInt 32 v2.toInt ^^^ BitVec.ofInt 32 v3.toInt))) ^^^ BitVec.ofInt 32 v4.toInt))) + IntKind.wrap .u32 (BitVec.toNat (BitVec.ofInt 32 (IntKind.wrap .u32 (BitVec.toNat (BitVec.ofInt 32 ((AV.fld (.agg o2_1) 4).toInt) &&& BitVec.ofInt 32 ((AV.fld (.agg o2_1) 5).toInt)))) ^^^ BitVec.ofInt 32 (IntKind.wrap .u32 (BitVec.toNat (BitVec.ofInt 32 (IntKind.wrap .u32 (4294967295 - (AV.fld (.agg o2_1) 4).toInt)) &&& BitVec.ofInt 32 ((AV.fld (.agg o2_1) 6).toInt))))))) + v5.toInt) + (AV.fld (.agg o5_1) (Int.toNat x7_1)).toInt)) (IntKind.wrap .u32 (IntKind.wrap .u32 (BitVec.toNat (BitVec.ofInt 32 (IntKind.wrap .u32 (BitVec.toNat (BitVec.ofInt 32 v6.toInt ^^^ BitVec.ofInt 32 v7.toInt))) ^^^ BitVec.ofInt 32 v8.toInt)) + IntKind.wrap .u32 (BitVec.toNat (BitVec.ofInt 32 (IntKind.wrap .u32 (BitVec.toNat (BitVec.ofInt 32 (IntKind.wrap .u32 (BitVec.toNat (BitVec.ofInt 32 ((AV.fld (.agg o2_1) 0).toInt) &&& BitVec.ofInt 32 ((AV.fld (.agg o2_1) 1).toInt)))) ^^^ BitVec.ofInt 32 (IntKind.wrap .u32 (BitVec.toNat (BitVec.ofInt 32 ((AV.fld (.agg o2_1) 0).toInt) &&& BitVec.ofInt 32 ((AV.fld (.agg o2_1) 2).toInt))))))) ^^^ BitVec.ofInt 32 (IntKind.wrap .u32 (BitVec.toNat (BitVec.ofInt 32 ((AV.fld (.agg o2_1) 1).toInt) &&& BitVec.ofInt 32 ((AV.fld (.agg o2_1) 2).toInt)))))))) 7 o2_1 o4_1 o5_1 o6_1))))))
  else none))))))))
  else
    f101_l4 run n k0 n 0 o2_1 o4_1 o6_1 := by kernel_rfl
noncomputable def f101 (run : Run) (n : Nat) (a0_1 : List AV) (a1_1 : List UInt8) : Option Res := evalK G run n f101_info.keep 0 f101_info.body (retE G f101_info) (f101_info.start [.agg a0_1, .str a1_1])
theorem f101_eq (run : Run) (n : Nat) (a0_1 : List AV) (a1_1 : List UInt8) : f101 run n a0_1 a1_1 =
  (run 122 [.str a1_1]).bind fun r1 =>
    nilV r1.outs (consV r1.vals fun v1 vs1 =>
    nilV vs1 (f101_l0 run n n 0 a0_1 (List.replicate 8 (.int 0)) v1.toAgg a0_1)) := by kernel_rfl
theorem f101_run (ext : Run) (n : Nat) (a0_1 : List AV) (a1_1 : List UInt8) : runE G ext (n + 1) 101 [.agg a0_1, .str a1_1] = f101 (runE G ext n) n a0_1 a1_1 := runE_succ f101_at f101_in

noncomputable def f71_l4 (run : Run) (n : Nat) (_k0 : Nat) (k2 : Nat) (k4 : Nat) (x6_2 : Int) (x7_1 : List UInt8) (x8_1 : Int) (o2_4 : List UInt8) (o3_4 : List AV) (o5_2 : List UInt8) : Option Res :=
  iterK (evalK G run n f71_keep 4 (sub [1, 1, 1, 1, 1, 0, 1, 0, 0, 1, 0, 0, 1, 1, 0, 0] f71_body)) f71_t4 f71_o4 (blockK 4 (blockK 3 (seqK (evalK G run n f71_keep 2 (sub [1, 1, 1, 1, 1, 0, 1, 0, 0, 1, 1] f71_body) (seqK (fun t => iterK (evalK G run n f71_keep 2 (sub [1, 1, 1, 1, 1, 0, 1, 0, 0] f71_body)) f71_t2 f71_o2 (blockK 2 (seqK (evalK G run n f71_keep 0 (sub [1, 1, 1, 1, 1, 1] f71_body) (retE G f71_info)) (retE G f71_info))) k2 (t.clear f71_t2 f71_o2)) (blockK 2 (seqK (evalK G run n f71_keep 0 (sub [1, 1, 1, 1, 1, 1] f71_body) (retE G f71_info)) (retE G f71_info))))) (seqK (fun t => iterK (evalK G run n f71_keep 2 (sub [1, 1, 1, 1, 1, 0, 1, 0, 0] f71_body)) f71_t2 f71_o2 (blockK 2 (seqK (evalK G run n f71_keep 0 (sub [1, 1, 1, 1, 1, 1] f71_body) (retE G f71_info)) (retE G f71_info))) k2 (t.clear f71_t2 f71_o2)) (blockK 2 (seqK (evalK G run n f71_keep 0 (sub [1, 1, 1, 1, 1, 1] f71_body) (retE G f71_info)) (retE G f71_info))))))) k4
    ⟨[.any, .any, .ptr ⟨(.blob 32), 2, 1, []⟩, .ptr ⟨(.arr 8 (.int .u32)), 3, 1, []⟩, .any, .ptr ⟨(.blob 32), 5, 1, []⟩, .val (.int .i64) none (.int x6_2), .val .str none (.str x7_1), .val (.int .i64) none (.int x8_1), .any, .any, .any, .any, .any, .any, .any, .any, .any, .any, .any, .any, .any, .any, .any, .any, .any, .any, .any, .any, .any, .any, .any, .any, .any, .any, .any, .any, .any, .any, .any, .any, .any, .any, .any, .any, .any, .any, .any, .any, .any, .any], [⟨0, none⟩, ⟨0, none⟩, ⟨1, some ⟨(.blob 32), .blob o2_4⟩⟩, ⟨1, some ⟨(.arr 8 (.int .u32)), .agg o3_4⟩⟩, ⟨0, none⟩, ⟨1, some ⟨(.blob 32), .blob o5_2⟩⟩, ⟨0, none⟩, ⟨0, none⟩, ⟨0, none⟩, ⟨0, none⟩, ⟨0, none⟩, ⟨0, none⟩, ⟨0, none⟩, ⟨0, none⟩, ⟨0, none⟩, ⟨0, none⟩, ⟨0, none⟩, ⟨0, none⟩, ⟨0, none⟩, ⟨0, none⟩, ⟨0, none⟩, ⟨0, none⟩, ⟨0, none⟩, ⟨0, none⟩, ⟨0, none⟩, ⟨0, none⟩, ⟨0, none⟩, ⟨0, none⟩, ⟨0, none⟩, ⟨0, none⟩, ⟨0, none⟩, ⟨0, none⟩, ⟨0, none⟩, ⟨0, none⟩, ⟨0, none⟩, ⟨0, none⟩, ⟨0, none⟩, ⟨0, none⟩, ⟨0, none⟩, ⟨0, none⟩, ⟨0, none⟩, ⟨0, none⟩, ⟨0, none⟩, ⟨0, none⟩, ⟨0, none⟩, ⟨0, none⟩, ⟨0, none⟩, ⟨0, none⟩, ⟨0, none⟩, ⟨0, none⟩, ⟨0, none⟩], List.replicate 51 0⟩
noncomputable def f71_l2 (run : Run) (n : Nat) (_k0 : Nat) (k2 : Nat) (x6_1 : Int) (o2_3 : List UInt8) (o3_3 : List AV) (o5_1 : List UInt8) : Option Res :=
  iterK (evalK G run n f71_keep 2 (sub [1, 1, 1, 1, 1, 0, 1, 0, 0] f71_body)) f71_t2 f71_o2 (blockK 2 (seqK (evalK G run n f71_keep 0 (sub [1, 1, 1, 1, 1, 1] f71_body) (retE G f71_info)) (retE G f71_info))) k2
    ⟨[.any, .any, .ptr ⟨(.blob 32), 2, 1, []⟩, .ptr ⟨(.arr 8 (.int .u32)), 3, 1, []⟩, .any, .ptr ⟨(.blob 32), 5, 1, []⟩, .val (.int .i64) none (.int x6_1), .any, .any, .any, .any, .any, .any, .any, .any, .any, .any, .any, .any, .any, .any, .any, .any, .any, .any, .any, .any, .any, .any, .any, .any, .any, .any, .any, .any, .any, .any, .any, .any, .any, .any, .any, .any, .any, .any, .any, .any, .any, .any, .any, .any], [⟨0, none⟩, ⟨0, none⟩, ⟨1, some ⟨(.blob 32), .blob o2_3⟩⟩, ⟨1, some ⟨(.arr 8 (.int .u32)), .agg o3_3⟩⟩, ⟨0, none⟩, ⟨1, some ⟨(.blob 32), .blob o5_1⟩⟩, ⟨0, none⟩, ⟨0, none⟩, ⟨0, none⟩, ⟨0, none⟩, ⟨0, none⟩, ⟨0, none⟩, ⟨0, none⟩, ⟨0, none⟩, ⟨0, none⟩, ⟨0, none⟩, ⟨0, none⟩, ⟨0, none⟩, ⟨0, none⟩, ⟨0, none⟩, ⟨0, none⟩, ⟨0, none⟩, ⟨0, none⟩, ⟨0, none⟩, ⟨0, none⟩, ⟨0, none⟩, ⟨0, none⟩, ⟨0, none⟩, ⟨0, none⟩, ⟨0, none⟩, ⟨0, none⟩, ⟨0, none⟩, ⟨0, none⟩, ⟨0, none⟩, ⟨0, none⟩, ⟨0, none⟩, ⟨0, none⟩, ⟨0, none⟩, ⟨0, none⟩, ⟨0, none⟩, ⟨0, none⟩, ⟨0, none⟩, ⟨0, none⟩, ⟨0, none⟩, ⟨0, none⟩, ⟨0, none⟩, ⟨0, none⟩, ⟨0, none⟩, ⟨0, none⟩, ⟨0, none⟩, ⟨0, none⟩], List.replicate 51 0⟩
noncomputable def f71_l0 (run : Run) (n : Nat) (k0 : Nat) (x0_1 : List UInt8) (x4_1 : Int) (o2_1 : List UInt8) (o3_1 : List AV) : Option Res :=
  iterK (evalK G run n f71_keep 0 (sub [1, 1, 1, 0, 1, 0, 0] f71_body)) f71_t0 f71_o0 (blockK 0 (seqK (evalK G run n f71_keep 0 (sub [1, 1, 1, 1] f71_body) (retE G f71_info)) (retE G f71_info))) k0
    ⟨[.val .str none (.str x0_1), .any, .ptr ⟨(.blob 32), 2, 1, []⟩, .ptr ⟨(.arr 8 (.int .u32)), 3, 1, []⟩, .val (.int .i64) none (.int x4_1), .any, .any, .any, .any, .any, .any, .any, .any, .any, .any, .any, .any, .any, .any, .any, .any, .any, .any, .any, .any, .any, .any, .any, .any, .any, .any, .any, .any, .any, .any, .any, .any, .any, .any, .any, .any, .any, .any, .any, .any, .any, .any, .any, .any, .any, .any], [⟨0, none⟩, ⟨0, none⟩, ⟨1, some ⟨(.blob 32), .blob o2_1⟩⟩, ⟨1, some ⟨(.arr 8 (.int .u32)), .agg o3_1⟩⟩, ⟨0, none⟩, ⟨0, none⟩, ⟨0, none⟩, ⟨0, none⟩, ⟨0, none⟩, ⟨0, none⟩, ⟨0, none⟩, ⟨0, none⟩, ⟨0, none⟩, ⟨0, none⟩, ⟨0, none⟩, ⟨0, none⟩, ⟨0, none⟩, ⟨0, none⟩, ⟨0, none⟩, ⟨0, none⟩, ⟨0, none⟩, ⟨0, none⟩, ⟨0, none⟩, ⟨0, none⟩, ⟨0, none⟩, ⟨0, none⟩, ⟨0, none⟩, ⟨0, none⟩, ⟨0, none⟩, ⟨0, none⟩, ⟨0, none⟩, ⟨0, none⟩, ⟨0, none⟩, ⟨0, none⟩, ⟨0, none⟩, ⟨0, none⟩, ⟨0, none⟩, ⟨0, none⟩, ⟨0, none⟩, ⟨0, none⟩, ⟨0, none⟩, ⟨0, none⟩, ⟨0, none⟩, ⟨0, none⟩, ⟨0, none⟩, ⟨0, none⟩, ⟨0, none⟩, ⟨0, none⟩, ⟨0, none⟩, ⟨0, none⟩, ⟨0, none⟩], List.replicate 51 0⟩
theorem f71_l4_eq (run : Run) (n : Nat) (k0 : Nat) (k2 : Nat) (k4 : Nat) (x6_2 : Int) (x7_1 : List UInt8) (x8_1 : Int) (o2_4 : List UInt8) (o3_4 : List AV) (o5_2 : List UInt8) : f71_l4 run n k0 k2 (k4 + 1) x6_2 x7_1 x8_1 o2_4 o3_4 o5_2 =
  bif ltI x8_1 4 then
    bif inR x8_1 x7_1.length then
    bif inR (IntKind.wrap .i64 (IntKind.wrap .i64 (4 * x6_2) + x8_1)) 32 then
    f71_l4 run n k0 k2 k4 x6_2 x7_1 (IntKind.wrap .i64 (x8_1 + 1)) o2_4 o3_4 (o5_2.set (Int.toNat (IntKind.wrap .i64 (IntKind.wrap .i64 (4 * x6_2) + x8_1))) (UInt8.ofNat (Int.toNat ((x7_1.getD (Int.toNat x8_1) 0).toNat : Int))))
  else none
  else none
  else
    f71_l2 run n k0 k2 (IntKind.wrap .i64 (x6_2 + 1)) o2_4 o3_4 o5_2 := by kernel_rfl
theorem f71_l2_eq (run : Run) (n : Nat) (k0 : Nat) (k2 : Nat) (x6_1 : Int) (o2_3 : List UInt8) (o3_3 : List AV) (o5_1 : List UInt8) : f71_l2 run n k0 (k2 + 1) x6_1 o2_3 o3_3 o5_1 =
  bif ltI x6_1 8 then
    bif inR x6_1 8 then
    (run 102 [.int (IntKind.wrap .u64 ((AV.fld (.agg o3_3) (Int.toNat x6_1)).toInt)), .int 4]).bind fun r4 =>
    nilV r4.outs (consV r4.vals fun v4 vs4 =>
    nilV vs4 (f71_l4 run n k0 k2 n x6_1 v4.toStr 0 o2_3 o3_3 o5_1))
  else none
  else
    some ⟨[.blob o5_1], [], f71_fresh⟩ := by kernel_rfl
theorem f71_l0_eq (run : Run) (n : Nat) (k0 : Nat) (x0_1 : List UInt8) (x4_1 : Int) (o2_1 : List UInt8) (o3_1 : List AV) : f71_l0 run n (k0 + 1) x0_1 x4_1 o2_1 o3_1 =
  bif ltI x4_1 (x0_1.length : Int) then
    bif boundsOk x4_1 (IntKind.wrap .i64 (x4_1 + 64)) (x0_1.length : Int) (x0_1.length : Int) then
    (run 101 [.agg o3_1, .str (List.drop (Int.toNat x4_1) (List.take (Int.toNat (IntKind.wrap .i64 (x4_1 + 64))) x0_1))]).bind fun r3 =>
    nilV r3.outs (consV r3.vals fun v3 vs3 =>
    nilV vs3 (f71_l0 run n k0 x0_1 (IntKind.wrap .i64 (x4_1 + 64)) o2_1 v3.toAgg))
  else none
  else
    f71_l2 run n k0 n 0 o2_1 o3_1 (List.replicate 32 0) := by kernel_rfl
noncomputable def f71 (run : Run) (n : Nat) (a0_1 : List UInt8) : Option Res := evalK G run n f71_info.keep 0 f71_info.body (retE G f71_info) (f71_info.start [.str a0_1])
theorem f71_eq (run : Run) (n : Nat) (a0_1 : List UInt8) : f71 run n a0_1 =
  (run 99 []).bind fun r1 =>
    nilV r1.outs (consV r1.vals fun v1 vs1 =>
    nilV vs1 ((run 100 [.int (IntKind.wrap .u64 (a0_1.length : Int))]).bind fun r2 =>
    nilV r2.outs (consV r2.vals fun v2 vs2 =>
    nilV vs2 (bif Nat.ble (a0_1.length + v2.toStr.length) maxLen then
    f71_l0 run n n (a0_1 ++ v2.toStr) 0 (List.replicate 32 0) v1.toAgg
  else none)))) := by kernel_rfl
theorem f71_run (ext : Run) (n : Nat) (a0_1 : List UInt8) : runE G ext (n + 1) 71 [.str a0_1] = f71 (runE G ext n) n a0_1 := runE_succ f71_at f71_in

noncomputable def f39 (run : Run) (n : Nat) (a0_1 : Int) (a0_2 : List UInt8) (a0_3 : List UInt8) (a0_4 : Int) : Option Res := evalK G run n f39_info.keep 0 f39_info.body (retE G f39_info) (f39_info.start [.agg [.int a0_1, .blob a0_2, .blob a0_3, .int a0_4]])
theorem f39_eq (run : Run) (n : Nat) (a0_1 : Int) (a0_2 : List UInt8) (a0_3 : List UInt8) (a0_4 : Int) : f39 run n a0_1 a0_2 a0_3 a0_4 =
  (run 73 [.agg [.int a0_1, .blob a0_2, .blob a0_3, .int a0_4]]).bind fun r1 =>
    nilV r1.outs (consV r1.vals fun v1 vs1 =>
    nilV vs1 ((run 72 [.str v1.toStr]).bind fun r2 =>
    nilV r2.outs (consV r2.vals fun v2 vs2 =>
    nilV vs2 ((run 71 [.str v2.toStr]).bind fun r3 =>
    nilV r3.outs (consV r3.vals fun v3 vs3 =>
    nilV vs3 (some ⟨[.blob v3.toBlob], [], f39_fresh⟩)))))) := by kernel_rfl
theorem f39_run (ext : Run) (n : Nat) (a0_1 : Int) (a0_2 : List UInt8) (a0_3 : List UInt8) (a0_4 : Int) : runE G ext (n + 1) 39 [.agg [.int a0_1, .blob a0_2, .blob a0_3, .int a0_4]] = f39 (runE G ext n) n a0_1 a0_2 a0_3 a0_4 := runE_succ f39_at f39_in

noncomputable def f70_l2 (run : Run) (n : Nat) (k0 : Nat) (k2 : Nat) (x3_2 : List AV) (x4_2 : Int) (x5_1 : Int) (x6_1 : Int) (o1_2 : List UInt8) : Option Res :=
  iterK (evalK G run n f70_keep 2 (sub [1, 1, 0, 1, 0, 0, 1, 0, 0, 1, 1, 0, 0] f70_body)) f70_t2 f70_o2 (blockK 2 (blockK 1 (seqK (evalK G run n f70_keep 0 (sub [1, 1, 0, 1, 0, 0, 1, 1] f70_body) (seqK (fun t => iterK (evalK G run n f70_keep 0 (sub [1, 1, 0, 1, 0, 0] f70_body)) f70_t0 f70_o0 (blockK 0 (seqK (evalK G run n f70_keep 0 (sub [1, 1, 1] f70_body) (retE G f70_info)) (retE G f70_info))) k0 (t.clear f70_t0 f70_o0)) (blockK 0 (seqK (evalK G run n f70_keep 0 (sub [1, 1, 1] f70_body) (retE G f70_info)) (retE G f70_info))))) (seqK (fun t => iterK (evalK G run n f70_keep 0 (sub [1, 1, 0, 1, 0, 0] f70_body)) f70_t0 f70_o0 (blockK 0 (seqK (evalK G run n f70_keep 0 (sub [1, 1, 1] f70_body) (retE G f70_info)) (retE G f70_info))) k0 (t.clear f70_t0 f70_o0)) (blockK 0 (seqK (evalK G run n f70_keep 0 (sub [1, 1, 1] f70_body) (retE G f70_info)) (retE G f70_info))))))) k2
    ⟨[.any, .ptr ⟨(.blob 32), 1, 1, []⟩, .any, .val (.slice .bool) (some (3, 0)) (.slice x3_2), .val (.int .i64) none (.int x4_2), .val (.int .i64) none (.int x5_1), .val (.int .i64) none (.int x6_1), .any, .any, .any, .any, .any, .any, .any, .any, .any, .any, .any, .any, .any, .any, .any, .any, .any, .any, .any, .any, .any], [⟨0, none⟩, ⟨1, some ⟨(.blob 32), .blob o1_2⟩⟩, ⟨0, none⟩, ⟨0, none⟩, ⟨0, none⟩, ⟨0, none⟩, ⟨0, none⟩, ⟨0, none⟩, ⟨0, none⟩, ⟨0, none⟩, ⟨0, none⟩, ⟨0, none⟩, ⟨0, none⟩, ⟨0, none⟩, ⟨0, none⟩, ⟨0, none⟩, ⟨0, none⟩, ⟨0, none⟩, ⟨0, none⟩, ⟨0, none⟩, ⟨0, none⟩, ⟨0, none⟩, ⟨0, none⟩, ⟨0, none⟩, ⟨0, none⟩, ⟨0, none⟩, ⟨0, none⟩, ⟨0, none⟩], List.replicate 28 0⟩
noncomputable def f70_l0 (run : Run) (n : Nat) (k0 : Nat) (x3_1 : List AV) (x4_1 : Int) (o1_1 : List UInt8) : Option Res :=
  iterK (evalK G run n f70_keep 0 (sub [1, 1, 0, 1, 0, 0] f70_body)) f70_t0 f70_o0 (blockK 0 (seqK (evalK G run n f70_keep 0 (sub [1, 1, 1] f70_body) (retE G f70_info)) (retE G f70_info))) k0
    ⟨[.any, .ptr ⟨(.blob 32), 1, 1, []⟩, .any, .val (.slice .bool) (some (3, 0)) (.slice x3_1), .val (.int .i64) none (.int x4_1), .any, .any, .any, .any, .any, .any, .any, .any, .any, .any, .any, .any, .any, .any, .any, .any, .any, .any, .any, .any, .any, .any, .any], [⟨0, none⟩, ⟨1, some ⟨(.blob 32), .blob o1_1⟩⟩, ⟨0, none⟩, ⟨0, none⟩, ⟨0, none⟩, ⟨0, none⟩, ⟨0, none⟩, ⟨0, none⟩, ⟨0, none⟩, ⟨0, none⟩, ⟨0, none⟩, ⟨0, none⟩, ⟨0, none⟩, ⟨0, none⟩, ⟨0, none⟩, ⟨0, none⟩, ⟨0, none⟩, ⟨0, none⟩, ⟨0, none⟩, ⟨0, none⟩, ⟨0, none⟩, ⟨0, none⟩, ⟨0, none⟩, ⟨0, none⟩, ⟨0, none⟩, ⟨0, none⟩, ⟨0, none⟩, ⟨0, none⟩], List.replicate 28 0⟩
theorem f70_l2_eq (run : Run) (n : Nat) (k0 : Nat) (k2 : Nat) (x3_2 : List AV) (x4_2 : Int) (x5_1 : Int) (x6_1 : Int) (o1_2 : List UInt8) : f70_l2 run n k0 (k2 + 1) x3_2 x4_2 x5_1 x6_1 o1_2 =
  bif ltI x6_1 8 then
    bif Nat.ble ((x3_2.length + 1) * 1) 140737488355328 then
    f70_l2 run n k0 k2 (x3_2 ++ [.bool (eqI (Int.tmod x5_1 2) 1)]) x4_2 (IntKind.wrap .i64 (Int.tdiv x5_1 2)) (IntKind.wrap .i64 (x6_1 + 1)) o1_2
  else none
  else
    f70_l0 run n k0 x3_2 (IntKind.wrap .i64 (x4_2 - 1)) o1_2 := by kernel_rfl
theorem f70_l0_eq (run : Run) (n : Nat) (k0 : Nat) (x3_1 : List AV) (x4_1 : Int) (o1_1 : List UInt8) : f70_l0 run n (k0 + 1) x3_1 x4_1 o1_1 =
  bif leI 0 x4_1 then
    bif inR x4_1 32 then
    f70_l2 run n k0 n x3_1 x4_1 (IntKind.wrap .i64 (((o1_1).getD (Int.toNat x4_1) 0).toNat : Int)) 0 o1_1
  else none
  else
    some ⟨[.slice x3_1], [], f70_fresh⟩ := by kernel_rfl
noncomputable def f70 (run : Run) (n : Nat) (a0_1 : List UInt8) : Option Res := evalK G run n f70_info.keep 0 f70_info.body (retE G f70_info) (f70_info.start [.blob a0_1])
theorem f70_eq (run : Run) (n : Nat) (a0_1 : List UInt8) : f70 run n a0_1 =
  f70_l0 run n n [] 31 a0_1 := by kernel_rfl
theorem f70_run (ext : Run) (n : Nat) (a0_1 : List UInt8) : runE G ext (n + 1) 70 [.blob a0_1] = f70 (runE G ext n) n a0_1 := runE_succ f70_at f70_in

noncomputable def f69_l0 (run : Run) (n : Nat) (k0 : Nat) (x0_1 : List AV) (x1_1 : List AV) (x5_1 : Int) : Option Res :=
  iterK (evalK G run n f69_keep 0 (sub [1, 0, 1, 0, 0] f69_body)) f69_t0 f69_o0 (blockK 0 (seqK (evalK G run n f69_keep 0 (sub [1, 1] f69_body) (retE G f69_info)) (retE G f69_info))) k0
    ⟨[.val (.slice .bool) none (.slice x0_1), .val (.slice .bool) none (.slice x1_1), .any, .any, .any, .val (.int .i64) none (.int x5_1), .any, .any, .any, .any, .any, .any, .any, .any, .any, .any, .any, .any, .any, .any, .any, .any, .any, .any, .any, .any], [⟨0, none⟩, ⟨0, none⟩, ⟨0, none⟩, ⟨0, none⟩, ⟨0, none⟩, ⟨0, none⟩, ⟨0, none⟩, ⟨0, none⟩, ⟨0, none⟩, ⟨0, none⟩, ⟨0, none⟩, ⟨0, none⟩, ⟨0, none⟩, ⟨0, none⟩, ⟨0, none⟩, ⟨0, none⟩, ⟨0, none⟩, ⟨0, none⟩, ⟨0, none⟩, ⟨0, none⟩, ⟨0, none⟩, ⟨0, none⟩, ⟨0, none⟩, ⟨0, none⟩, ⟨0, none⟩, ⟨0, none⟩], List.replicate 26 0⟩
theorem f69_l0_eq (run : Run) (n : Nat) (k0 : Nat) (x0_1 : List AV) (x1_1 : List AV) (x5_1 : Int) : f69_l0 run n (k0 + 1) x0_1 x1_1 x5_1 =
  bif leI 0 x5_1 then
    bif inR x5_1 x0_1.length then
    bif inR x5_1 x1_1.length then
    bif !(eqO ((nth x0_1 (Int.toNat x5_1)).toBool) ((nth x1_1 (Int.toNat x5_1)).toBool)) then
    bif inR x5_1 x0_1.length then
    bif (nth x0_1 (Int.toNat x5_1)).toBool then
    some ⟨[.int 1], [], f69_fresh⟩
  else
    some ⟨[.int (-1)], [], f69_fresh⟩
  else none
  else
    f69_l0 run n k0 x0_1 x1_1 (IntKind.wrap .i64 (x5_1 - 1))
  else none
  else none
  else
    some ⟨[.int 0], [], f69_fresh⟩ := by kernel_rfl
noncomputable def f69 (run : Run) (n : Nat) (a0_1 : List AV) (a1_1 : List AV) : Option Res := evalK G run n f69_info.keep 0 f69_info.body (retE G f69_info) (f69_info.start [.slice a0_1, .slice a1_1])
theorem f69_eq (run : Run) (n : Nat) (a0_1 : List AV) (a1_1 : List AV) : f69 run n a0_1 a1_1 =
  f69_l0 run n n a0_1 a1_1 (IntKind.wrap .i64 ((a0_1.length : Int) - 1)) := by kernel_rfl
theorem f69_run (ext : Run) (n : Nat) (a0_1 : List AV) (a1_1 : List AV) : runE G ext (n + 1) 69 [.slice a0_1, .slice a1_1] = f69 (runE G ext n) n a0_1 a1_1 := runE_succ f69_at f69_in

noncomputable def f38 (run : Run) (n : Nat) (a0_1 : List UInt8) (a1_1 : List UInt8) : Option Res := evalK G run n f38_info.keep 0 f38_info.body (retE G f38_info) (f38_info.start [.blob a0_1, .blob a1_1])
theorem f38_eq (run : Run) (n : Nat) (a0_1 : List UInt8) (a1_1 : List UInt8) : f38 run n a0_1 a1_1 =
  (run 70 [.blob a0_1]).bind fun r1 =>
    bif r1.fresh then
    nilV r1.outs (consV r1.vals fun v1 vs1 =>
    nilV vs1 ((run 70 [.blob a1_1]).bind fun r2 =>
    bif r2.fresh then
    nilV r2.outs (consV r2.vals fun v2 vs2 =>
    nilV vs2 ((run 69 [.slice v1.toSlice, .slice v2.toSlice]).bind fun r3 =>
    nilV r3.outs (consV r3.vals fun v3 vs3 =>
    nilV vs3 (some ⟨[.bool (leI v3.toInt 0)], [], f38_fresh⟩))))
  else none))
  else none := by kernel_rfl
theorem f38_run (ext : Run) (n : Nat) (a0_1 : List UInt8) (a1_1 : List UInt8) : runE G ext (n + 1) 38 [.blob a0_1, .blob a1_1] = f38 (runE G ext n) n a0_1 a1_1 := runE_succ f38_at f38_in

noncomputable def f105 (run : Run) (n : Nat) (a0_1 : List UInt8) : Option Res := evalK G run n f105_info.keep 0 f105_info.body (retE G f105_info) (f105_info.start [.blob a0_1])
theorem f105_eq (run : Run) (n : Nat) (a0_1 : List UInt8) : f105 run n a0_1 =
  (run 104 [.blob a0_1]).bind fun r1 =>
    nilV r1.outs (consV r1.vals fun v1 vs1 =>
    nilV vs1 (bif Nat.ble (1 + v1.toStr.length) maxLen then
    some ⟨[.str ([76] ++ v1.toStr)], [], f105_fresh⟩
  else none)) := by kernel_rfl
theorem f105_run (ext : Run) (n : Nat) (a0_1 : List UInt8) : runE G ext (n + 1) 105 [.blob a0_1] = f105 (runE G ext n) n a0_1 := runE_succ f105_at f105_in

noncomputable def f147_l0 (run : Run) (n : Nat) (k0 : Nat) (x0_1 : Int) (x3_1 : Int) (x4_1 : Int) : Option Res :=
  iterK (evalK G run n f147_keep 0 (sub [1, 1, 0, 1, 0, 0] f147_body)) f147_t0 f147_o0 (blockK 0 (seqK (evalK G run n f147_keep 0 (sub [1, 1, 1] f147_body) (retE G f147_info)) (retE G f147_info))) k0
    ⟨[.val (.int .i64) none (.int x0_1), .any, .any, .val (.int .i64) none (.int x3_1), .val (.int .i64) none (.int x4_1), .any, .any, .any, .any, .any, .any, .any, .any, .any, .any, .any], [⟨0, none⟩, ⟨0, none⟩, ⟨0, none⟩, ⟨0, none⟩, ⟨0, none⟩, ⟨0, none⟩, ⟨0, none⟩, ⟨0, none⟩, ⟨0, none⟩, ⟨0, none⟩, ⟨0, none⟩, ⟨0, none⟩, ⟨0, none⟩, ⟨0, none⟩, ⟨0, none⟩, ⟨0, none⟩], List.replicate 16 0⟩
theorem f147_l0_eq (run : Run) (n : Nat) (k0 : Nat) (x0_1 : Int) (x3_1 : Int) (x4_1 : Int) : f147_l0 run n (k0 + 1) x0_1 x3_1 x4_1 =
  bif ltI x4_1 x0_1 then
    bif ltI 0 x4_1 then
    f147_l0 run n k0 x0_1 x4_1 (IntKind.wrap .i64 (x4_1 * 2))
  else
    some ⟨[.int x3_1], [], f147_fresh⟩
  else
    some ⟨[.int x3_1], [], f147_fresh⟩ := by kernel_rfl
noncomputable def f147 (run : Run) (n : Nat) (a0_1 : Int) : Option Res := evalK G run n f147_info.keep 0 f147_info.body (retE G f147_info) (f147_info.start [.int a0_1])
theorem f147_eq (run : Run) (n : Nat) (a0_1 : Int) : f147 run n a0_1 =
  f147_l0 run n n a0_1 0 1 := by kernel_rfl
theorem f147_run (ext : Run) (n : Nat) (a0_1 : Int) : runE G ext (n + 1) 147 [.int a0_1] = f147 (runE G ext n) n a0_1 := runE_succ f147_at f147_in

noncomputable def f167 (run : Run) (n : Nat) (a0_1 : Int) (a1_1 : Int) : Option Res := evalK G run n f167_info.keep 0 f167_info.body (retE G f167_info) (f167_info.start [.int a0_1, .int a1_1])
theorem f167_eq (run : Run) (n : Nat) (a0_1 : Int) (a1_1 : Int) : f167 run n a0_1 a1_1 =
  bif ltI a1_1 0 then
    some ⟨[.slice []], [], f167_fresh⟩
  else
    bif leI a0_1 a1_1 then
    some ⟨[.slice []], [], f167_fresh⟩
  else
    bif eqI a0_1 1 then
    some ⟨[.slice []], [], f167_fresh⟩
  else
    (run 147 [.int a0_1]).bind fun r1 =>
    nilV r1.outs (consV r1.vals fun v1 vs1 =>
    nilV vs1 (bif ltI a1_1 v1.toInt then
    (run 167 [.int v1.toInt, .int a1_1]).bind fun r2 =>
    bif r2.fresh then
    nilV r2.outs (consV r2.vals fun v2 vs2 =>
    nilV vs2 (bif Nat.ble ((v2.toSlice.length + 1) * 1) 140737488355328 then
    some ⟨[.slice (v2.toSlice ++ [.bool false])], [], f167_fresh⟩
  else none))
  else none
  else
    (run 167 [.int (IntKind.wrap .i64 (a0_1 - v1.toInt)), .int (IntKind.wrap .i64 (a1_1 - v1.toInt))]).bind fun r3 =>
    bif r3.fresh then
    nilV r3.outs (consV r3.vals fun v3 vs3 =>
    nilV vs3 (bif Nat.ble ((v3.toSlice.length + 1) * 1) 140737488355328 then
    some ⟨[.slice (v3.toSlice ++ [.bool true])], [], f167_fresh⟩
  else none))
  else none)) := by kernel_rfl
theorem f167_run (ext : Run) (n : Nat) (a0_1 : Int) (a1_1 : Int) : runE G ext (n + 1) 167 [.int a0_1, .int a1_1] = f167 (runE G ext n) n a0_1 a1_1 := runE_succ f167_at f167_in

noncomputable def f154 (run : Run) (n : Nat) (a0_1 : Int) (a1_1 : Int) : Option Res := evalK G run n f154_info.keep 0 f154_info.body (retE G f154_info) (f154_info.start [.int a0_1, .int a1_1])
theorem f154_eq (run : Run) (n : Nat) (a0_1 : Int) (a1_1 : Int) : f154 run n a0_1 a1_1 =
  bif ltI a1_1 0 then
    some ⟨[.int (-1)], [], f154_fresh⟩
  else
    bif leI a0_1 a1_1 then
    some ⟨[.int (-1)], [], f154_fresh⟩
  else
    (run 167 [.int a0_1, .int a1_1]).bind fun r1 =>
    bif r1.fresh then
    nilV r1.outs (consV r1.vals fun v1 vs1 =>
    nilV vs1 (some ⟨[.int (v1.toSlice.length : Int)], [], f154_fresh⟩))
  else none := by kernel_rfl
theorem f154_run (ext : Run) (n : Nat) (a0_1 : Int) (a1_1 : Int) : runE G ext (n + 1) 154 [.int a0_1, .int a1_1] = f154 (runE G ext n) n a0_1 a1_1 := runE_succ f154_at f154_in

noncomputable def f134 (run : Run) (n : Nat) (a0_1 : Int) (a0_2 : Int) (a0_3 : List AV) : Option Res := evalK G run n f134_info.keep 0 f134_info.body (retE G f134_info) (f134_info.start [.agg [.int a0_1, .int a0_2, .slice a0_3]])
theorem f134_eq (run : Run) (n : Nat) (a0_1 : Int) (a0_2 : Int) (a0_3 : List AV) : f134 run n a0_1 a0_2 a0_3 =
  bif ltI a0_2 1 then
    some ⟨[.int 3], [], f134_fresh⟩
  else
    bif ltI 1048576 a0_2 then
    some ⟨[.int 3], [], f134_fresh⟩
  else
    bif ltI a0_1 0 then
    some ⟨[.int 3], [], f134_fresh⟩
  else
    bif leI a0_2 a0_1 then
    some ⟨[.int 3], [], f134_fresh⟩
  else
    (run 154 [.int a0_2, .int a0_1]).bind fun r1 =>
    nilV r1.outs (consV r1.vals fun v1 vs1 =>
    nilV vs1 (bif !(eqI (a0_3.length : Int) v1.toInt) then
    some ⟨[.int 2], [], f134_fresh⟩
  else
    some ⟨[.int 0], [], f134_fresh⟩)) := by kernel_rfl
theorem f134_run (ext : Run) (n : Nat) (a0_1 : Int) (a0_2 : Int) (a0_3 : List AV) : runE G ext (n + 1) 134 [.agg [.int a0_1, .int a0_2, .slice a0_3]] = f134 (runE G ext n) n a0_1 a0_2 a0_3 := runE_succ f134_at f134_in

noncomputable def f155 (run : Run) (n : Nat) (a0_1 : List UInt8) : Option Res := evalK G run n f155_info.keep 0 f155_info.body (retE G f155_info) (f155_info.start [.str a0_1])
theorem f155_eq (run : Run) (n : Nat) (a0_1 : List UInt8) : f155 run n a0_1 =
  (run 103 [.int 0]).bind fun r1 =>
    nilV r1.outs (consV r1.vals fun v1 vs1 =>
    nilV vs1 (bif Nat.ble (v1.toStr.length + a0_1.length) maxLen then
    some ⟨[.str (v1.toStr ++ a0_1)], [], f155_fresh⟩
  else none)) := by kernel_rfl
theorem f155_run (ext : Run) (n : Nat) (a0_1 : List UInt8) : runE G ext (n + 1) 155 [.str a0_1] = f155 (runE G ext n) n a0_1 := runE_succ f155_at f155_in

noncomputable def f136 (run : Run) (n : Nat) (a0_1 : List UInt8) : Option Res := evalK G run n f136_info.keep 0 f136_info.body (retE G f136_info) (f136_info.start [.str a0_1])
theorem f136_eq (run : Run) (n : Nat) (a0_1 : List UInt8) : f136 run n a0_1 =
  (run 155 [.str a0_1]).bind fun r1 =>
    nilV r1.outs (consV r1.vals fun v1 vs1 =>
    nilV vs1 ((run 71 [.str v1.toStr]).bind fun r2 =>
    nilV r2.outs (consV r2.vals fun v2 vs2 =>
    nilV vs2 (some ⟨[.blob v2.toBlob], [], f136_fresh⟩)))) := by kernel_rfl
theorem f136_run (ext : Run) (n : Nat) (a0_1 : List UInt8) : runE G ext (n + 1) 136 [.str a0_1] = f136 (runE G ext n) n a0_1 := runE_succ f136_at f136_in

noncomputable def f162 (run : Run) (n : Nat) (a0_1 : List UInt8) (a1_1 : List UInt8) : Option Res := evalK G run n f162_info.keep 0 f162_info.body (retE G f162_info) (f162_info.start [.blob a0_1, .blob a1_1])
theorem f162_eq (run : Run) (n : Nat) (a0_1 : List UInt8) (a1_1 : List UInt8) : f162 run n a0_1 a1_1 =
  (run 103 [.int 1]).bind fun r1 =>
    nilV r1.outs (consV r1.vals fun v1 vs1 =>
    nilV vs1 ((run 104 [.blob a0_1]).bind fun r2 =>
    nilV r2.outs (consV r2.vals fun v2 vs2 =>
    nilV vs2 (bif Nat.ble (v1.toStr.length + v2.toStr.length) maxLen then
    (run 104 [.blob a1_1]).bind fun r3 =>
    nilV r3.outs (consV r3.vals fun v3 vs3 =>
    nilV vs3 (bif Nat.ble ((v1.toStr ++ v2.toStr).length + v3.toStr.length) maxLen then
    some ⟨[.str ((v1.toStr ++ v2.toStr) ++ v3.toStr)], [], f162_fresh⟩
  else none))
  else none)))) := by kernel_rfl
theorem f162_run (ext : Run) (n : Nat) (a0_1 : List UInt8) (a1_1 : List UInt8) : runE G ext (n + 1) 162 [.blob a0_1, .blob a1_1] = f162 (runE G ext n) n a0_1 a1_1 := runE_succ f162_at f162_in

noncomputable def f148 (run : Run) (n : Nat) (a0_1 : List UInt8) (a1_1 : List UInt8) : Option Res := evalK G run n f148_info.keep 0 f148_info.body (retE G f148_info) (f148_info.start [.blob a0_1, .blob a1_1])
theorem f148_eq (run : Run) (n : Nat) (a0_1 : List UInt8) (a1_1 : List UInt8) : f148 run n a0_1 a1_1 =
  (run 162 [.blob a0_1, .blob a1_1]).bind fun r1 =>
    nilV r1.outs (consV r1.vals fun v1 vs1 =>
    nilV vs1 ((run 71 [.str v1.toStr]).bind fun r2 =>
    nilV r2.outs (consV r2.vals fun v2 vs2 =>
    nilV vs2 (some ⟨[.blob v2.toBlob], [], f148_fresh⟩)))) := by kernel_rfl
theorem f148_run (ext : Run) (n : Nat) (a0_1 : List UInt8) (a1_1 : List UInt8) : runE G ext (n + 1) 148 [.blob a0_1, .blob a1_1] = f148 (runE G ext n) n a0_1 a1_1 := runE_succ f148_at f148_in

noncomputable def f135 (run : Run) (n : Nat) (a0_1 : Int) (a1_1 : Int) (a2_1 : List UInt8) (a3_1 : List AV) : Option Res := evalK G run n f135_info.keep 0 f135_info.body (retE G f135_info) (f135_info.start [.int a0_1, .int a1_1, .blob a2_1, .slice a3_1])
theorem f135_eq (run : Run) (n : Nat) (a0_1 : Int) (a1_1 : Int) (a2_1 : List UInt8) (a3_1 : List AV) : f135 run n a0_1 a1_1 a2_1 a3_1 =
  bif eqI a0_1 1 then
    some ⟨[.blob a2_1], [], f135_fresh⟩
  else
    (run 147 [.int a0_1]).bind fun r1 =>
    nilV r1.outs (consV r1.vals fun v1 vs1 =>
    nilV vs1 (bif ltI a1_1 v1.toInt then
    bif boundsOk 0 (IntKind.wrap .i64 ((a3_1.length : Int) - 1)) (a3_1.length : Int) (a3_1.length : Int) && true then
    (run 135 [.int v1.toInt, .int a1_1, .blob a2_1, .slice (List.drop 0 (List.take (Int.toNat (IntKind.wrap .i64 ((a3_1.length : Int) - 1))) a3_1))]).bind fun r2 =>
    nilV r2.outs (consV r2.vals fun v2 vs2 =>
    nilV vs2 (bif inR (IntKind.wrap .i64 ((a3_1.length : Int) - 1)) a3_1.length then
    (run 148 [.blob v2.toBlob, .blob ((nth a3_1 (Int.toNat (IntKind.wrap .i64 ((a3_1.length : Int) - 1)))).toBlob)]).bind fun r3 =>
    nilV r3.outs (consV r3.vals fun v3 vs3 =>
    nilV vs3 (some ⟨[.blob v3.toBlob], [], f135_fresh⟩))
  else none))
  else none
  else
    bif inR (IntKind.wrap .i64 ((a3_1.length : Int) - 1)) a3_1.length then
    bif boundsOk 0 (IntKind.wrap .i64 ((a3_1.length : Int) - 1)) (a3_1.length : Int) (a3_1.length : Int) && true then
    (run 135 [.int (IntKind.wrap .i64 (a0_1 - v1.toInt)), .int (IntKind.wrap .i64 (a1_1 - v1.toInt)), .blob a2_1, .slice (List.drop 0 (List.take (Int.toNat (IntKind.wrap .i64 ((a3_1.length : Int) - 1))) a3_1))]).bind fun r4 =>
    nilV r4.outs (consV r4.vals fun v4 vs4 =>
    nilV vs4 ((run 148 [.blob ((nth a3_1 (Int.toNat (IntKind.wrap .i64 ((a3_1.length : Int) - 1)))).toBlob), .blob v4.toBlob]).bind fun r5 =>
    nilV r5.outs (consV r5.vals fun v5 vs5 =>
    nilV vs5 (some ⟨[.blob v5.toBlob], [], f135_fresh⟩))))
  else none
  else none)) := by kernel_rfl
theorem f135_run (ext : Run) (n : Nat) (a0_1 : Int) (a1_1 : Int) (a2_1 : List UInt8) (a3_1 : List AV) : runE G ext (n + 1) 135 [.int a0_1, .int a1_1, .blob a2_1, .slice a3_1] = f135 (runE G ext n) n a0_1 a1_1 a2_1 a3_1 := runE_succ f135_at f135_in

noncomputable def f146 (run : Run) (n : Nat) (a0_1 : Int) (a1_1 : List UInt8) : Option Res := evalK G run n f146_info.keep 0 f146_info.body (retE G f146_info) (f146_info.start [.int a0_1, .blob a1_1])
theorem f146_eq (run : Run) (n : Nat) (a0_1 : Int) (a1_1 : List UInt8) : f146 run n a0_1 a1_1 =
  (run 103 [.int 2]).bind fun r1 =>
    nilV r1.outs (consV r1.vals fun v1 vs1 =>
    nilV vs1 ((run 102 [.int a0_1, .int 8]).bind fun r2 =>
    nilV r2.outs (consV r2.vals fun v2 vs2 =>
    nilV vs2 (bif Nat.ble (v1.toStr.length + v2.toStr.length) maxLen then
    (run 104 [.blob a1_1]).bind fun r3 =>
    nilV r3.outs (consV r3.vals fun v3 vs3 =>
    nilV vs3 (bif Nat.ble ((v1.toStr ++ v2.toStr).length + v3.toStr.length) maxLen then
    some ⟨[.str ((v1.toStr ++ v2.toStr) ++ v3.toStr)], [], f146_fresh⟩
  else none))
  else none)))) := by kernel_rfl
theorem f146_run (ext : Run) (n : Nat) (a0_1 : Int) (a1_1 : List UInt8) : runE G ext (n + 1) 146 [.int a0_1, .blob a1_1] = f146 (runE G ext n) n a0_1 a1_1 := runE_succ f146_at f146_in

noncomputable def f128 (run : Run) (n : Nat) (a0_1 : Int) (a1_1 : List UInt8) : Option Res := evalK G run n f128_info.keep 0 f128_info.body (retE G f128_info) (f128_info.start [.int a0_1, .blob a1_1])
theorem f128_eq (run : Run) (n : Nat) (a0_1 : Int) (a1_1 : List UInt8) : f128 run n a0_1 a1_1 =
  (run 146 [.int a0_1, .blob a1_1]).bind fun r1 =>
    nilV r1.outs (consV r1.vals fun v1 vs1 =>
    nilV vs1 ((run 71 [.str v1.toStr]).bind fun r2 =>
    nilV r2.outs (consV r2.vals fun v2 vs2 =>
    nilV vs2 (some ⟨[.blob v2.toBlob], [], f128_fresh⟩)))) := by kernel_rfl
theorem f128_run (ext : Run) (n : Nat) (a0_1 : Int) (a1_1 : List UInt8) : runE G ext (n + 1) 128 [.int a0_1, .blob a1_1] = f128 (runE G ext n) n a0_1 a1_1 := runE_succ f128_at f128_in

noncomputable def f113 (run : Run) (n : Nat) (a0_1 : List UInt8) (a1_1 : Int) (a1_2 : Int) (a1_3 : List AV) : Option Res := evalK G run n f113_info.keep 0 f113_info.body (retE G f113_info) (f113_info.start [.str a0_1, .agg [.int a1_1, .int a1_2, .slice a1_3]])
theorem f113_eq (run : Run) (n : Nat) (a0_1 : List UInt8) (a1_1 : Int) (a1_2 : Int) (a1_3 : List AV) : f113 run n a0_1 a1_1 a1_2 a1_3 =
  (run 134 [.agg [.int a1_1, .int a1_2, .slice a1_3]]).bind fun r1 =>
    nilV r1.outs (consV r1.vals fun v1 vs1 =>
    nilV vs1 (bif !(eqI v1.toInt 0) then
    some ⟨[.blob [0, 0, 0, 0, 0, 0, 0, 0, 0, 0, 0, 0, 0, 0, 0, 0, 0, 0, 0, 0, 0, 0, 0, 0, 0, 0, 0, 0, 0, 0, 0, 0], .int v1.toInt], [], f113_fresh⟩
  else
    (run 136 [.str a0_1]).bind fun r2 =>
    nilV r2.outs (consV r2.vals fun v2 vs2 =>
    nilV vs2 ((run 135 [.int a1_2, .int a1_1, .blob v2.toBlob, .slice a1_3]).bind fun r3 =>
    nilV r3.outs (consV r3.vals fun v3 vs3 =>
    nilV vs3 ((run 128 [.int (IntKind.wrap .u64 a1_2), .blob v3.toBlob]).bind fun r4 =>
    nilV r4.outs (consV r4.vals fun v4 vs4 =>
    nilV vs4 (some ⟨[.blob v4.toBlob, .int 0], [], f113_fresh⟩)))))))) := by kernel_rfl
theorem f113_run (ext : Run) (n : Nat) (a0_1 : List UInt8) (a1_1 : Int) (a1_2 : Int) (a1_3 : List AV) : runE G ext (n + 1) 113 [.str a0_1, .agg [.int a1_1, .int a1_2, .slice a1_3]] = f113 (runE G ext n) n a0_1 a1_1 a1_2 a1_3 := runE_succ f113_at f113_in

noncomputable def f85 (run : Run) (n : Nat) (a0_1 : List UInt8) (a1_1 : List UInt8) (a2_1 : Int) (a2_2 : Int) (a2_3 : List AV) : Option Res := evalK G run n f85_info.keep 0 f85_info.body (retE G f85_info) (f85_info.start [.blob a0_1, .str a1_1, .agg [.int a2_1, .int a2_2, .slice a2_3]])
theorem f85_eq (run : Run) (n : Nat) (a0_1 : List UInt8) (a1_1 : List UInt8) (a2_1 : Int) (a2_2 : Int) (a2_3 : List AV) : f85 run n a0_1 a1_1 a2_1 a2_2 a2_3 =
  (run 113 [.str a1_1, .agg [.int a2_1, .int a2_2, .slice a2_3]]).bind fun r1 =>
    nilV r1.outs (consV r1.vals fun v1 vs1 =>
    consV vs1 fun v2 vs2 =>
    nilV vs2 (bif eqI v2.toInt 0 then
    some ⟨[.bool (eqS v1.toBlob a0_1)], [], f85_fresh⟩
  else
    some ⟨[.bool false], [], f85_fresh⟩)) := by kernel_rfl
theorem f85_run (ext : Run) (n : Nat) (a0_1 : List UInt8) (a1_1 : List UInt8) (a2_1 : Int) (a2_2 : Int) (a2_3 : List AV) : runE G ext (n + 1) 85 [.blob a0_1, .str a1_1, .agg [.int a2_1, .int a2_2, .slice a2_3]] = f85 (runE G ext n) n a0_1 a1_1 a2_1 a2_2 a2_3 := runE_succ f85_at f85_in

noncomputable def f74 (run : Run) (n : Nat) (a0_1 : List UInt8) (a1_1 : List UInt8) (a2_1 : Int) (a2_2 : Int) (a2_3 : List AV) : Option Res := evalK G run n f74_info.keep 0 f74_info.body (retE G f74_info) (f74_info.start [.blob a0_1, .blob a1_1, .agg [.int a2_1, .int a2_2, .slice a2_3]])
theorem f74_eq (run : Run) (n : Nat) (a0_1 : List UInt8) (a1_1 : List UInt8) (a2_1 : Int) (a2_2 : Int) (a2_3 : List AV) : f74 run n a0_1 a1_1 a2_1 a2_2 a2_3 =
  bif leI a2_2 257 then
    (run 105 [.blob a1_1]).bind fun r1 =>
    nilV r1.outs (consV r1.vals fun v1 vs1 =>
    nilV vs1 ((run 85 [.blob a0_1, .str v1.toStr, .agg [.int a2_1, .int a2_2, .slice a2_3]]).bind fun r2 =>
    nilV r2.outs (consV r2.vals fun v2 vs2 =>
    nilV vs2 (some ⟨[.bool v2.toBool], [], f74_fresh⟩))))
  else
    some ⟨[.bool false], [], f74_fresh⟩ := by kernel_rfl
theorem f74_run (ext : Run) (n : Nat) (a0_1 : List UInt8) (a1_1 : List UInt8) (a2_1 : Int) (a2_2 : Int) (a2_3 : List AV) : runE G ext (n + 1) 74 [.blob a0_1, .blob a1_1, .agg [.int a2_1, .int a2_2, .slice a2_3]] = f74 (runE G ext n) n a0_1 a1_1 a2_1 a2_2 a2_3 := runE_succ f74_at f74_in

noncomputable def f40 (run : Run) (n : Nat) (a0_1 : Int) (a0_2 : List UInt8) (a0_3 : List UInt8) (a0_4 : Int) (a0_5 : Int) (a0_6 : Int) (a0_7 : List AV) (a1_1 : Int) (a1_2 : List UInt8) (a1_3 : List UInt8) (a1_4 : Int) : Option Res := evalK G run n f40_info.keep 0 f40_info.body (retE G f40_info) (f40_info.start [.agg [.agg [.int a0_1, .blob a0_2, .blob a0_3, .int a0_4], .agg [.int a0_5, .int a0_6, .slice a0_7]], .agg [.int a1_1, .blob a1_2, .blob a1_3, .int a1_4]])
theorem f40_eq (run : Run) (n : Nat) (a0_1 : Int) (a0_2 : List UInt8) (a0_3 : List UInt8) (a0_4 : Int) (a0_5 : Int) (a0_6 : Int) (a0_7 : List AV) (a1_1 : Int) (a1_2 : List UInt8) (a1_3 : List UInt8) (a1_4 : Int) : f40 run n a0_1 a0_2 a0_3 a0_4 a0_5 a0_6 a0_7 a1_1 a1_2 a1_3 a1_4 =
  (run 39 [.agg [.int a1_1, .blob a1_2, .blob a1_3, .int a1_4]]).bind fun r1 =>
    nilV r1.outs (consV r1.vals fun v1 vs1 =>
    nilV vs1 ((run 74 [.blob a0_2, .blob v1.toBlob, .agg [.int a0_5, .int a0_6, .slice a0_7]]).bind fun r2 =>
    nilV r2.outs (consV r2.vals fun v2 vs2 =>
    nilV vs2 (some ⟨[.bool v2.toBool], [], f40_fresh⟩)))) := by kernel_rfl
theorem f40_run (ext : Run) (n : Nat) (a0_1 : Int) (a0_2 : List UInt8) (a0_3 : List UInt8) (a0_4 : Int) (a0_5 : Int) (a0_6 : Int) (a0_7 : List AV) (a1_1 : Int) (a1_2 : List UInt8) (a1_3 : List UInt8) (a1_4 : Int) : runE G ext (n + 1) 40 [.agg [.agg [.int a0_1, .blob a0_2, .blob a0_3, .int a0_4], .agg [.int a0_5, .int a0_6, .slice a0_7]], .agg [.int a1_1, .blob a1_2, .blob a1_3, .int a1_4]] = f40 (runE G ext n) n a0_1 a0_2 a0_3 a0_4 a0_5 a0_6 a0_7 a1_1 a1_2 a1_3 a1_4 := runE_succ f40_at f40_in

end Go.Proofs.YtddcooedbibehaaGreat.Ev
