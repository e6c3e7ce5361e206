/- What the evaluator does with the functions, as programs over plain values: printed by gen.py, checked by the kernel. -/
import Derived.Test.YtogehijjhibdkaaGreatEvFA
namespace Go.Proofs.YtogehijjhibdkaaGreat.Ev
open Go Go.RowKit
set_option maxRecDepth 100000


noncomputable def f11_l3 (run : Run) (n : Nat) (k1 : Nat) (k3 : Nat) (x2_12 : Int) (x2_13 : List UInt8) (x2_14 : List UInt8) (x2_15 : Int) (x2_16 : List UInt8) (x2_17 : Int) (x2_18 : Int) (x2_19 : Int) (x2_20 : Int) (x2_21 : Int) (x2_22 : Int) (x5_2 : List AV) (x6_1 : Int) (x22_2 : List AV) (x23_2 : Int) (x24_2 : Int) (x40_1 : List AV) (x41_1 : Int) (x42_1 : Int) (o4_3 : Int) (o4_4 : Int) (o7_1 : Int) (o7_2 : List UInt8) (o7_3 : List UInt8) (o7_4 : Int) (o7_5 : List AV) : Option Res :=
  iterK (evalK G run n f11_keep 3 (sub [1, 1, 1, 0, 1, 0, 0, 1, 1, 0, 0, 1, 1, 0, 1, 0, 0] f11_body)) f11_t3 f11_o3 (blockK 3 (seqK (evalK G run n f11_keep 2 (sub [1, 1, 1, 0, 1, 0, 0, 1, 1, 0, 0, 1, 1, 1] f11_body) (blockK 2 (seqK (evalK G run n f11_keep 1 (sub [1, 1, 1, 0, 1, 0, 0, 1, 1, 1] f11_body) (seqK (fun t => iterK (evalK G run n f11_keep 1 (sub [1, 1, 1, 0, 1, 0, 0] f11_body)) f11_t1 f11_o1 (blockK 1 (seqK (evalK G run n f11_keep 0 (sub [1, 1, 1, 1] f11_body) (retE G f11_info)) (retE G f11_info))) k1 (t.clear f11_t1 f11_o1)) (blockK 1 (seqK (evalK G run n f11_keep 0 (sub [1, 1, 1, 1] f11_body) (retE G f11_info)) (retE G f11_info))))) (seqK (fun t => iterK (evalK G run n f11_keep 1 (sub [1, 1, 1, 0, 1, 0, 0] f11_body)) f11_t1 f11_o1 (blockK 1 (seqK (evalK G run n f11_keep 0 (sub [1, 1, 1, 1] f11_body) (retE G f11_info)) (retE G f11_info))) k1 (t.clear f11_t1 f11_o1)) (blockK 1 (seqK (evalK G run n f11_keep 0 (sub [1, 1, 1, 1] f11_body) (retE G f11_info)) (retE G f11_info))))))) (blockK 2 (seqK (evalK G run n f11_keep 1 (sub [1, 1, 1, 0, 1, 0, 0, 1, 1, 1] f11_body) (seqK (fun t => iterK (evalK G run n f11_keep 1 (sub [1, 1, 1, 0, 1, 0, 0] f11_body)) f11_t1 f11_o1 (blockK 1 (seqK (evalK G run n f11_keep 0 (sub [1, 1, 1, 1] f11_body) (retE G f11_info)) (retE G f11_info))) k1 (t.clear f11_t1 f11_o1)) (blockK 1 (seqK (evalK G run n f11_keep 0 (sub [1, 1, 1, 1] f11_body) (retE G f11_info)) (retE G f11_info))))) (seqK (fun t => iterK (evalK G run n f11_keep 1 (sub [1, 1, 1, 0, 1, 0, 0] f11_body)) f11_t1 f11_o1 (blockK 1 (seqK (evalK G run n f11_keep 0 (sub [1, 1, 1, 1] f11_body) (retE G f11_info)) (retE G f11_info))) k1 (t.clear f11_t1 f11_o1)) (blockK 1 (seqK (evalK G run n f11_keep 0 (sub [1, 1, 1, 1] f11_body) (retE G f11_info)) (retE G f11_info)))))))) k3
    ⟨[.any, .any, .val (.pat (.struct [(.struct [(.int .u32), (.blob 32), (.blob 32), (.int .u64)]), (.blob 32), (.int .i64), (.int .i64), (.int .i64), (.int .i64), (.int .i64), (.int .i64)])) none (.agg [.agg [.int x2_12, .blob x2_13, .blob x2_14, .int x2_15], .blob x2_16, .int x2_17, .int x2_18, .int x2_19, .int x2_20, .int x2_21, .int x2_22]), .any, .ptr ⟨(.struct [(.int .i64), (.int .i64)]), 4, 1, []⟩, .val (.slice (.blob 32)) none (.slice x5_2), .val (.int .i64) none (.int x6_1), .ptr ⟨(.struct [(.struct [(.int .u32), (.blob 32), (.blob 32), (.int .u64)]), (.slice .str)]), 7, 1, []⟩, .any, .any, .any, .any, .any, .any, .any, .any, .any, .any, .any, .any, .any, .any, .val (.slice (.struct [(.struct [(.int .u32), (.blob 32), (.blob 32), (.int .u64)]), (.slice .str)])) none (.slice x22_2), .val (.int .i64) none (.int x23_2), .val (.int .i64) none (.int x24_2), .any, .any, .any, .any, .any, .any, .any, .any, .any, .any, .any, .any, .any, .any, .any, .val (.slice (.clos [(39, ([0], [])), (40, ([0], [])), (41, ([0], []))] [(.struct [(.struct [(.struct [(.int .u32), (.blob 32), (.blob 32), (.int .u64)]), (.blob 32), (.int .i64), (.int .i64), (.int .i64), (.int .i64), (.int .i64), (.int .i64)]), (.int .i64), (.struct [(.struct [(.int .u32), (.blob 32), (.blob 32), (.int .u64)]), (.slice .str)]), (.slice (.blob 32))])])) (some (40, 0)) (.slice x40_1), .val (.int .i64) none (.int x41_1), .val (.int .i64) none (.int x42_1), .any, .any, .any, .any, .any, .any, .any, .any, .any, .any, .any, .any, .any, .any, .any, .any, .any, .any, .any], [⟨0, none⟩, ⟨0, none⟩, ⟨0, none⟩, ⟨0, none⟩, ⟨1, some ⟨(.struct [(.int .i64), (.int .i64)]), .agg [.int o4_3, .int o4_4]⟩⟩, ⟨0, none⟩, ⟨0, none⟩, ⟨1, some ⟨(.struct [(.struct [(.int .u32), (.blob 32), (.blob 32), (.int .u64)]), (.slice .str)]), .agg [.agg [.int o7_1, .blob o7_2, .blob o7_3, .int o7_4], .slice o7_5]⟩⟩, ⟨0, none⟩, ⟨0, none⟩, ⟨0, none⟩, ⟨0, none⟩, ⟨0, none⟩, ⟨0, none⟩, ⟨0, none⟩, ⟨0, none⟩, ⟨0, none⟩, ⟨0, none⟩, ⟨0, none⟩, ⟨0, none⟩, ⟨0, none⟩, ⟨0, none⟩, ⟨0, none⟩, ⟨0, none⟩, ⟨0, none⟩, ⟨0, none⟩, ⟨0, none⟩, ⟨0, none⟩, ⟨0, none⟩, ⟨0, none⟩, ⟨0, none⟩, ⟨0, none⟩, ⟨0, none⟩, ⟨0, none⟩, ⟨0, none⟩, ⟨0, none⟩, ⟨0, none⟩, ⟨0, none⟩, ⟨0, none⟩, ⟨0, none⟩, ⟨0, none⟩, ⟨0, none⟩, ⟨0, none⟩, ⟨0, none⟩, ⟨0, none⟩, ⟨0, none⟩, ⟨0, none⟩, ⟨0, none⟩, ⟨0, none⟩, ⟨0, none⟩, ⟨0, none⟩, ⟨0, none⟩, ⟨0, none⟩, ⟨0, none⟩, ⟨0, none⟩, ⟨0, none⟩, ⟨0, none⟩, ⟨0, none⟩, ⟨0, none⟩, ⟨0, none⟩, ⟨0, none⟩, ⟨0, none⟩], List.replicate 62 0⟩
noncomputable def f11_l1 (run : Run) (n : Nat) (k1 : Nat) (x2_1 : Int) (x2_2 : List UInt8) (x2_3 : List UInt8) (x2_4 : Int) (x2_5 : List UInt8) (x2_6 : Int) (x2_7 : Int) (x2_8 : Int) (x2_9 : Int) (x2_10 : Int) (x2_11 : Int) (x5_1 : List AV) (x22_1 : List AV) (x23_1 : Int) (x24_1 : Int) (o4_1 : Int) (o4_2 : Int) : Option Res :=
  iterK (evalK G run n f11_keep 1 (sub [1, 1, 1, 0, 1, 0, 0] f11_body)) f11_t1 f11_o1 (blockK 1 (seqK (evalK G run n f11_keep 0 (sub [1, 1, 1, 1] f11_body) (retE G f11_info)) (retE G f11_info))) k1
    ⟨[.any, .any, .val (.pat (.struct [(.struct [(.int .u32), (.blob 32), (.blob 32), (.int .u64)]), (.blob 32), (.int .i64), (.int .i64), (.int .i64), (.int .i64), (.int .i64), (.int .i64)])) none (.agg [.agg [.int x2_1, .blob x2_2, .blob x2_3, .int x2_4], .blob x2_5, .int x2_6, .int x2_7, .int x2_8, .int x2_9, .int x2_10, .int x2_11]), .any, .ptr ⟨(.struct [(.int .i64), (.int .i64)]), 4, 1, []⟩, .val (.slice (.blob 32)) none (.slice x5_1), .any, .any, .any, .any, .any, .any, .any, .any, .any, .any, .any, .any, .any, .any, .any, .any, .val (.slice (.struct [(.struct [(.int .u32), (.blob 32), (.blob 32), (.int .u64)]), (.slice .str)])) none (.slice x22_1), .val (.int .i64) none (.int x23_1), .val (.int .i64) none (.int x24_1), .any, .any, .any, .any, .any, .any, .any, .any, .any, .any, .any, .any, .any, .any, .any, .any, .any, .any, .any, .any, .any, .any, .any, .any, .any, .any, .any, .any, .any, .any, .any, .any, .any, .any, .any, .any, .any], [⟨0, none⟩, ⟨0, none⟩, ⟨0, none⟩, ⟨0, none⟩, ⟨1, some ⟨(.struct [(.int .i64), (.int .i64)]), .agg [.int o4_1, .int o4_2]⟩⟩, ⟨0, none⟩, ⟨0, none⟩, ⟨0, none⟩, ⟨0, none⟩, ⟨0, none⟩, ⟨0, none⟩, ⟨0, none⟩, ⟨0, none⟩, ⟨0, none⟩, ⟨0, none⟩, ⟨0, none⟩, ⟨0, none⟩, ⟨0, none⟩, ⟨0, none⟩, ⟨0, none⟩, ⟨0, none⟩, ⟨0, none⟩, ⟨0, none⟩, ⟨0, none⟩, ⟨0, none⟩, ⟨0, none⟩, ⟨0, none⟩, ⟨0, none⟩, ⟨0, none⟩, ⟨0, none⟩, ⟨0, none⟩, ⟨0, none⟩, ⟨0, none⟩, ⟨0, none⟩, ⟨0, none⟩, ⟨0, none⟩, ⟨0, none⟩, ⟨0, none⟩, ⟨0, none⟩, ⟨0, none⟩, ⟨0, none⟩, ⟨0, none⟩, ⟨0, none⟩, ⟨0, none⟩, ⟨0, none⟩, ⟨0, none⟩, ⟨0, none⟩, ⟨0, none⟩, ⟨0, none⟩, ⟨0, none⟩, ⟨0, none⟩, ⟨0, none⟩, ⟨0, none⟩, ⟨0, none⟩, ⟨0, none⟩, ⟨0, none⟩, ⟨0, none⟩, ⟨0, none⟩, ⟨0, none⟩, ⟨0, none⟩, ⟨0, none⟩, ⟨0, none⟩], List.replicate 62 0⟩
theorem f11_l3_eq (run : Run) (n : Nat) (k1 : Nat) (k3 : Nat) (x2_12 : Int) (x2_13 : List UInt8) (x2_14 : List UInt8) (x2_15 : Int) (x2_16 : List UInt8) (x2_17 : Int) (x2_18 : Int) (x2_19 : Int) (x2_20 : Int) (x2_21 : Int) (x2_22 : Int) (x5_2 : List AV) (x6_1 : Int) (x22_2 : List AV) (x23_2 : Int) (x24_2 : Int) (x40_1 : List AV) (x41_1 : Int) (x42_1 : Int) (o4_3 : Int) (o4_4 : Int) (o7_1 : Int) (o7_2 : List UInt8) (o7_3 : List UInt8) (o7_4 : Int) (o7_5 : List AV) : f11_l3 run n k1 (k3 + 1) x2_12 x2_13 x2_14 x2_15 x2_16 x2_17 x2_18 x2_19 x2_20 x2_21 x2_22 x5_2 x6_1 x22_2 x23_2 x24_2 x40_1 x41_1 x42_1 o4_3 o4_4 o7_1 o7_2 o7_3 o7_4 o7_5 =
  bif ltI x42_1 x41_1 then
    bif inR x42_1 x40_1.length then
    bif Nat.beq ((nth x40_1 (Int.toNat x42_1)).cloF) 39 then
    (run 39 [nth ((nth x40_1 (Int.toNat x42_1)).cloXs) 0]).bind fun r3 =>
    nilV r3.outs (consV r3.vals fun v3 vs3 =>
    nilV vs3 (bif !(eqI v3.toInt 0) then
    some ⟨[.agg [.int v3.toInt, .int x6_1]], [], f11_fresh⟩
  else
    f11_l3 run n k1 k3 x2_12 x2_13 x2_14 x2_15 x2_16 x2_17 x2_18 x2_19 x2_20 x2_21 x2_22 x5_2 x6_1 x22_2 x23_2 x24_2 x40_1 x41_1 (IntKind.wrap .i64 (x42_1 + 1)) o4_3 o4_4 o7_1 o7_2 o7_3 o7_4 o7_5))
  else
    bif Nat.beq ((nth x40_1 (Int.toNat x42_1)).cloF) 40 then
    (run 40 [nth ((nth x40_1 (Int.toNat x42_1)).cloXs) 0]).bind fun r2 =>
    nilV r2.outs (consV r2.vals fun v2 vs2 =>
    nilV vs2 (bif !(eqI v2.toInt 0) then
    some ⟨[.agg [.int v2.toInt, .int x6_1]], [], f11_fresh⟩
  else
    f11_l3 run n k1 k3 x2_12 x2_13 x2_14 x2_15 x2_16 x2_17 x2_18 x2_19 x2_20 x2_21 x2_22 x5_2 x6_1 x22_2 x23_2 x24_2 x40_1 x41_1 (IntKind.wrap .i64 (x42_1 + 1)) o4_3 o4_4 o7_1 o7_2 o7_3 o7_4 o7_5))
  else
    bif Nat.beq ((nth x40_1 (Int.toNat x42_1)).cloF) 41 then
    (run 41 [nth ((nth x40_1 (Int.toNat x42_1)).cloXs) 0]).bind fun r1 =>
    nilV r1.outs (consV r1.vals fun v1 vs1 =>
    nilV vs1 (bif !(eqI v1.toInt 0) then
    some ⟨[.agg [.int v1.toInt, .int x6_1]], [], f11_fresh⟩
  else
    f11_l3 run n k1 k3 x2_12 x2_13 x2_14 x2_15 x2_16 x2_17 x2_18 x2_19 x2_20 x2_21 x2_22 x5_2 x6_1 x22_2 x23_2 x24_2 x40_1 x41_1 (IntKind.wrap .i64 (x42_1 + 1)) o4_3 o4_4 o7_1 o7_2 o7_3 o7_4 o7_5))
  else
    none
  else none
  else
    (run 42 [.blob x2_16, .slice x5_2, .agg [.agg [.int o7_1, .blob o7_2, .blob o7_3, .int o7_4], .slice o7_5], .int x6_1]).bind fun r4 =>
    nilV r4.outs (consV r4.vals fun v4 vs4 =>
    nilV vs4 (f11_l1 run n k1 x2_12 x2_13 x2_14 x2_15 x2_16 x2_17 x2_18 x2_19 x2_20 x2_21 x2_22 v4.toSlice x22_2 x23_2 (IntKind.wrap .i64 (x24_2 + 1)) o4_3 o4_4)) := by kernel_rfl
theorem f11_l1_eq (run : Run) (n : Nat) (k1 : Nat) (x2_1 : Int) (x2_2 : List UInt8) (x2_3 : List UInt8) (x2_4 : Int) (x2_5 : List UInt8) (x2_6 : Int) (x2_7 : Int) (x2_8 : Int) (x2_9 : Int) (x2_10 : Int) (x2_11 : Int) (x5_1 : List AV) (x22_1 : List AV) (x23_1 : Int) (x24_1 : Int) (o4_1 : Int) (o4_2 : Int) : f11_l1 run n (k1 + 1) x2_1 x2_2 x2_3 x2_4 x2_5 x2_6 x2_7 x2_8 x2_9 x2_10 x2_11 x5_1 x22_1 x23_1 x24_1 o4_1 o4_2 =
  bif ltI x24_1 x23_1 then
    bif inR x24_1 x22_1.length then
    f11_l3 run n k1 n x2_1 x2_2 x2_3 x2_4 x2_5 x2_6 x2_7 x2_8 x2_9 x2_10 x2_11 x5_1 x24_1 x22_1 x23_1 x24_1 [.clo 39 [.agg [.agg [.agg [.int x2_1, .blob x2_2, .blob x2_3, .int x2_4], .blob x2_5, .int x2_6, .int x2_7, .int x2_8, .int x2_9, .int x2_10, .int x2_11], .int x24_1, .agg [.agg [.int ((((nth x22_1 (Int.toNat x24_1)).fld 0).fld 0).toInt), .blob ((((nth x22_1 (Int.toNat x24_1)).fld 0).fld 1).toBlob), .blob ((((nth x22_1 (Int.toNat x24_1)).fld 0).fld 2).toBlob), .int ((((nth x22_1 (Int.toNat x24_1)).fld 0).fld 3).toInt)], .slice (((nth x22_1 (Int.toNat x24_1)).fld 1).toSlice)], .slice x5_1]], .clo 40 [.agg [.agg [.agg [.int x2_1, .blob x2_2, .blob x2_3, .int x2_4], .blob x2_5, .int x2_6, .int x2_7, .int x2_8, .int x2_9, .int x2_10, .int x2_11], .int x24_1, .agg [.agg [.int ((((nth x22_1 (Int.toNat x24_1)).fld 0).fld 0).toInt), .blob ((((nth x22_1 (Int.toNat x24_1)).fld 0).fld 1).toBlob), .blob ((((nth x22_1 (Int.toNat x24_1)).fld 0).fld 2).toBlob), .int ((((nth x22_1 (Int.toNat x24_1)).fld 0).fld 3).toInt)], .slice (((nth x22_1 (Int.toNat x24_1)).fld 1).toSlice)], .slice x5_1]], .clo 41 [.agg [.agg [.agg [.int x2_1, .blob x2_2, .blob x2_3, .int x2_4], .blob x2_5, .int x2_6, .int x2_7, .int x2_8, .int x2_9, .int x2_10, .int x2_11], .int x24_1, .agg [.agg [.int ((((nth x22_1 (Int.toNat x24_1)).fld 0).fld 0).toInt), .blob ((((nth x22_1 (Int.toNat x24_1)).fld 0).fld 1).toBlob), .blob ((((nth x22_1 (Int.toNat x24_1)).fld 0).fld 2).toBlob), .int ((((nth x22_1 (Int.toNat x24_1)).fld 0).fld 3).toInt)], .slice (((nth x22_1 (Int.toNat x24_1)).fld 1).toSlice)], .slice x5_1]]] 3 0 o4_1 o4_2 ((((nth x22_1 (Int.toNat x24_1)).fld 0).fld 0).toInt) ((((nth x22_1 (Int.toNat x24_1)).fld 0).fld 1).toBlob) ((((nth x22_1 (Int.toNat x24_1)).fld 0).fld 2).toBlob) ((((nth x22_1 (Int.toNat x24_1)).fld 0).fld 3).toInt) (((nth x22_1 (Int.toNat x24_1)).fld 1).toSlice)
  else none
  else
    some ⟨[.agg [.int 0, .int 0]], [], f11_fresh⟩ := by kernel_rfl
noncomputable def f11 (run : Run) (n : Nat) (a0_1 : Int) (a0_2 : List UInt8) (a0_3 : List UInt8) (a0_4 : Int) (a0_5 : List UInt8) (a0_6 : Int) (a0_7 : Int) (a0_8 : Int) (a0_9 : Int) (a0_10 : Int) (a0_11 : Int) (a1_1 : List AV) : Option Res := evalK G run n f11_info.keep 0 f11_info.body (retE G f11_info) (f11_info.start [.agg [.agg [.int a0_1, .blob a0_2, .blob a0_3, .int a0_4], .blob a0_5, .int a0_6, .int a0_7, .int a0_8, .int a0_9, .int a0_10, .int a0_11], .slice a1_1])
theorem f11_eq (run : Run) (n : Nat) (a0_1 : Int) (a0_2 : List UInt8) (a0_3 : List UInt8) (a0_4 : Int) (a0_5 : List UInt8) (a0_6 : Int) (a0_7 : Int) (a0_8 : Int) (a0_9 : Int) (a0_10 : Int) (a0_11 : Int) (a1_1 : List AV) : f11 run n a0_1 a0_2 a0_3 a0_4 a0_5 a0_6 a0_7 a0_8 a0_9 a0_10 a0_11 a1_1 =
  bif eqI (a1_1.length : Int) 0 then
    some ⟨[.agg [.int 6, .int 0]], [], f11_fresh⟩
  else
    bif ltI 1024 (a1_1.length : Int) then
    some ⟨[.agg [.int 4, .int 1024]], [], f11_fresh⟩
  else
    f11_l1 run n n a0_1 a0_2 a0_3 a0_4 a0_5 a0_6 a0_7 a0_8 a0_9 a0_10 a0_11 [] a1_1 (a1_1.length : Int) 0 0 0 := by kernel_rfl
theorem f11_run (ext : Run) (n : Nat) (a0_1 : Int) (a0_2 : List UInt8) (a0_3 : List UInt8) (a0_4 : Int) (a0_5 : List UInt8) (a0_6 : Int) (a0_7 : Int) (a0_8 : Int) (a0_9 : Int) (a0_10 : Int) (a0_11 : Int) (a1_1 : List AV) : runE G ext (n + 1) 11 [.agg [.agg [.int a0_1, .blob a0_2, .blob a0_3, .int a0_4], .blob a0_5, .int a0_6, .int a0_7, .int a0_8, .int a0_9, .int a0_10, .int a0_11], .slice a1_1] = f11 (runE G ext n) n a0_1 a0_2 a0_3 a0_4 a0_5 a0_6 a0_7 a0_8 a0_9 a0_10 a0_11 a1_1 := runE_succ f11_at f11_in

noncomputable def f13_l0 (run : Run) (n : Nat) (k0 : Nat) (x5_1 : List AV) (x9_1 : List AV) (x10_1 : Int) (x11_1 : Int) (o2_1 : List UInt8) : Option Res :=
  iterK (evalK G run n f13_keep 0 (sub [1, 1, 0, 1, 0, 0] f13_body)) f13_t0 f13_o0 (blockK 0 (seqK (evalK G run n f13_keep 0 (sub [1, 1, 1] f13_body) (retE G f13_info)) (retE G f13_info))) k0
    ⟨[.any, .any, .ptr ⟨(.blob 32), 2, 1, []⟩, .any, .any, .val (.slice (.int .i64)) (some (5, 0)) (.slice x5_1), .any, .any, .any, .val (.slice (.struct [(.struct [(.int .u32), (.blob 32), (.blob 32), (.int .u64)]), (.slice .str)])) none (.slice x9_1), .val (.int .i64) none (.int x10_1), .val (.int .i64) none (.int x11_1), .any, .any, .any, .any, .any, .any, .any, .any, .any, .any, .any, .any, .any, .any, .any, .any], [⟨0, none⟩, ⟨0, none⟩, ⟨1, some ⟨(.blob 32), .blob o2_1⟩⟩, ⟨0, none⟩, ⟨0, none⟩, ⟨0, none⟩, ⟨0, none⟩, ⟨0, none⟩, ⟨0, none⟩, ⟨0, none⟩, ⟨0, none⟩, ⟨0, none⟩, ⟨0, none⟩, ⟨0, none⟩, ⟨0, none⟩, ⟨0, none⟩, ⟨0, none⟩, ⟨0, none⟩, ⟨0, none⟩, ⟨0, none⟩, ⟨0, none⟩, ⟨0, none⟩, ⟨0, none⟩, ⟨0, none⟩, ⟨0, none⟩, ⟨0, none⟩, ⟨0, none⟩, ⟨0, none⟩], List.replicate 28 0⟩
theorem f13_l0_eq (run : Run) (n : Nat) (k0 : Nat) (x5_1 : List AV) (x9_1 : List AV) (x10_1 : Int) (x11_1 : Int) (o2_1 : List UInt8) : f13_l0 run n (k0 + 1) x5_1 x9_1 x10_1 x11_1 o2_1 =
  bif ltI x11_1 x10_1 then
    bif inR x11_1 x9_1.length then
    (run 44 [.agg [.agg [.int ((((nth x9_1 (Int.toNat x11_1)).fld 0).fld 0).toInt), .blob ((((nth x9_1 (Int.toNat x11_1)).fld 0).fld 1).toBlob), .blob ((((nth x9_1 (Int.toNat x11_1)).fld 0).fld 2).toBlob), .int ((((nth x9_1 (Int.toNat x11_1)).fld 0).fld 3).toInt)], .slice (((nth x9_1 (Int.toNat x11_1)).fld 1).toSlice)]]).bind fun r1 =>
    nilV r1.outs (consV r1.vals fun v1 vs1 =>
    nilV vs1 ((run 43 [.blob v1.toBlob, .blob o2_1]).bind fun r2 =>
    nilV r2.outs (consV r2.vals fun v2 vs2 =>
    nilV vs2 (bif eqI x11_1 0 then
    bif Nat.ble ((x5_1.length + 1) * 8) 140737488355328 then
    f13_l0 run n k0 (x5_1 ++ [.int 256]) x9_1 x10_1 (IntKind.wrap .i64 (x11_1 + 1)) o2_1
  else none
  else
    bif Nat.ble ((x5_1.length + 1) * 8) 140737488355328 then
    f13_l0 run n k0 (x5_1 ++ [.int v2.toInt]) x9_1 x10_1 (IntKind.wrap .i64 (x11_1 + 1)) o2_1
  else none))))
  else none
  else
    some ⟨[.slice x5_1], [], f13_fresh⟩ := by kernel_rfl
noncomputable def f13 (run : Run) (n : Nat) (a0_1 : List UInt8) (a1_1 : List AV) : Option Res := evalK G run n f13_info.keep 0 f13_info.body (retE G f13_info) (f13_info.start [.blob a0_1, .slice a1_1])
theorem f13_eq (run : Run) (n : Nat) (a0_1 : List UInt8) (a1_1 : List AV) : f13 run n a0_1 a1_1 =
  f13_l0 run n n [] a1_1 (a1_1.length : Int) 0 a0_1 := by kernel_rfl
theorem f13_run (ext : Run) (n : Nat) (a0_1 : List UInt8) (a1_1 : List AV) : runE G ext (n + 1) 13 [.blob a0_1, .slice a1_1] = f13 (runE G ext n) n a0_1 a1_1 := runE_succ f13_at f13_in

noncomputable def f82_l0 (run : Run) (n : Nat) (k0 : Nat) (x0_1 : List AV) (x1_1 : Int) (x2_1 : Int) (x7_1 : Int) (x8_1 : Int) : Option Res :=
  iterK (evalK G run n f82_keep 0 (sub [1, 1, 0, 1, 0, 0] f82_body)) f82_t0 f82_o0 (blockK 0 (seqK (evalK G run n f82_keep 0 (sub [1, 1, 1] f82_body) (retE G f82_info)) (retE G f82_info))) k0
    ⟨[.val (.slice (.int .i64)) none (.slice x0_1), .val (.int .i64) none (.int x1_1), .val (.int .i64) none (.int x2_1), .any, .any, .any, .any, .val (.int .i64) none (.int x7_1), .val (.int .i64) none (.int x8_1), .any, .any, .any, .any, .any, .any, .any, .any, .any, .any, .any, .any, .any, .any, .any, .any, .any, .any, .any], [⟨0, none⟩, ⟨0, none⟩, ⟨0, none⟩, ⟨0, none⟩, ⟨0, none⟩, ⟨0, none⟩, ⟨0, none⟩, ⟨0, none⟩, ⟨0, none⟩, ⟨0, none⟩, ⟨0, none⟩, ⟨0, none⟩, ⟨0, none⟩, ⟨0, none⟩, ⟨0, none⟩, ⟨0, none⟩, ⟨0, none⟩, ⟨0, none⟩, ⟨0, none⟩, ⟨0, none⟩, ⟨0, none⟩, ⟨0, none⟩, ⟨0, none⟩, ⟨0, none⟩, ⟨0, none⟩, ⟨0, none⟩, ⟨0, none⟩, ⟨0, none⟩], List.replicate 28 0⟩
theorem f82_l0_eq (run : Run) (n : Nat) (k0 : Nat) (x0_1 : List AV) (x1_1 : Int) (x2_1 : Int) (x7_1 : Int) (x8_1 : Int) : f82_l0 run n (k0 + 1) x0_1 x1_1 x2_1 x7_1 x8_1 =
  bif ltI x8_1 (x0_1.length : Int) then
    bif ltI x8_1 x1_1 then
    bif inR x8_1 x0_1.length then
    bif leI x2_1 ((nth x0_1 (Int.toNat x8_1)).toInt) then
    f82_l0 run n k0 x0_1 x1_1 x2_1 x8_1 (IntKind.wrap .i64 (x8_1 + 1))
  else
    f82_l0 run n k0 x0_1 x1_1 x2_1 x7_1 (IntKind.wrap .i64 (x8_1 + 1))
  else none
  else
    some ⟨[.int x7_1], [], f82_fresh⟩
  else
    some ⟨[.int x7_1], [], f82_fresh⟩ := by kernel_rfl
noncomputable def f82 (run : Run) (n : Nat) (a0_1 : List AV) (a1_1 : Int) (a2_1 : Int) : Option Res := evalK G run n f82_info.keep 0 f82_info.body (retE G f82_info) (f82_info.start [.slice a0_1, .int a1_1, .int a2_1])
theorem f82_eq (run : Run) (n : Nat) (a0_1 : List AV) (a1_1 : Int) (a2_1 : Int) : f82 run n a0_1 a1_1 a2_1 =
  f82_l0 run n n a0_1 a1_1 a2_1 (-1) 0 := by kernel_rfl
theorem f82_run (ext : Run) (n : Nat) (a0_1 : List AV) (a1_1 : Int) (a2_1 : Int) : runE G ext (n + 1) 82 [.slice a0_1, .int a1_1, .int a2_1] = f82 (runE G ext n) n a0_1 a1_1 a2_1 := runE_succ f82_at f82_in

noncomputable def f48_l0 (run : Run) (n : Nat) (k0 : Nat) (x0_1 : List AV) (x1_1 : Int) (x5_1 : List AV) (x6_1 : Int) : Option Res :=
  iterK (evalK G run n f48_keep 0 (sub [1, 1, 1, 0, 1, 0, 0] f48_body)) f48_t0 f48_o0 (blockK 0 (seqK (evalK G run n f48_keep 0 (sub [1, 1, 1, 1] f48_body) (retE G f48_info)) (retE G f48_info))) k0
    ⟨[.val (.slice (.int .i64)) none (.slice x0_1), .val (.int .i64) none (.int x1_1), .any, .any, .any, .val (.slice (.int .i64)) (some (5, 0)) (.slice x5_1), .val (.int .i64) none (.int x6_1), .any, .any, .any, .any, .any, .any, .any, .any, .any, .any, .any, .any, .any, .any, .any, .any, .any, .any, .any, .any, .any, .any, .any, .any, .any, .any, .any, .any], [⟨0, none⟩, ⟨0, none⟩, ⟨0, none⟩, ⟨0, none⟩, ⟨0, none⟩, ⟨0, none⟩, ⟨0, none⟩, ⟨0, none⟩, ⟨0, none⟩, ⟨0, none⟩, ⟨0, none⟩, ⟨0, none⟩, ⟨0, none⟩, ⟨0, none⟩, ⟨0, none⟩, ⟨0, none⟩, ⟨0, none⟩, ⟨0, none⟩, ⟨0, none⟩, ⟨0, none⟩, ⟨0, none⟩, ⟨0, none⟩, ⟨0, none⟩, ⟨0, none⟩, ⟨0, none⟩, ⟨0, none⟩, ⟨0, none⟩, ⟨0, none⟩, ⟨0, none⟩, ⟨0, none⟩, ⟨0, none⟩, ⟨0, none⟩, ⟨0, none⟩, ⟨0, none⟩, ⟨0, none⟩], List.replicate 35 0⟩
theorem f48_l0_eq (run : Run) (n : Nat) (k0 : Nat) (x0_1 : List AV) (x1_1 : Int) (x5_1 : List AV) (x6_1 : Int) : f48_l0 run n (k0 + 1) x0_1 x1_1 x5_1 x6_1 =
  bif ltI x6_1 257 then
    (run 82 [.slice x0_1, .int x1_1, .int x6_1]).bind fun r1 =>
    nilV r1.outs (consV r1.vals fun v1 vs1 =>
    nilV vs1 (bif ltI v1.toInt 0 then
    some ⟨[.slice x5_1], [], f48_fresh⟩
  else
    bif Nat.ble ((x5_1.length + 1) * 8) 140737488355328 then
    bif eqI v1.toInt 0 then
    some ⟨[.slice (x5_1 ++ [.int v1.toInt])], [], f48_fresh⟩
  else
    f48_l0 run n k0 x0_1 x1_1 (x5_1 ++ [.int v1.toInt]) (IntKind.wrap .i64 (x6_1 + 1))
  else none))
  else
    some ⟨[.slice x5_1], [], f48_fresh⟩ := by kernel_rfl
noncomputable def f48 (run : Run) (n : Nat) (a0_1 : List AV) (a1_1 : Int) : Option Res := evalK G run n f48_info.keep 0 f48_info.body (retE G f48_info) (f48_info.start [.slice a0_1, .int a1_1])
theorem f48_eq (run : Run) (n : Nat) (a0_1 : List AV) (a1_1 : Int) : f48 run n a0_1 a1_1 =
  bif ltI a1_1 1 then
    some ⟨[.slice []], [], f48_fresh⟩
  else
    bif ltI (a0_1.length : Int) a1_1 then
    some ⟨[.slice []], [], f48_fresh⟩
  else
    f48_l0 run n n a0_1 a1_1 [] 0 := by kernel_rfl
theorem f48_run (ext : Run) (n : Nat) (a0_1 : List AV) (a1_1 : Int) : runE G ext (n + 1) 48 [.slice a0_1, .int a1_1] = f48 (runE G ext n) n a0_1 a1_1 := runE_succ f48_at f48_in

noncomputable def f15_l0 (run : Run) (n : Nat) (k0 : Nat) (x2_1 : Int) (x7_1 : List AV) (x8_1 : Int) : Option Res :=
  iterK (evalK G run n f15_keep 0 (sub [1, 1, 0, 1, 0, 0] f15_body)) f15_t0 f15_o0 (blockK 0 (seqK (evalK G run n f15_keep 0 (sub [1, 1, 1] f15_body) (retE G f15_info)) (retE G f15_info))) k0
    ⟨[.any, .any, .val (.int .i64) none (.int x2_1), .any, .any, .any, .any, .val (.slice (.int .i64)) (some (7, 0)) (.slice x7_1), .val (.int .i64) none (.int x8_1), .any, .any, .any, .any, .any, .any, .any, .any, .any, .any, .any, .any, .any, .any, .any, .any], [⟨0, none⟩, ⟨0, none⟩, ⟨0, none⟩, ⟨0, none⟩, ⟨0, none⟩, ⟨0, none⟩, ⟨0, none⟩, ⟨0, none⟩, ⟨0, none⟩, ⟨0, none⟩, ⟨0, none⟩, ⟨0, none⟩, ⟨0, none⟩, ⟨0, none⟩, ⟨0, none⟩, ⟨0, none⟩, ⟨0, none⟩, ⟨0, none⟩, ⟨0, none⟩, ⟨0, none⟩, ⟨0, none⟩, ⟨0, none⟩, ⟨0, none⟩, ⟨0, none⟩, ⟨0, none⟩], List.replicate 25 0⟩
theorem f15_l0_eq (run : Run) (n : Nat) (k0 : Nat) (x2_1 : Int) (x7_1 : List AV) (x8_1 : Int) : f15_l0 run n (k0 + 1) x2_1 x7_1 x8_1 =
  bif ltI x8_1 (x7_1.length : Int) then
    bif inR x8_1 x7_1.length then
    bif eqI ((nth x7_1 (Int.toNat x8_1)).toInt) x2_1 then
    some ⟨[.int x8_1], [], f15_fresh⟩
  else
    f15_l0 run n k0 x2_1 x7_1 (IntKind.wrap .i64 (x8_1 + 1))
  else none
  else
    some ⟨[.int (-1)], [], f15_fresh⟩ := by kernel_rfl
noncomputable def f15 (run : Run) (n : Nat) (a0_1 : List AV) (a1_1 : Int) (a2_1 : Int) : Option Res := evalK G run n f15_info.keep 0 f15_info.body (retE G f15_info) (f15_info.start [.slice a0_1, .int a1_1, .int a2_1])
theorem f15_eq (run : Run) (n : Nat) (a0_1 : List AV) (a1_1 : Int) (a2_1 : Int) : f15 run n a0_1 a1_1 a2_1 =
  (run 48 [.slice a0_1, .int a1_1]).bind fun r1 =>
    bif r1.fresh then
    nilV r1.outs (consV r1.vals fun v1 vs1 =>
    nilV vs1 (f15_l0 run n n a2_1 v1.toSlice 0))
  else none := by kernel_rfl
theorem f15_run (ext : Run) (n : Nat) (a0_1 : List AV) (a1_1 : Int) (a2_1 : Int) : runE G ext (n + 1) 15 [.slice a0_1, .int a1_1, .int a2_1] = f15 (runE G ext n) n a0_1 a1_1 a2_1 := runE_succ f15_at f15_in

noncomputable def f49_l0 (run : Run) (n : Nat) (k0 : Nat) (x0_1 : List AV) (x2_1 : Int) (x7_1 : Int) : Option Res :=
  iterK (evalK G run n f49_keep 0 (sub [1, 0, 1, 0, 0] f49_body)) f49_t0 f49_o0 (blockK 0 (seqK (evalK G run n f49_keep 0 (sub [1, 1] f49_body) (retE G f49_info)) (retE G f49_info))) k0
    ⟨[.val (.slice (.int .i64)) none (.slice x0_1), .any, .val (.int .i64) none (.int x2_1), .any, .any, .any, .any, .val (.int .i64) none (.int x7_1), .any, .any, .any, .any, .any, .any, .any, .any, .any, .any, .any, .any, .any, .any, .any, .any], [⟨0, none⟩, ⟨0, none⟩, ⟨0, none⟩, ⟨0, none⟩, ⟨0, none⟩, ⟨0, none⟩, ⟨0, none⟩, ⟨0, none⟩, ⟨0, none⟩, ⟨0, none⟩, ⟨0, none⟩, ⟨0, none⟩, ⟨0, none⟩, ⟨0, none⟩, ⟨0, none⟩, ⟨0, none⟩, ⟨0, none⟩, ⟨0, none⟩, ⟨0, none⟩, ⟨0, none⟩, ⟨0, none⟩, ⟨0, none⟩, ⟨0, none⟩, ⟨0, none⟩], List.replicate 24 0⟩
theorem f49_l0_eq (run : Run) (n : Nat) (k0 : Nat) (x0_1 : List AV) (x2_1 : Int) (x7_1 : Int) : f49_l0 run n (k0 + 1) x0_1 x2_1 x7_1 =
  bif leI 0 x7_1 then
    bif inR x7_1 x0_1.length then
    bif leI x2_1 ((nth x0_1 (Int.toNat x7_1)).toInt) then
    some ⟨[.int x7_1], [], f49_fresh⟩
  else
    f49_l0 run n k0 x0_1 x2_1 (IntKind.wrap .i64 (x7_1 - 1))
  else none
  else
    some ⟨[.int (-1)], [], f49_fresh⟩ := by kernel_rfl
noncomputable def f49 (run : Run) (n : Nat) (a0_1 : List AV) (a1_1 : Int) (a2_1 : Int) : Option Res := evalK G run n f49_info.keep 0 f49_info.body (retE G f49_info) (f49_info.start [.slice a0_1, .int a1_1, .int a2_1])
theorem f49_eq (run : Run) (n : Nat) (a0_1 : List AV) (a1_1 : Int) (a2_1 : Int) : f49 run n a0_1 a1_1 a2_1 =
  f49_l0 run n n a0_1 a2_1 (IntKind.wrap .i64 (mn2 a1_1 (a0_1.length : Int) - 1)) := by kernel_rfl
theorem f49_run (ext : Run) (n : Nat) (a0_1 : List AV) (a1_1 : Int) (a2_1 : Int) : runE G ext (n + 1) 49 [.slice a0_1, .int a1_1, .int a2_1] = f49 (runE G ext n) n a0_1 a1_1 a2_1 := runE_succ f49_at f49_in

noncomputable def f16_l0 (run : Run) (n : Nat) (k0 : Nat) (x0_1 : List AV) (x1_1 : Int) (x5_1 : List AV) (x17_1 : Int) : Option Res :=
  iterK (evalK G run n f16_keep 0 (sub [1, 1, 1, 0, 1, 0, 0] f16_body)) f16_t0 f16_o0 (blockK 0 (seqK (evalK G run n f16_keep 0 (sub [1, 1, 1, 1] f16_body) (retE G f16_info)) (retE G f16_info))) k0
    ⟨[.val (.slice (.int .i64)) none (.slice x0_1), .val (.int .i64) none (.int x1_1), .any, .any, .any, .val (.slice (.int .i64)) (some (5, 0)) (.slice x5_1), .any, .any, .any, .any, .any, .any, .any, .any, .any, .any, .any, .val (.int .i64) none (.int x17_1), .any, .any, .any, .any, .any, .any, .any, .any, .any, .any, .any, .any, .any, .any, .any, .any], [⟨0, none⟩, ⟨0, none⟩, ⟨0, none⟩, ⟨0, none⟩, ⟨0, none⟩, ⟨0, none⟩, ⟨0, none⟩, ⟨0, none⟩, ⟨0, none⟩, ⟨0, none⟩, ⟨0, none⟩, ⟨0, none⟩, ⟨0, none⟩, ⟨0, none⟩, ⟨0, none⟩, ⟨0, none⟩, ⟨0, none⟩, ⟨0, none⟩, ⟨0, none⟩, ⟨0, none⟩, ⟨0, none⟩, ⟨0, none⟩, ⟨0, none⟩, ⟨0, none⟩, ⟨0, none⟩, ⟨0, none⟩, ⟨0, none⟩, ⟨0, none⟩, ⟨0, none⟩, ⟨0, none⟩, ⟨0, none⟩, ⟨0, none⟩, ⟨0, none⟩, ⟨0, none⟩], List.replicate 34 0⟩
theorem f16_l0_eq (run : Run) (n : Nat) (k0 : Nat) (x0_1 : List AV) (x1_1 : Int) (x5_1 : List AV) (x17_1 : Int) : f16_l0 run n (k0 + 1) x0_1 x1_1 x5_1 x17_1 =
  bif ltI x17_1 257 then
    (run 49 [.slice x0_1, .int x1_1, .int x17_1]).bind fun r1 =>
    nilV r1.outs (consV r1.vals fun v1 vs1 =>
    nilV vs1 (bif ltI v1.toInt 0 then
    some ⟨[.slice x5_1], [], f16_fresh⟩
  else
    bif Nat.ble ((x5_1.length + 1) * 8) 140737488355328 then
    bif eqI v1.toInt 0 then
    some ⟨[.slice (x5_1 ++ [.int v1.toInt])], [], f16_fresh⟩
  else
    f16_l0 run n k0 x0_1 x1_1 (x5_1 ++ [.int v1.toInt]) (IntKind.wrap .i64 (x17_1 + 1))
  else none))
  else
    some ⟨[.slice x5_1], [], f16_fresh⟩ := by kernel_rfl
noncomputable def f16 (run : Run) (n : Nat) (a0_1 : List AV) (a1_1 : Int) : Option Res := evalK G run n f16_info.keep 0 f16_info.body (retE G f16_info) (f16_info.start [.slice a0_1, .int a1_1])
theorem f16_eq (run : Run) (n : Nat) (a0_1 : List AV) (a1_1 : Int) : f16 run n a0_1 a1_1 =
  bif ltI a1_1 1 then
    some ⟨[.slice []], [], f16_fresh⟩
  else
    bif ltI (a0_1.length : Int) a1_1 then
    some ⟨[.slice []], [], f16_fresh⟩
  else
    f16_l0 run n n a0_1 a1_1 [] 0 := by kernel_rfl
theorem f16_run (ext : Run) (n : Nat) (a0_1 : List AV) (a1_1 : Int) : runE G ext (n + 1) 16 [.slice a0_1, .int a1_1] = f16 (runE G ext n) n a0_1 a1_1 := runE_succ f16_at f16_in

noncomputable def f3_l0 (run : Run) (n : Nat) (k0 : Nat) (x5_1 : List AV) (x6_1 : List AV) (x7_1 : Int) : Option Res :=
  iterK (evalK G run n f3_keep 0 (sub [1, 1, 1, 1, 1, 0, 1, 0, 0] f3_body)) f3_t0 f3_o0 (blockK 0 (seqK (evalK G run n f3_keep 0 (sub [1, 1, 1, 1, 1, 1] f3_body) (retE G f3_info)) (retE G f3_info))) k0
    ⟨[.any, .any, .any, .any, .any, .val (.slice (.int .i64)) (some (5, 0)) (.slice x5_1), .val (.slice (.int .i64)) (some (6, 0)) (.slice x6_1), .val (.int .i64) none (.int x7_1), .any, .any, .any, .any, .any, .any, .any, .any, .any, .any, .any, .any, .any, .any, .any, .any, .any, .any, .any, .any, .any, .any, .any, .any, .any, .any, .any, .any, .any, .any, .any, .any, .any, .any, .any, .any, .any, .any, .any, .any, .any, .any, .any, .any, .any, .any, .any, .any, .any, .any, .any, .any, .any, .any, .any, .any, .any, .any, .any, .any, .any, .any, .any, .any, .any, .any, .any, .any, .any, .any, .any, .any, .any, .any, .any, .any, .any, .any, .any, .any, .any, .any, .any, .any, .any, .any, .any, .any, .any, .any, .any, .any, .any, .any, .any, .any, .any, .any, .any, .any, .any, .any, .any, .any, .any, .any, .any, .any], [⟨0, none⟩, ⟨0, none⟩, ⟨0, none⟩, ⟨0, none⟩, ⟨0, none⟩, ⟨0, none⟩, ⟨0, none⟩, ⟨0, none⟩, ⟨0, none⟩, ⟨0, none⟩, ⟨0, none⟩, ⟨0, none⟩, ⟨0, none⟩, ⟨0, none⟩, ⟨0, none⟩, ⟨0, none⟩, ⟨0, none⟩, ⟨0, none⟩, ⟨0, none⟩, ⟨0, none⟩, ⟨0, none⟩, ⟨0, none⟩, ⟨0, none⟩, ⟨0, none⟩, ⟨0, none⟩, ⟨0, none⟩, ⟨0, none⟩, ⟨0, none⟩, ⟨0, none⟩, ⟨0, none⟩, ⟨0, none⟩, ⟨0, none⟩, ⟨0, none⟩, ⟨0, none⟩, ⟨0, none⟩, ⟨0, none⟩, ⟨0, none⟩, ⟨0, none⟩, ⟨0, none⟩, ⟨0, none⟩, ⟨0, none⟩, ⟨0, none⟩, ⟨0, none⟩, ⟨0, none⟩, ⟨0, none⟩, ⟨0, none⟩, ⟨0, none⟩, ⟨0, none⟩, ⟨0, none⟩, ⟨0, none⟩, ⟨0, none⟩, ⟨0, none⟩, ⟨0, none⟩, ⟨0, none⟩, ⟨0, none⟩, ⟨0, none⟩, ⟨0, none⟩, ⟨0, none⟩, ⟨0, none⟩, ⟨0, none⟩, ⟨0, none⟩, ⟨0, none⟩, ⟨0, none⟩, ⟨0, none⟩, ⟨0, none⟩, ⟨0, none⟩, ⟨0, none⟩, ⟨0, none⟩, ⟨0, none⟩, ⟨0, none⟩, ⟨0, none⟩, ⟨0, none⟩, ⟨0, none⟩, ⟨0, none⟩, ⟨0, none⟩, ⟨0, none⟩, ⟨0, none⟩, ⟨0, none⟩, ⟨0, none⟩, ⟨0, none⟩, ⟨0, none⟩, ⟨0, none⟩, ⟨0, none⟩, ⟨0, none⟩, ⟨0, none⟩, ⟨0, none⟩, ⟨0, none⟩, ⟨0, none⟩, ⟨0, none⟩, ⟨0, none⟩, ⟨0, none⟩, ⟨0, none⟩, ⟨0, none⟩, ⟨0, none⟩, ⟨0, none⟩, ⟨0, none⟩, ⟨0, none⟩, ⟨0, none⟩, ⟨0, none⟩, ⟨0, none⟩, ⟨0, none⟩, ⟨0, none⟩, ⟨0, none⟩, ⟨0, none⟩, ⟨0, none⟩, ⟨0, none⟩, ⟨0, none⟩, ⟨0, none⟩, ⟨0, none⟩, ⟨0, none⟩, ⟨0, none⟩, ⟨0, none⟩, ⟨0, none⟩, ⟨0, none⟩, ⟨0, none⟩, ⟨0, none⟩], List.replicate 116 0⟩
theorem f3_l0_eq (run : Run) (n : Nat) (k0 : Nat) (x5_1 : List AV) (x6_1 : List AV) (x7_1 : Int) : f3_l0 run n (k0 + 1) x5_1 x6_1 x7_1 =
  bif ltI x7_1 (x6_1.length : Int) then
    bif inR x7_1 x6_1.length then
    bif inR (IntKind.wrap .i64 (x7_1 - 1)) x6_1.length then
    bif leI ((nth x6_1 (Int.toNat x7_1)).toInt) ((nth x6_1 (Int.toNat (IntKind.wrap .i64 (x7_1 - 1)))).toInt) then
    some ⟨[.bool false], [], f3_fresh⟩
  else
    bif inR x7_1 x6_1.length then
    bif inR (IntKind.wrap .i64 (x7_1 - 1)) x6_1.length then
    (run 15 [.slice x5_1, .int ((nth x6_1 (Int.toNat x7_1)).toInt), .int ((nth x6_1 (Int.toNat (IntKind.wrap .i64 (x7_1 - 1)))).toInt)]).bind fun r10 =>
    nilV r10.outs (consV r10.vals fun v10 vs10 =>
    nilV vs10 (bif ltI v10.toInt 0 then
    some ⟨[.bool false], [], f3_fresh⟩
  else
    bif inR x7_1 x6_1.length then
    (run 16 [.slice x5_1, .int ((nth x6_1 (Int.toNat x7_1)).toInt)]).bind fun r11 =>
    bif r11.fresh then
    nilV r11.outs (consV r11.vals fun v11 vs11 =>
    nilV vs11 (bif eqI (v11.toSlice.length : Int) 0 then
    some ⟨[.bool false], [], f3_fresh⟩
  else
    f3_l0 run n k0 x5_1 x6_1 (IntKind.wrap .i64 (x7_1 + 1))))
  else none
  else none))
  else none
  else none
  else none
  else none
  else
    (run 12 []).bind fun r12 =>
    nilV r12.outs (consV r12.vals fun v12 vs12 =>
    nilV vs12 (some ⟨[.bool v12.toBool], [], f3_fresh⟩)) := by kernel_rfl
noncomputable def f3 (run : Run) (n : Nat) (a0_1 : Int) (a0_2 : List UInt8) (a0_3 : List UInt8) (a0_4 : Int) (a0_5 : List UInt8) (a0_6 : Int) (a0_7 : Int) (a0_8 : Int) (a0_9 : Int) (a0_10 : Int) (a0_11 : Int) (a1_1 : List AV) : Option Res := evalK G run n f3_info.keep 0 f3_info.body (retE G f3_info) (f3_info.start [.agg [.agg [.int a0_1, .blob a0_2, .blob a0_3, .int a0_4], .blob a0_5, .int a0_6, .int a0_7, .int a0_8, .int a0_9, .int a0_10, .int a0_11], .slice a1_1])
theorem f3_eq (run : Run) (n : Nat) (a0_1 : Int) (a0_2 : List UInt8) (a0_3 : List UInt8) (a0_4 : Int) (a0_5 : List UInt8) (a0_6 : Int) (a0_7 : Int) (a0_8 : Int) (a0_9 : Int) (a0_10 : Int) (a0_11 : Int) (a1_1 : List AV) : f3 run n a0_1 a0_2 a0_3 a0_4 a0_5 a0_6 a0_7 a0_8 a0_9 a0_10 a0_11 a1_1 =
  (run 9 [.slice a1_1]).bind fun r1 =>
    nilV r1.outs (consV r1.vals fun v1 vs1 =>
    nilV vs1 (bif v1.toBool then
    (run 12 []).bind fun r2 =>
    nilV r2.outs (consV r2.vals fun v2 vs2 =>
    nilV vs2 (some ⟨[.bool v2.toBool], [], f3_fresh⟩))
  else
    bif leI (a1_1.length : Int) a0_7 then
    (run 12 []).bind fun r3 =>
    nilV r3.outs (consV r3.vals fun v3 vs3 =>
    nilV vs3 (some ⟨[.bool v3.toBool], [], f3_fresh⟩))
  else
    (run 10 [.int a0_6, .int a0_7, .int a0_8, .int a0_9]).bind fun r4 =>
    nilV r4.outs (consV r4.vals fun v4 vs4 =>
    nilV vs4 (bif !v4.toBool then
    (run 12 []).bind fun r5 =>
    nilV r5.outs (consV r5.vals fun v5 vs5 =>
    nilV vs5 (some ⟨[.bool v5.toBool], [], f3_fresh⟩))
  else
    (run 11 [.agg [.agg [.int a0_1, .blob a0_2, .blob a0_3, .int a0_4], .blob a0_5, .int a0_6, .int a0_7, .int a0_8, .int a0_9, .int a0_10, .int a0_11], .slice a1_1]).bind fun r6 =>
    nilV r6.outs (consV r6.vals fun v6 vs6 =>
    nilV vs6 (bif !(eqI ((v6.fld 0).toInt) 0) then
    (run 12 []).bind fun r7 =>
    nilV r7.outs (consV r7.vals fun v7 vs7 =>
    nilV vs7 (some ⟨[.bool v7.toBool], [], f3_fresh⟩))
  else
    (run 13 [.blob a0_5, .slice a1_1]).bind fun r8 =>
    bif r8.fresh then
    nilV r8.outs (consV r8.vals fun v8 vs8 =>
    nilV vs8 ((run 14 [.slice v8.toSlice, .int a0_6, .int a0_7, .int a0_8, .int a0_9]).bind fun r9 =>
    bif r9.fresh then
    nilV r9.outs (consV r9.vals fun v9 vs9 =>
    nilV vs9 (bif eqI (v9.toSlice.length : Int) 0 then
    some ⟨[.bool false], [], f3_fresh⟩
  else
    bif inR 0 v9.toSlice.length then
    bif !(eqI ((nth v9.toSlice 0).toInt) 0) then
    some ⟨[.bool false], [], f3_fresh⟩
  else
    bif inR (IntKind.wrap .i64 ((v9.toSlice.length : Int) - 1)) v9.toSlice.length then
    bif !(eqI ((nth v9.toSlice (Int.toNat (IntKind.wrap .i64 ((v9.toSlice.length : Int) - 1)))).toInt) (IntKind.wrap .i64 (IntKind.wrap .i64 ((a1_1.length : Int) - a0_7) - 1))) then
    some ⟨[.bool false], [], f3_fresh⟩
  else
    f3_l0 run n n v8.toSlice v9.toSlice 1
  else none
  else none))
  else none))
  else none)))))) := by kernel_rfl
theorem f3_run (ext : Run) (n : Nat) (a0_1 : Int) (a0_2 : List UInt8) (a0_3 : List UInt8) (a0_4 : Int) (a0_5 : List UInt8) (a0_6 : Int) (a0_7 : Int) (a0_8 : Int) (a0_9 : Int) (a0_10 : Int) (a0_11 : Int) (a1_1 : List AV) : runE G ext (n + 1) 3 [.agg [.agg [.int a0_1, .blob a0_2, .blob a0_3, .int a0_4], .blob a0_5, .int a0_6, .int a0_7, .int a0_8, .int a0_9, .int a0_10, .int a0_11], .slice a1_1] = f3 (runE G ext n) n a0_1 a0_2 a0_3 a0_4 a0_5 a0_6 a0_7 a0_8 a0_9 a0_10 a0_11 a1_1 := runE_succ f3_at f3_in

noncomputable def f24 (run : Run) (n : Nat) (a0_1 : Int) (a0_2 : List UInt8) (a0_3 : List UInt8) (a0_4 : Int) (a0_5 : List UInt8) (a0_6 : Int) (a0_7 : Int) (a0_8 : Int) (a0_9 : Int) (a0_10 : Int) (a0_11 : Int) (a1_1 : List AV) : Option Res := evalK G run n f24_info.keep 0 f24_info.body (retE G f24_info) (f24_info.start [.agg [.agg [.int a0_1, .blob a0_2, .blob a0_3, .int a0_4], .blob a0_5, .int a0_6, .int a0_7, .int a0_8, .int a0_9, .int a0_10, .int a0_11], .slice a1_1])
theorem f24_eq (run : Run) (n : Nat) (a0_1 : Int) (a0_2 : List UInt8) (a0_3 : List UInt8) (a0_4 : Int) (a0_5 : List UInt8) (a0_6 : Int) (a0_7 : Int) (a0_8 : Int) (a0_9 : Int) (a0_10 : Int) (a0_11 : Int) (a1_1 : List AV) : f24 run n a0_1 a0_2 a0_3 a0_4 a0_5 a0_6 a0_7 a0_8 a0_9 a0_10 a0_11 a1_1 =
  (run 11 [.agg [.agg [.int a0_1, .blob a0_2, .blob a0_3, .int a0_4], .blob a0_5, .int a0_6, .int a0_7, .int a0_8, .int a0_9, .int a0_10, .int a0_11], .slice a1_1]).bind fun r1 =>
    nilV r1.outs (consV r1.vals fun v1 vs1 =>
    nilV vs1 (bif !(eqI ((v1.fld 0).toInt) 0) then
    some ⟨[.int ((v1.fld 0).toInt)], [], f24_fresh⟩
  else
    (run 10 [.int a0_6, .int a0_7, .int a0_8, .int a0_9]).bind fun r2 =>
    nilV r2.outs (consV r2.vals fun v2 vs2 =>
    nilV vs2 (bif !v2.toBool then
    some ⟨[.int 13], [], f24_fresh⟩
  else
    bif leI (a1_1.length : Int) a0_7 then
    some ⟨[.int 11], [], f24_fresh⟩
  else
    some ⟨[.int 0], [], f24_fresh⟩)))) := by kernel_rfl
theorem f24_run (ext : Run) (n : Nat) (a0_1 : Int) (a0_2 : List UInt8) (a0_3 : List UInt8) (a0_4 : Int) (a0_5 : List UInt8) (a0_6 : Int) (a0_7 : Int) (a0_8 : Int) (a0_9 : Int) (a0_10 : Int) (a0_11 : Int) (a1_1 : List AV) : runE G ext (n + 1) 24 [.agg [.agg [.int a0_1, .blob a0_2, .blob a0_3, .int a0_4], .blob a0_5, .int a0_6, .int a0_7, .int a0_8, .int a0_9, .int a0_10, .int a0_11], .slice a1_1] = f24 (runE G ext n) n a0_1 a0_2 a0_3 a0_4 a0_5 a0_6 a0_7 a0_8 a0_9 a0_10 a0_11 a1_1 := runE_succ f24_at f24_in

noncomputable def f21_l0 (run : Run) (n : Nat) (k0 : Nat) (x1_1 : List AV) (x5_1 : List AV) (x6_1 : Int) : Option Res :=
  iterK (evalK G run n f21_keep 0 (sub [1, 1, 0, 1, 0, 0] f21_body)) f21_t0 f21_o0 (blockK 0 (seqK (evalK G run n f21_keep 0 (sub [1, 1, 1] f21_body) (retE G f21_info)) (retE G f21_info))) k0
    ⟨[.any, .val (.slice (.struct [(.struct [(.int .u32), (.blob 32), (.blob 32), (.int .u64)]), (.slice .str)])) none (.slice x1_1), .any, .any, .any, .val (.slice (.int .i64)) (some (5, 0)) (.slice x5_1), .val (.int .i64) none (.int x6_1), .any, .any, .any, .any, .any, .any, .any, .any, .any, .any, .any, .any, .any, .any, .any, .any, .any, .any, .any, .any, .any, .any, .any, .any, .any, .any, .any, .any, .any, .any, .any, .any, .any, .any, .any, .any], [⟨0, none⟩, ⟨0, none⟩, ⟨0, none⟩, ⟨0, none⟩, ⟨0, none⟩, ⟨0, none⟩, ⟨0, none⟩, ⟨0, none⟩, ⟨0, none⟩, ⟨0, none⟩, ⟨0, none⟩, ⟨0, none⟩, ⟨0, none⟩, ⟨0, none⟩, ⟨0, none⟩, ⟨0, none⟩, ⟨0, none⟩, ⟨0, none⟩, ⟨0, none⟩, ⟨0, none⟩, ⟨0, none⟩, ⟨0, none⟩, ⟨0, none⟩, ⟨0, none⟩, ⟨0, none⟩, ⟨0, none⟩, ⟨0, none⟩, ⟨0, none⟩, ⟨0, none⟩, ⟨0, none⟩, ⟨0, none⟩, ⟨0, none⟩, ⟨0, none⟩, ⟨0, none⟩, ⟨0, none⟩, ⟨0, none⟩, ⟨0, none⟩, ⟨0, none⟩, ⟨0, none⟩, ⟨0, none⟩, ⟨0, none⟩, ⟨0, none⟩, ⟨0, none⟩], List.replicate 43 0⟩
theorem f21_l0_eq (run : Run) (n : Nat) (k0 : Nat) (x1_1 : List AV) (x5_1 : List AV) (x6_1 : Int) : f21_l0 run n (k0 + 1) x1_1 x5_1 x6_1 =
  bif ltI x6_1 (x1_1.length : Int) then
    bif ltI 0 (x5_1.length : Int) then
    bif Nat.ble ((x5_1.length + 1) * 8) 140737488355328 then
    f21_l0 run n k0 x1_1 (x5_1 ++ [.int x6_1]) (IntKind.wrap .i64 (x6_1 + 1))
  else none
  else
    some ⟨[.slice x5_1], [], f21_fresh⟩
  else
    some ⟨[.slice x5_1], [], f21_fresh⟩ := by kernel_rfl
noncomputable def f21 (run : Run) (n : Nat) (a0_1 : Int) (a0_2 : List UInt8) (a0_3 : List UInt8) (a0_4 : Int) (a0_5 : List UInt8) (a0_6 : Int) (a0_7 : Int) (a0_8 : Int) (a0_9 : Int) (a0_10 : Int) (a0_11 : Int) (a1_1 : List AV) : Option Res := evalK G run n f21_info.keep 0 f21_info.body (retE G f21_info) (f21_info.start [.agg [.agg [.int a0_1, .blob a0_2, .blob a0_3, .int a0_4], .blob a0_5, .int a0_6, .int a0_7, .int a0_8, .int a0_9, .int a0_10, .int a0_11], .slice a1_1])
theorem f21_eq (run : Run) (n : Nat) (a0_1 : Int) (a0_2 : List UInt8) (a0_3 : List UInt8) (a0_4 : Int) (a0_5 : List UInt8) (a0_6 : Int) (a0_7 : Int) (a0_8 : Int) (a0_9 : Int) (a0_10 : Int) (a0_11 : Int) (a1_1 : List AV) : f21 run n a0_1 a0_2 a0_3 a0_4 a0_5 a0_6 a0_7 a0_8 a0_9 a0_10 a0_11 a1_1 =
  (run 13 [.blob a0_5, .slice a1_1]).bind fun r1 =>
    bif r1.fresh then
    nilV r1.outs (consV r1.vals fun v1 vs1 =>
    nilV vs1 ((run 14 [.slice v1.toSlice, .int a0_6, .int a0_7, .int a0_8, .int a0_9]).bind fun r2 =>
    bif r2.fresh then
    nilV r2.outs (consV r2.vals fun v2 vs2 =>
    nilV vs2 (f21_l0 run n n a1_1 v2.toSlice (mx2 0 (IntKind.wrap .i64 ((a1_1.length : Int) - mx2 a0_7 0)))))
  else none))
  else none := by kernel_rfl
theorem f21_run (ext : Run) (n : Nat) (a0_1 : Int) (a0_2 : List UInt8) (a0_3 : List UInt8) (a0_4 : Int) (a0_5 : List UInt8) (a0_6 : Int) (a0_7 : Int) (a0_8 : Int) (a0_9 : Int) (a0_10 : Int) (a0_11 : Int) (a1_1 : List AV) : runE G ext (n + 1) 21 [.agg [.agg [.int a0_1, .blob a0_2, .blob a0_3, .int a0_4], .blob a0_5, .int a0_6, .int a0_7, .int a0_8, .int a0_9, .int a0_10, .int a0_11], .slice a1_1] = f21 (runE G ext n) n a0_1 a0_2 a0_3 a0_4 a0_5 a0_6 a0_7 a0_8 a0_9 a0_10 a0_11 a1_1 := runE_succ f21_at f21_in

noncomputable def f83_l0 (run : Run) (n : Nat) (k0 : Nat) (x5_1 : List AV) (x9_1 : List AV) (x10_1 : Int) (x11_1 : Int) (o2_1 : List UInt8) : Option Res :=
  iterK (evalK G run n f83_keep 0 (sub [1, 1, 0, 1, 0, 0] f83_body)) f83_t0 f83_o0 (blockK 0 (seqK (evalK G run n f83_keep 0 (sub [1, 1, 1] f83_body) (retE G f83_info)) (retE G f83_info))) k0
    ⟨[.any, .any, .ptr ⟨(.blob 32), 2, 1, []⟩, .any, .any, .val (.slice (.slice (.blob 32))) (some (5, 0)) (.slice x5_1), .any, .any, .any, .val (.slice (.struct [(.struct [(.int .u32), (.blob 32), (.blob 32), (.int .u64)]), (.slice .str)])) none (.slice x9_1), .val (.int .i64) none (.int x10_1), .val (.int .i64) none (.int x11_1), .any, .any, .any, .any, .any, .any, .any, .any, .any, .any, .any, .any, .any, .any, .any, .any, .any], [⟨0, none⟩, ⟨0, none⟩, ⟨1, some ⟨(.blob 32), .blob o2_1⟩⟩, ⟨0, none⟩, ⟨0, none⟩, ⟨0, none⟩, ⟨0, none⟩, ⟨0, none⟩, ⟨0, none⟩, ⟨0, none⟩, ⟨0, none⟩, ⟨0, none⟩, ⟨0, none⟩, ⟨0, none⟩, ⟨0, none⟩, ⟨0, none⟩, ⟨0, none⟩, ⟨0, none⟩, ⟨0, none⟩, ⟨0, none⟩, ⟨0, none⟩, ⟨0, none⟩, ⟨0, none⟩, ⟨0, none⟩, ⟨0, none⟩, ⟨0, none⟩, ⟨0, none⟩, ⟨0, none⟩, ⟨0, none⟩], List.replicate 29 0⟩
theorem f83_l0_eq (run : Run) (n : Nat) (k0 : Nat) (x5_1 : List AV) (x9_1 : List AV) (x10_1 : Int) (x11_1 : Int) (o2_1 : List UInt8) : f83_l0 run n (k0 + 1) x5_1 x9_1 x10_1 x11_1 o2_1 =
  bif ltI x11_1 x10_1 then
    bif inR x11_1 x9_1.length then
    bif inR x11_1 x5_1.length then
    (run 42 [.blob o2_1, .slice ((nth x5_1 (Int.toNat x11_1)).toSlice), .agg [.agg [.int ((((nth x9_1 (Int.toNat x11_1)).fld 0).fld 0).toInt), .blob ((((nth x9_1 (Int.toNat x11_1)).fld 0).fld 1).toBlob), .blob ((((nth x9_1 (Int.toNat x11_1)).fld 0).fld 2).toBlob), .int ((((nth x9_1 (Int.toNat x11_1)).fld 0).fld 3).toInt)], .slice (((nth x9_1 (Int.toNat x11_1)).fld 1).toSlice)], .int x11_1]).bind fun r1 =>
    nilV r1.outs (consV r1.vals fun v1 vs1 =>
    nilV vs1 (bif Nat.ble ((x5_1.length + 1) * 24) 140737488355328 then
    f83_l0 run n k0 (x5_1 ++ [.slice v1.toSlice]) x9_1 x10_1 (IntKind.wrap .i64 (x11_1 + 1)) o2_1
  else none))
  else none
  else none
  else
    some ⟨[.slice x5_1], [], f83_fresh⟩ := by kernel_rfl
noncomputable def f83 (run : Run) (n : Nat) (a0_1 : List UInt8) (a1_1 : List AV) : Option Res := evalK G run n f83_info.keep 0 f83_info.body (retE G f83_info) (f83_info.start [.blob a0_1, .slice a1_1])
theorem f83_eq (run : Run) (n : Nat) (a0_1 : List UInt8) (a1_1 : List AV) : f83 run n a0_1 a1_1 =
  f83_l0 run n n [.slice []] a1_1 (a1_1.length : Int) 0 a0_1 := by kernel_rfl
theorem f83_run (ext : Run) (n : Nat) (a0_1 : List UInt8) (a1_1 : List AV) : runE G ext (n + 1) 83 [.blob a0_1, .slice a1_1] = f83 (runE G ext n) n a0_1 a1_1 := runE_succ f83_at f83_in

noncomputable def f84_l0 (run : Run) (n : Nat) (k0 : Nat) (x2_1 : Int) (x11_1 : List AV) (x12_1 : Int) (x13_1 : Int) : Option Res :=
  iterK (evalK G run n f84_keep 0 (sub [1, 0, 1, 0, 0] f84_body)) f84_t0 f84_o0 (blockK 0 (seqK (evalK G run n f84_keep 0 (sub [1, 1] f84_body) (retE G f84_info)) (retE G f84_info))) k0
    ⟨[.any, .any, .val (.int .i64) none (.int x2_1), .any, .any, .any, .any, .any, .any, .any, .any, .val (.slice (.int .i64)) (some (11, 0)) (.slice x11_1), .val (.int .i64) none (.int x12_1), .val (.int .i64) none (.int x13_1), .any, .any, .any, .any, .any, .any, .any, .any, .any], [⟨0, none⟩, ⟨0, none⟩, ⟨0, none⟩, ⟨0, none⟩, ⟨0, none⟩, ⟨0, none⟩, ⟨0, none⟩, ⟨0, none⟩, ⟨0, none⟩, ⟨0, none⟩, ⟨0, none⟩, ⟨0, none⟩, ⟨0, none⟩, ⟨0, none⟩, ⟨0, none⟩, ⟨0, none⟩, ⟨0, none⟩, ⟨0, none⟩, ⟨0, none⟩, ⟨0, none⟩, ⟨0, none⟩, ⟨0, none⟩, ⟨0, none⟩], List.replicate 23 0⟩
theorem f84_l0_eq (run : Run) (n : Nat) (k0 : Nat) (x2_1 : Int) (x11_1 : List AV) (x12_1 : Int) (x13_1 : Int) : f84_l0 run n (k0 + 1) x2_1 x11_1 x12_1 x13_1 =
  bif ltI x13_1 x12_1 then
    bif inR x13_1 x11_1.length then
    bif eqI ((nth x11_1 (Int.toNat x13_1)).toInt) x2_1 then
    some ⟨[.int x13_1], [], f84_fresh⟩
  else
    f84_l0 run n k0 x2_1 x11_1 x12_1 (IntKind.wrap .i64 (x13_1 + 1))
  else none
  else
    some ⟨[.int (-1)], [], f84_fresh⟩ := by kernel_rfl
noncomputable def f84 (run : Run) (n : Nat) (a0_1 : List AV) (a1_1 : Int) (a2_1 : Int) : Option Res := evalK G run n f84_info.keep 0 f84_info.body (retE G f84_info) (f84_info.start [.slice a0_1, .int a1_1, .int a2_1])
theorem f84_eq (run : Run) (n : Nat) (a0_1 : List AV) (a1_1 : Int) (a2_1 : Int) : f84 run n a0_1 a1_1 a2_1 =
  (run 16 [.slice a0_1, .int a1_1]).bind fun r1 =>
    bif r1.fresh then
    nilV r1.outs (consV r1.vals fun v1 vs1 =>
    nilV vs1 (f84_l0 run n n a2_1 v1.toSlice (v1.toSlice.length : Int) 0))
  else none := by kernel_rfl
theorem f84_run (ext : Run) (n : Nat) (a0_1 : List AV) (a1_1 : Int) (a2_1 : Int) : runE G ext (n + 1) 84 [.slice a0_1, .int a1_1, .int a2_1] = f84 (runE G ext n) n a0_1 a1_1 a2_1 := runE_succ f84_at f84_in

noncomputable def f133 (run : Run) (n : Nat) (a0_1 : List AV) (a1_1 : Int) : Option Res := evalK G run n f133_info.keep 0 f133_info.body (retE G f133_info) (f133_info.start [.slice a0_1, .int a1_1])
theorem f133_eq (run : Run) (n : Nat) (a0_1 : List AV) (a1_1 : Int) : f133 run n a0_1 a1_1 =
  bif ltI (a0_1.length : Int) 2 then
    some ⟨[.slice []], [], f133_fresh⟩
  else
    (run 162 [.int (a0_1.length : Int)]).bind fun r1 =>
    nilV r1.outs (consV r1.vals fun v1 vs1 =>
    nilV vs1 (bif ltI a1_1 v1.toInt then
    bif boundsOk 0 v1.toInt (a0_1.length : Int) (a0_1.length : Int) && true then
    (run 133 [.slice (List.drop 0 (List.take (Int.toNat v1.toInt) a0_1)), .int a1_1]).bind fun r2 =>
    bif r2.fresh then
    nilV r2.outs (consV r2.vals fun v2 vs2 =>
    nilV vs2 (bif boundsOk v1.toInt (a0_1.length : Int) (a0_1.length : Int) (a0_1.length : Int) && true then
    (run 163 [.slice (List.drop (Int.toNat v1.toInt) (List.take (Int.toNat (a0_1.length : Int)) a0_1))]).bind fun r3 =>
    nilV r3.outs (consV r3.vals fun v3 vs3 =>
    nilV vs3 (bif Nat.ble ((v2.toSlice.length + 1) * 32) 140737488355328 then
    some ⟨[.slice (v2.toSlice ++ [.blob v3.toBlob])], [], f133_fresh⟩
  else none))
  else none))
  else none
  else none
  else
    bif boundsOk v1.toInt (a0_1.length : Int) (a0_1.length : Int) (a0_1.length : Int) && true then
    (run 133 [.slice (List.drop (Int.toNat v1.toInt) (List.take (Int.toNat (a0_1.length : Int)) a0_1)), .int (IntKind.wrap .i64 (a1_1 - v1.toInt))]).bind fun r4 =>
    bif r4.fresh then
    nilV r4.outs (consV r4.vals fun v4 vs4 =>
    nilV vs4 (bif boundsOk 0 v1.toInt (a0_1.length : Int) (a0_1.length : Int) && true then
    (run 163 [.slice (List.drop 0 (List.take (Int.toNat v1.toInt) a0_1))]).bind fun r5 =>
    nilV r5.outs (consV r5.vals fun v5 vs5 =>
    nilV vs5 (bif Nat.ble ((v4.toSlice.length + 1) * 32) 140737488355328 then
    some ⟨[.slice (v4.toSlice ++ [.blob v5.toBlob])], [], f133_fresh⟩
  else none))
  else none))
  else none
  else none)) := by kernel_rfl
theorem f133_run (ext : Run) (n : Nat) (a0_1 : List AV) (a1_1 : Int) : runE G ext (n + 1) 133 [.slice a0_1, .int a1_1] = f133 (runE G ext n) n a0_1 a1_1 := runE_succ f133_at f133_in

noncomputable def f98 (run : Run) (n : Nat) (a0_1 : List AV) (a1_1 : Int) : Option Res := evalK G run n f98_info.keep 0 f98_info.body (retE G f98_info) (f98_info.start [.slice a0_1, .int a1_1])
theorem f98_eq (run : Run) (n : Nat) (a0_1 : List AV) (a1_1 : Int) : f98 run n a0_1 a1_1 =
  bif ltI 1048576 (a0_1.length : Int) then
    some ⟨[.agg [.int 0, .int 0, .slice []], .int 4], [], f98_fresh⟩
  else
    bif ltI a1_1 0 then
    some ⟨[.agg [.int 0, .int 0, .slice []], .int 3], [], f98_fresh⟩
  else
    bif leI (a0_1.length : Int) a1_1 then
    some ⟨[.agg [.int 0, .int 0, .slice []], .int 3], [], f98_fresh⟩
  else
    (run 134 [.slice a0_1]).bind fun r1 =>
    bif r1.fresh then
    nilV r1.outs (consV r1.vals fun v1 vs1 =>
    nilV vs1 ((run 133 [.slice v1.toSlice, .int a1_1]).bind fun r2 =>
    bif r2.fresh then
    nilV r2.outs (consV r2.vals fun v2 vs2 =>
    nilV vs2 (some ⟨[.agg [.int a1_1, .int (a0_1.length : Int), .slice v2.toSlice], .int 0], [], f98_fresh⟩))
  else none))
  else none := by kernel_rfl
theorem f98_run (ext : Run) (n : Nat) (a0_1 : List AV) (a1_1 : Int) : runE G ext (n + 1) 98 [.slice a0_1, .int a1_1] = f98 (runE G ext n) n a0_1 a1_1 := runE_succ f98_at f98_in

noncomputable def f85 (run : Run) (n : Nat) (a0_1 : List AV) (a1_1 : Int) : Option Res := evalK G run n f85_info.keep 0 f85_info.body (retE G f85_info) (f85_info.start [.slice a0_1, .int a1_1])
theorem f85_eq (run : Run) (n : Nat) (a0_1 : List AV) (a1_1 : Int) : f85 run n a0_1 a1_1 =
  (run 119 [.slice a0_1]).bind fun r1 =>
    bif r1.fresh then
    nilV r1.outs (consV r1.vals fun v1 vs1 =>
    nilV vs1 ((run 98 [.slice v1.toSlice, .int a1_1]).bind fun r2 =>
    nilV r2.outs (consV r2.vals fun v2 vs2 =>
    consV vs2 fun v3 vs3 =>
    nilV vs3 (some ⟨[.agg [.int ((v2.fld 0).toInt), .int ((v2.fld 1).toInt), .slice ((v2.fld 2).toSlice)], .int v3.toInt], [], f85_fresh⟩))))
  else none := by kernel_rfl
theorem f85_run (ext : Run) (n : Nat) (a0_1 : List AV) (a1_1 : Int) : runE G ext (n + 1) 85 [.slice a0_1, .int a1_1] = f85 (runE G ext n) n a0_1 a1_1 := runE_succ f85_at f85_in

noncomputable def f50_l0 (run : Run) (n : Nat) (k0 : Nat) (x1_1 : List AV) (x2_1 : List AV) (x8_1 : List AV) (x9_1 : List AV) (x10_1 : List AV) (x23_1 : List AV) (x24_1 : Int) (x25_1 : Int) : Option Res :=
  iterK (evalK G run n f50_keep 0 (sub [1, 1, 1, 0, 1, 0, 0] f50_body)) f50_t0 f50_o0 (blockK 0 (seqK (evalK G run n f50_keep 0 (sub [1, 1, 1, 1] f50_body) (retE G f50_info)) (retE G f50_info))) k0
    ⟨[.any, .val (.slice (.struct [(.struct [(.int .u32), (.blob 32), (.blob 32), (.int .u64)]), (.slice .str)])) none (.slice x1_1), .val (.slice (.int .i64)) none (.slice x2_1), .any, .any, .any, .any, .any, .val (.slice (.int .i64)) (some (8, 0)) (.slice x8_1), .val (.slice (.slice (.blob 32))) (some (9, 0)) (.slice x9_1), .val (.slice (.struct [(.struct [(.int .u32), (.blob 32), (.blob 32), (.int .u64)]), (.struct [(.int .i64), (.int .i64), (.slice (.blob 32))])])) (some (10, 0)) (.slice x10_1), .any, .any, .any, .any, .any, .any, .any, .any, .any, .any, .any, .any, .val (.slice (.int .i64)) none (.slice x23_1), .val (.int .i64) none (.int x24_1), .val (.int .i64) none (.int x25_1), .any, .any, .any, .any, .any, .any, .any, .any, .any, .any, .any, .any, .any, .any, .any, .any, .any, .any, .any, .any, .any, .any, .any, .any, .any, .any, .any, .any, .any, .any, .any, .any, .any, .any, .any, .any, .any, .any, .any, .any, .any, .any, .any, .any, .any, .any, .any, .any, .any, .any], [⟨0, none⟩, ⟨0, none⟩, ⟨0, none⟩, ⟨0, none⟩, ⟨0, none⟩, ⟨0, none⟩, ⟨0, none⟩, ⟨0, none⟩, ⟨0, none⟩, ⟨0, none⟩, ⟨0, none⟩, ⟨0, none⟩, ⟨0, none⟩, ⟨0, none⟩, ⟨0, none⟩, ⟨0, none⟩, ⟨0, none⟩, ⟨0, none⟩, ⟨0, none⟩, ⟨0, none⟩, ⟨0, none⟩, ⟨0, none⟩, ⟨0, none⟩, ⟨0, none⟩, ⟨0, none⟩, ⟨0, none⟩, ⟨0, none⟩, ⟨0, none⟩, ⟨0, none⟩, ⟨0, none⟩, ⟨0, none⟩, ⟨0, none⟩, ⟨0, none⟩, ⟨0, none⟩, ⟨0, none⟩, ⟨0, none⟩, ⟨0, none⟩, ⟨0, none⟩, ⟨0, none⟩, ⟨0, none⟩, ⟨0, none⟩, ⟨0, none⟩, ⟨0, none⟩, ⟨0, none⟩, ⟨0, none⟩, ⟨0, none⟩, ⟨0, none⟩, ⟨0, none⟩, ⟨0, none⟩, ⟨0, none⟩, ⟨0, none⟩, ⟨0, none⟩, ⟨0, none⟩, ⟨0, none⟩, ⟨0, none⟩, ⟨0, none⟩, ⟨0, none⟩, ⟨0, none⟩, ⟨0, none⟩, ⟨0, none⟩, ⟨0, none⟩, ⟨0, none⟩, ⟨0, none⟩, ⟨0, none⟩, ⟨0, none⟩, ⟨0, none⟩, ⟨0, none⟩, ⟨0, none⟩, ⟨0, none⟩, ⟨0, none⟩, ⟨0, none⟩, ⟨0, none⟩, ⟨0, none⟩, ⟨0, none⟩, ⟨0, none⟩, ⟨0, none⟩], List.replicate 76 0⟩
theorem f50_l0_eq (run : Run) (n : Nat) (k0 : Nat) (x1_1 : List AV) (x2_1 : List AV) (x8_1 : List AV) (x9_1 : List AV) (x10_1 : List AV) (x23_1 : List AV) (x24_1 : Int) (x25_1 : Int) : f50_l0 run n (k0 + 1) x1_1 x2_1 x8_1 x9_1 x10_1 x23_1 x24_1 x25_1 =
  bif ltI x25_1 x24_1 then
    bif inR x25_1 x23_1.length then
    bif ltI ((nth x23_1 (Int.toNat x25_1)).toInt) 0 then
    some ⟨[.slice [], .int 15], [], f50_fresh⟩
  else
    bif leI (x1_1.length : Int) ((nth x23_1 (Int.toNat x25_1)).toInt) then
    some ⟨[.slice [], .int 15], [], f50_fresh⟩
  else
    bif inR ((nth x23_1 (Int.toNat x25_1)).toInt) x1_1.length then
    bif ltI 0 x25_1 then
    bif inR (IntKind.wrap .i64 (x25_1 - 1)) x2_1.length then
    (run 84 [.slice x8_1, .int ((nth x23_1 (Int.toNat x25_1)).toInt), .int ((nth x2_1 (Int.toNat (IntKind.wrap .i64 (x25_1 - 1)))).toInt)]).bind fun r3 =>
    nilV r3.outs (consV r3.vals fun v3 vs3 =>
    nilV vs3 (bif ltI v3.toInt 0 then
    some ⟨[.slice [], .int 10], [], f50_fresh⟩
  else
    bif inR ((nth x23_1 (Int.toNat x25_1)).toInt) x9_1.length then
    (run 85 [.slice ((nth x9_1 (Int.toNat ((nth x23_1 (Int.toNat x25_1)).toInt))).toSlice), .int v3.toInt]).bind fun r4 =>
    nilV r4.outs (consV r4.vals fun v4 vs4 =>
    consV vs4 fun v5 vs5 =>
    nilV vs5 (bif !(eqI v5.toInt 0) then
    some ⟨[.slice [], .int v5.toInt], [], f50_fresh⟩
  else
    bif Nat.ble ((x10_1.length + 1) * 120) 140737488355328 then
    f50_l0 run n k0 x1_1 x2_1 x8_1 x9_1 (x10_1 ++ [.agg [.agg [.int ((((nth x1_1 (Int.toNat ((nth x23_1 (Int.toNat x25_1)).toInt))).fld 0).fld 0).toInt), .blob ((((nth x1_1 (Int.toNat ((nth x23_1 (Int.toNat x25_1)).toInt))).fld 0).fld 1).toBlob), .blob ((((nth x1_1 (Int.toNat ((nth x23_1 (Int.toNat x25_1)).toInt))).fld 0).fld 2).toBlob), .int ((((nth x1_1 (Int.toNat ((nth x23_1 (Int.toNat x25_1)).toInt))).fld 0).fld 3).toInt)], .agg [.int ((v4.fld 0).toInt), .int ((v4.fld 1).toInt), .slice ((v4.fld 2).toSlice)]]]) x23_1 x24_1 (IntKind.wrap .i64 (x25_1 + 1))
  else none))
  else none))
  else none
  else
    bif Nat.ble ((x10_1.length + 1) * 120) 140737488355328 then
    f50_l0 run n k0 x1_1 x2_1 x8_1 x9_1 (x10_1 ++ [.agg [.agg [.int ((((nth x1_1 (Int.toNat ((nth x23_1 (Int.toNat x25_1)).toInt))).fld 0).fld 0).toInt), .blob ((((nth x1_1 (Int.toNat ((nth x23_1 (Int.toNat x25_1)).toInt))).fld 0).fld 1).toBlob), .blob ((((nth x1_1 (Int.toNat ((nth x23_1 (Int.toNat x25_1)).toInt))).fld 0).fld 2).toBlob), .int ((((nth x1_1 (Int.toNat ((nth x23_1 (Int.toNat x25_1)).toInt))).fld 0).fld 3).toInt)], .agg [.int 0, .int 0, .slice []]]]) x23_1 x24_1 (IntKind.wrap .i64 (x25_1 + 1))
  else none
  else none
  else none
  else
    some ⟨[.slice x10_1, .int 0], [], f50_fresh⟩ := by kernel_rfl
noncomputable def f50 (run : Run) (n : Nat) (a0_1 : List UInt8) (a1_1 : List AV) (a2_1 : List AV) : Option Res := evalK G run n f50_info.keep 0 f50_info.body (retE G f50_info) (f50_info.start [.blob a0_1, .slice a1_1, .slice a2_1])
theorem f50_eq (run : Run) (n : Nat) (a0_1 : List UInt8) (a1_1 : List AV) (a2_1 : List AV) : f50 run n a0_1 a1_1 a2_1 =
  (run 13 [.blob a0_1, .slice a1_1]).bind fun r1 =>
    bif r1.fresh then
    nilV r1.outs (consV r1.vals fun v1 vs1 =>
    nilV vs1 ((run 83 [.blob a0_1, .slice a1_1]).bind fun r2 =>
    bif r2.fresh then
    nilV r2.outs (consV r2.vals fun v2 vs2 =>
    nilV vs2 (f50_l0 run n n a1_1 a2_1 v1.toSlice v2.toSlice [] a2_1 (a2_1.length : Int) 0))
  else none))
  else none := by kernel_rfl
theorem f50_run (ext : Run) (n : Nat) (a0_1 : List UInt8) (a1_1 : List AV) (a2_1 : List AV) : runE G ext (n + 1) 50 [.blob a0_1, .slice a1_1, .slice a2_1] = f50 (runE G ext n) n a0_1 a1_1 a2_1 := runE_succ f50_at f50_in

noncomputable def f18 (run : Run) (n : Nat) (a0_1 : Int) (a0_2 : List UInt8) (a0_3 : List UInt8) (a0_4 : Int) (a0_5 : List UInt8) (a0_6 : Int) (a0_7 : Int) (a0_8 : Int) (a0_9 : Int) (a0_10 : Int) (a0_11 : Int) (a1_1 : List AV) : Option Res := evalK G run n f18_info.keep 0 f18_info.body (retE G f18_info) (f18_info.start [.agg [.agg [.int a0_1, .blob a0_2, .blob a0_3, .int a0_4], .blob a0_5, .int a0_6, .int a0_7, .int a0_8, .int a0_9, .int a0_10, .int a0_11], .slice a1_1])
theorem f18_eq (run : Run) (n : Nat) (a0_1 : Int) (a0_2 : List UInt8) (a0_3 : List UInt8) (a0_4 : Int) (a0_5 : List UInt8) (a0_6 : Int) (a0_7 : Int) (a0_8 : Int) (a0_9 : Int) (a0_10 : Int) (a0_11 : Int) (a1_1 : List AV) : f18 run n a0_1 a0_2 a0_3 a0_4 a0_5 a0_6 a0_7 a0_8 a0_9 a0_10 a0_11 a1_1 =
  (run 24 [.agg [.agg [.int a0_1, .blob a0_2, .blob a0_3, .int a0_4], .blob a0_5, .int a0_6, .int a0_7, .int a0_8, .int a0_9, .int a0_10, .int a0_11], .slice a1_1]).bind fun r1 =>
    nilV r1.outs (consV r1.vals fun v1 vs1 =>
    nilV vs1 (bif !(eqI v1.toInt 0) then
    some ⟨[.slice [], .int v1.toInt], [], f18_fresh⟩
  else
    (run 21 [.agg [.agg [.int a0_1, .blob a0_2, .blob a0_3, .int a0_4], .blob a0_5, .int a0_6, .int a0_7, .int a0_8, .int a0_9, .int a0_10, .int a0_11], .slice a1_1]).bind fun r2 =>
    bif r2.fresh then
    nilV r2.outs (consV r2.vals fun v2 vs2 =>
    nilV vs2 ((run 50 [.blob a0_5, .slice a1_1, .slice v2.toSlice]).bind fun r3 =>
    nilV r3.outs (consV r3.vals fun v3 vs3 =>
    consV vs3 fun v4 vs4 =>
    nilV vs4 (some ⟨[.slice v3.toSlice, .int v4.toInt], [], f18_fresh⟩))))
  else none)) := by kernel_rfl
theorem f18_run (ext : Run) (n : Nat) (a0_1 : Int) (a0_2 : List UInt8) (a0_3 : List UInt8) (a0_4 : Int) (a0_5 : List UInt8) (a0_6 : Int) (a0_7 : Int) (a0_8 : Int) (a0_9 : Int) (a0_10 : Int) (a0_11 : Int) (a1_1 : List AV) : runE G ext (n + 1) 18 [.agg [.agg [.int a0_1, .blob a0_2, .blob a0_3, .int a0_4], .blob a0_5, .int a0_6, .int a0_7, .int a0_8, .int a0_9, .int a0_10, .int a0_11], .slice a1_1] = f18 (runE G ext n) n a0_1 a0_2 a0_3 a0_4 a0_5 a0_6 a0_7 a0_8 a0_9 a0_10 a0_11 a1_1 := runE_succ f18_at f18_in

noncomputable def f17 (run : Run) (n : Nat) : Option Res := evalK G run n f17_info.keep 0 f17_info.body (retE G f17_info) (f17_info.start [])
theorem f17_eq (run : Run) (n : Nat) : f17 run n  =
  (run 18 [.agg [.agg [.int 0, .blob (List.replicate 32 0), .blob (List.replicate 32 0), .int 0], .blob (List.replicate 32 0), .int 0, .int 0, .int 0, .int 0, .int 0, .int 0], .slice []]).bind fun r1 =>
    nilV r1.outs (consV r1.vals fun _v1 vs1 =>
    consV vs1 fun v2 vs2 =>
    nilV vs2 ((run 50 [.blob [0, 0, 0, 0, 0, 0, 0, 0, 0, 0, 0, 0, 0, 0, 0, 0, 0, 0, 0, 0, 0, 0, 0, 0, 0, 0, 0, 0, 0, 0, 0, 0], .slice (List.replicate 1 (.agg [.agg [.int 0, .blob (List.replicate 32 0), .blob (List.replicate 32 0), .int 0], .slice []])), .slice [.int 0]]).bind fun r2 =>
    nilV r2.outs (consV r2.vals fun v3 vs3 =>
    consV vs3 fun v4 vs4 =>
    nilV vs4 (bif eqI v2.toInt 6 then
    bif eqI (v3.toSlice.length : Int) 1 then
    some ⟨[.bool (eqI v4.toInt 0)], [], f17_fresh⟩
  else
    some ⟨[.bool false], [], f17_fresh⟩
  else
    some ⟨[.bool false], [], f17_fresh⟩)))) := by kernel_rfl
theorem f17_run (ext : Run) (n : Nat) : runE G ext (n + 1) 17 [] = f17 (runE G ext n) n  := runE_succ f17_at f17_in

noncomputable def f135_l0 (run : Run) (n : Nat) (k0 : Nat) (x29_1 : Int) (x30_1 : Int) (o2_1 : Int) (o2_2 : Int) (o2_3 : List AV) (o3_1 : Int) (o3_2 : Int) (o3_3 : List AV) : Option Res :=
  iterK (evalK G run n f135_keep 0 (sub [1, 1, 0, 1, 0, 0] f135_body)) f135_t0 f135_o0 (blockK 0 (seqK (evalK G run n f135_keep 0 (sub [1, 1, 1] f135_body) (retE G f135_info)) (retE G f135_info))) k0
    ⟨[.any, .any, .ptr ⟨(.struct [(.int .i64), (.int .i64), (.slice (.blob 32))]), 2, 1, []⟩, .ptr ⟨(.struct [(.int .i64), (.int .i64), (.slice (.blob 32))]), 3, 1, []⟩, .any, .any, .any, .any, .any, .any, .any, .any, .any, .any, .any, .any, .any, .any, .any, .any, .any, .any, .any, .any, .any, .any, .any, .any, .any, .val (.int .i64) none (.int x29_1), .val (.int .i64) none (.int x30_1), .any, .any, .any, .any, .any, .any, .any, .any, .any, .any, .any, .any, .any, .any], [⟨0, none⟩, ⟨0, none⟩, ⟨1, some ⟨(.struct [(.int .i64), (.int .i64), (.slice (.blob 32))]), .agg [.int o2_1, .int o2_2, .slice o2_3]⟩⟩, ⟨1, some ⟨(.struct [(.int .i64), (.int .i64), (.slice (.blob 32))]), .agg [.int o3_1, .int o3_2, .slice o3_3]⟩⟩, ⟨0, none⟩, ⟨0, none⟩, ⟨0, none⟩, ⟨0, none⟩, ⟨0, none⟩, ⟨0, none⟩, ⟨0, none⟩, ⟨0, none⟩, ⟨0, none⟩, ⟨0, none⟩, ⟨0, none⟩, ⟨0, none⟩, ⟨0, none⟩, ⟨0, none⟩, ⟨0, none⟩, ⟨0, none⟩, ⟨0, none⟩, ⟨0, none⟩, ⟨0, none⟩, ⟨0, none⟩, ⟨0, none⟩, ⟨0, none⟩, ⟨0, none⟩, ⟨0, none⟩, ⟨0, none⟩, ⟨0, none⟩, ⟨0, none⟩, ⟨0, none⟩, ⟨0, none⟩, ⟨0, none⟩, ⟨0, none⟩, ⟨0, none⟩, ⟨0, none⟩, ⟨0, none⟩, ⟨0, none⟩, ⟨0, none⟩, ⟨0, none⟩, ⟨0, none⟩, ⟨0, none⟩, ⟨0, none⟩, ⟨0, none⟩], List.replicate 45 0⟩
theorem f135_l0_eq (run : Run) (n : Nat) (k0 : Nat) (x29_1 : Int) (x30_1 : Int) (o2_1 : Int) (o2_2 : Int) (o2_3 : List AV) (o3_1 : Int) (o3_2 : Int) (o3_3 : List AV) : f135_l0 run n (k0 + 1) x29_1 x30_1 o2_1 o2_2 o2_3 o3_1 o3_2 o3_3 =
  bif ltI x30_1 x29_1 then
    bif inR x30_1 o2_3.length then
    bif inR x30_1 o3_3.length then
    bif !(eqS ((nth o2_3 (Int.toNat x30_1)).toBlob) ((nth o3_3 (Int.toNat x30_1)).toBlob)) then
    some ⟨[.bool false], [], f135_fresh⟩
  else
    f135_l0 run n k0 x29_1 (IntKind.wrap .i64 (x30_1 + 1)) o2_1 o2_2 o2_3 o3_1 o3_2 o3_3
  else none
  else none
  else
    some ⟨[.bool true], [], f135_fresh⟩ := by kernel_rfl
noncomputable def f135 (run : Run) (n : Nat) (a0_1 : Int) (a0_2 : Int) (a0_3 : List AV) (a1_1 : Int) (a1_2 : Int) (a1_3 : List AV) : Option Res := evalK G run n f135_info.keep 0 f135_info.body (retE G f135_info) (f135_info.start [.agg [.int a0_1, .int a0_2, .slice a0_3], .agg [.int a1_1, .int a1_2, .slice a1_3]])
theorem f135_eq (run : Run) (n : Nat) (a0_1 : Int) (a0_2 : Int) (a0_3 : List AV) (a1_1 : Int) (a1_2 : Int) (a1_3 : List AV) : f135 run n a0_1 a0_2 a0_3 a1_1 a1_2 a1_3 =
  bif !(eqI a0_1 a1_1) then
    some ⟨[.bool false], [], f135_fresh⟩
  else
    bif !(eqI a0_2 a1_2) then
    some ⟨[.bool false], [], f135_fresh⟩
  else
    bif !(eqI (a0_3.length : Int) (a1_3.length : Int)) then
    some ⟨[.bool false], [], f135_fresh⟩
  else
    f135_l0 run n n (a0_3.length : Int) 0 a0_1 a0_2 a0_3 a1_1 a1_2 a1_3 := by kernel_rfl
theorem f135_run (ext : Run) (n : Nat) (a0_1 : Int) (a0_2 : Int) (a0_3 : List AV) (a1_1 : Int) (a1_2 : Int) (a1_3 : List AV) : runE G ext (n + 1) 135 [.agg [.int a0_1, .int a0_2, .slice a0_3], .agg [.int a1_1, .int a1_2, .slice a1_3]] = f135 (runE G ext n) n a0_1 a0_2 a0_3 a1_1 a1_2 a1_3 := runE_succ f135_at f135_in

noncomputable def f103 (run : Run) (n : Nat) (a0_1 : Int) (a0_2 : Int) (a0_3 : List AV) : Option Res := evalK G run n f103_info.keep 0 f103_info.body (retE G f103_info) (f103_info.start [.agg [.int a0_1, .int a0_2, .slice a0_3]])
theorem f103_eq (run : Run) (n : Nat) (a0_1 : Int) (a0_2 : Int) (a0_3 : List AV) : f103 run n a0_1 a0_2 a0_3 =
  (run 135 [.agg [.int a0_1, .int a0_2, .slice a0_3], .agg [.int 0, .int 0, .slice []]]).bind fun r1 =>
    nilV r1.outs (consV r1.vals fun v1 vs1 =>
    nilV vs1 (some ⟨[.bool v1.toBool], [], f103_fresh⟩)) := by kernel_rfl
theorem f103_run (ext : Run) (n : Nat) (a0_1 : Int) (a0_2 : Int) (a0_3 : List AV) : runE G ext (n + 1) 103 [.agg [.int a0_1, .int a0_2, .slice a0_3]] = f103 (runE G ext n) n a0_1 a0_2 a0_3 := runE_succ f103_at f103_in

noncomputable def f66 (run : Run) (n : Nat) (a0_1 : Int) (a0_2 : List UInt8) (a0_3 : List UInt8) (a0_4 : Int) (a1_1 : List AV) : Option Res := evalK G run n f66_info.keep 0 f66_info.body (retE G f66_info) (f66_info.start [.agg [.int a0_1, .blob a0_2, .blob a0_3, .int a0_4], .slice a1_1])
theorem f66_eq (run : Run) (n : Nat) (a0_1 : Int) (a0_2 : List UInt8) (a0_3 : List UInt8) (a0_4 : Int) (a1_1 : List AV) : f66 run n a0_1 a0_2 a0_3 a0_4 a1_1 =
  bif eqI (a1_1.length : Int) 0 then
    some ⟨[.int 6], [], f66_fresh⟩
  else
    bif inR 0 a1_1.length then
    bif !(eqI ((((nth a1_1 0).fld 0).fld 0).toInt) a0_1 && (eqS ((((nth a1_1 0).fld 0).fld 1).toBlob) a0_2 && (eqS ((((nth a1_1 0).fld 0).fld 2).toBlob) a0_3 && (eqI ((((nth a1_1 0).fld 0).fld 3).toInt) a0_4 && true)))) then
    some ⟨[.int 7], [], f66_fresh⟩
  else
    bif inR 0 a1_1.length then
    (run 103 [.agg [.int ((((nth a1_1 0).fld 1).fld 0).toInt), .int ((((nth a1_1 0).fld 1).fld 1).toInt), .slice ((((nth a1_1 0).fld 1).fld 2).toSlice)]]).bind fun r1 =>
    nilV r1.outs (consV r1.vals fun v1 vs1 =>
    nilV vs1 (bif !v1.toBool then
    some ⟨[.int 2], [], f66_fresh⟩
  else
    some ⟨[.int 0], [], f66_fresh⟩))
  else none
  else none := by kernel_rfl
theorem f66_run (ext : Run) (n : Nat) (a0_1 : Int) (a0_2 : List UInt8) (a0_3 : List UInt8) (a0_4 : Int) (a1_1 : List AV) : runE G ext (n + 1) 66 [.agg [.int a0_1, .blob a0_2, .blob a0_3, .int a0_4], .slice a1_1] = f66 (runE G ext n) n a0_1 a0_2 a0_3 a0_4 a1_1 := runE_succ f66_at f66_in

noncomputable def f67 (run : Run) (n : Nat) (a0_1 : Int) (a0_2 : List UInt8) (a0_3 : List UInt8) (a0_4 : Int) (a0_5 : List UInt8) (a0_6 : Int) (a0_7 : Int) (a0_8 : Int) (a0_9 : Int) (a0_10 : Int) (a0_11 : Int) (a1_1 : List AV) : Option Res := evalK G run n f67_info.keep 0 f67_info.body (retE G f67_info) (f67_info.start [.agg [.agg [.int a0_1, .blob a0_2, .blob a0_3, .int a0_4], .blob a0_5, .int a0_6, .int a0_7, .int a0_8, .int a0_9, .int a0_10, .int a0_11], .slice a1_1])
theorem f67_eq (run : Run) (n : Nat) (a0_1 : Int) (a0_2 : List UInt8) (a0_3 : List UInt8) (a0_4 : Int) (a0_5 : List UInt8) (a0_6 : Int) (a0_7 : Int) (a0_8 : Int) (a0_9 : Int) (a0_10 : Int) (a0_11 : Int) (a1_1 : List AV) : f67 run n a0_1 a0_2 a0_3 a0_4 a0_5 a0_6 a0_7 a0_8 a0_9 a0_10 a0_11 a1_1 =
  some ⟨[.slice [.agg [.clo 104 [.slice a1_1], .int 8], .agg [.clo 105 [.slice a1_1, .agg [.agg [.int a0_1, .blob a0_2, .blob a0_3, .int a0_4], .blob a0_5, .int a0_6, .int a0_7, .int a0_8, .int a0_9, .int a0_10, .int a0_11]], .int 9], .agg [.clo 106 [.slice a1_1], .int 10]]], [], f67_fresh⟩ := by kernel_rfl
theorem f67_run (ext : Run) (n : Nat) (a0_1 : Int) (a0_2 : List UInt8) (a0_3 : List UInt8) (a0_4 : Int) (a0_5 : List UInt8) (a0_6 : Int) (a0_7 : Int) (a0_8 : Int) (a0_9 : Int) (a0_10 : Int) (a0_11 : Int) (a1_1 : List AV) : runE G ext (n + 1) 67 [.agg [.agg [.int a0_1, .blob a0_2, .blob a0_3, .int a0_4], .blob a0_5, .int a0_6, .int a0_7, .int a0_8, .int a0_9, .int a0_10, .int a0_11], .slice a1_1] = f67 (runE G ext n) n a0_1 a0_2 a0_3 a0_4 a0_5 a0_6 a0_7 a0_8 a0_9 a0_10 a0_11 a1_1 := runE_succ f67_at f67_in

noncomputable def f189 (run : Run) (n : Nat) (a0_1 : Int) (a1_1 : Int) : Option Res := evalK G run n f189_info.keep 0 f189_info.body (retE G f189_info) (f189_info.start [.int a0_1, .int a1_1])
theorem f189_eq (run : Run) (n : Nat) (a0_1 : Int) (a1_1 : Int) : f189 run n a0_1 a1_1 =
  bif ltI a1_1 0 then
    some ⟨[.int (-1)], [], f189_fresh⟩
  else
    bif leI a0_1 a1_1 then
    some ⟨[.int (-1)], [], f189_fresh⟩
  else
    (run 190 [.int a0_1, .int a1_1]).bind fun r1 =>
    bif r1.fresh then
    nilV r1.outs (consV r1.vals fun v1 vs1 =>
    nilV vs1 (some ⟨[.int (v1.toSlice.length : Int)], [], f189_fresh⟩))
  else none := by kernel_rfl
theorem f189_run (ext : Run) (n : Nat) (a0_1 : Int) (a1_1 : Int) : runE G ext (n + 1) 189 [.int a0_1, .int a1_1] = f189 (runE G ext n) n a0_1 a1_1 := runE_succ f189_at f189_in

noncomputable def f166 (run : Run) (n : Nat) (a0_1 : Int) (a0_2 : Int) (a0_3 : List AV) : Option Res := evalK G run n f166_info.keep 0 f166_info.body (retE G f166_info) (f166_info.start [.agg [.int a0_1, .int a0_2, .slice a0_3]])
theorem f166_eq (run : Run) (n : Nat) (a0_1 : Int) (a0_2 : Int) (a0_3 : List AV) : f166 run n a0_1 a0_2 a0_3 =
  bif ltI a0_2 1 then
    some ⟨[.int 3], [], f166_fresh⟩
  else
    bif ltI 1048576 a0_2 then
    some ⟨[.int 3], [], f166_fresh⟩
  else
    bif ltI a0_1 0 then
    some ⟨[.int 3], [], f166_fresh⟩
  else
    bif leI a0_2 a0_1 then
    some ⟨[.int 3], [], f166_fresh⟩
  else
    (run 189 [.int a0_2, .int a0_1]).bind fun r1 =>
    nilV r1.outs (consV r1.vals fun v1 vs1 =>
    nilV vs1 (bif !(eqI (a0_3.length : Int) v1.toInt) then
    some ⟨[.int 2], [], f166_fresh⟩
  else
    some ⟨[.int 0], [], f166_fresh⟩)) := by kernel_rfl
theorem f166_run (ext : Run) (n : Nat) (a0_1 : Int) (a0_2 : Int) (a0_3 : List AV) : runE G ext (n + 1) 166 [.agg [.int a0_1, .int a0_2, .slice a0_3]] = f166 (runE G ext n) n a0_1 a0_2 a0_3 := runE_succ f166_at f166_in

noncomputable def f167_l0 (run : Run) (n : Nat) (k0 : Nat) (x6_1 : List AV) (x20_1 : List AV) (x21_1 : Int) (x22_1 : Int) (o3_1 : Int) (o3_2 : Int) (o3_3 : List AV) (o5_1 : List UInt8) : Option Res :=
  iterK (evalK G run n f167_keep 0 (sub [1, 1, 1, 1, 0, 1, 0, 0] f167_body)) f167_t0 f167_o0 (blockK 0 (seqK (evalK G run n f167_keep 0 (sub [1, 1, 1, 1, 1] f167_body) (retE G f167_info)) (retE G f167_info))) k0
    ⟨[.any, .any, .any, .ptr ⟨(.struct [(.int .i64), (.int .i64), (.slice (.blob 32))]), 3, 1, []⟩, .any, .ptr ⟨(.blob 32), 5, 1, []⟩, .val (.slice (.blob 32)) (some (6, 0)) (.slice x6_1), .any, .any, .any, .any, .any, .any, .any, .any, .any, .any, .any, .any, .any, .val (.slice .bool) (some (20, 0)) (.slice x20_1), .val (.int .i64) none (.int x21_1), .val (.int .i64) none (.int x22_1), .any, .any, .any, .any, .any, .any, .any, .any, .any, .any, .any, .any, .any, .any, .any, .any, .any, .any, .any, .any, .any, .any, .any, .any, .any], [⟨0, none⟩, ⟨0, none⟩, ⟨0, none⟩, ⟨1, some ⟨(.struct [(.int .i64), (.int .i64), (.slice (.blob 32))]), .agg [.int o3_1, .int o3_2, .slice o3_3]⟩⟩, ⟨0, none⟩, ⟨1, some ⟨(.blob 32), .blob o5_1⟩⟩, ⟨0, none⟩, ⟨0, none⟩, ⟨0, none⟩, ⟨0, none⟩, ⟨0, none⟩, ⟨0, none⟩, ⟨0, none⟩, ⟨0, none⟩, ⟨0, none⟩, ⟨0, none⟩, ⟨0, none⟩, ⟨0, none⟩, ⟨0, none⟩, ⟨0, none⟩, ⟨0, none⟩, ⟨0, none⟩, ⟨0, none⟩, ⟨0, none⟩, ⟨0, none⟩, ⟨0, none⟩, ⟨0, none⟩, ⟨0, none⟩, ⟨0, none⟩, ⟨0, none⟩, ⟨0, none⟩, ⟨0, none⟩, ⟨0, none⟩, ⟨0, none⟩, ⟨0, none⟩, ⟨0, none⟩, ⟨0, none⟩, ⟨0, none⟩, ⟨0, none⟩, ⟨0, none⟩, ⟨0, none⟩, ⟨0, none⟩, ⟨0, none⟩, ⟨0, none⟩, ⟨0, none⟩, ⟨0, none⟩, ⟨0, none⟩, ⟨0, none⟩], List.replicate 48 0⟩
theorem f167_l0_eq (run : Run) (n : Nat) (k0 : Nat) (x6_1 : List AV) (x20_1 : List AV) (x21_1 : Int) (x22_1 : Int) (o3_1 : Int) (o3_2 : Int) (o3_3 : List AV) (o5_1 : List UInt8) : f167_l0 run n (k0 + 1) x6_1 x20_1 x21_1 x22_1 o3_1 o3_2 o3_3 o5_1 =
  bif ltI x22_1 x21_1 then
    bif inR x22_1 x20_1.length then
    bif (nth x20_1 (Int.toNat x22_1)).toBool then
    bif inR x22_1 o3_3.length then
    (run 187 [.blob ((nth o3_3 (Int.toNat x22_1)).toBlob), .blob o5_1]).bind fun r4 =>
    nilV r4.outs (consV r4.vals fun v4 vs4 =>
    nilV vs4 (bif Nat.ble ((x6_1.length + 1) * 32) 140737488355328 then
    f167_l0 run n k0 (x6_1 ++ [.blob v4.toBlob]) x20_1 x21_1 (IntKind.wrap .i64 (x22_1 + 1)) o3_1 o3_2 o3_3 v4.toBlob
  else none))
  else none
  else
    bif inR x22_1 o3_3.length then
    (run 187 [.blob o5_1, .blob ((nth o3_3 (Int.toNat x22_1)).toBlob)]).bind fun r5 =>
    nilV r5.outs (consV r5.vals fun v5 vs5 =>
    nilV vs5 (bif Nat.ble ((x6_1.length + 1) * 32) 140737488355328 then
    f167_l0 run n k0 (x6_1 ++ [.blob v5.toBlob]) x20_1 x21_1 (IntKind.wrap .i64 (x22_1 + 1)) o3_1 o3_2 o3_3 v5.toBlob
  else none))
  else none
  else none
  else
    some ⟨[.slice x6_1], [], f167_fresh⟩ := by kernel_rfl
noncomputable def f167 (run : Run) (n : Nat) (a0_1 : List UInt8) (a1_1 : Int) (a1_2 : Int) (a1_3 : List AV) : Option Res := evalK G run n f167_info.keep 0 f167_info.body (retE G f167_info) (f167_info.start [.str a0_1, .agg [.int a1_1, .int a1_2, .slice a1_3]])
theorem f167_eq (run : Run) (n : Nat) (a0_1 : List UInt8) (a1_1 : Int) (a1_2 : Int) (a1_3 : List AV) : f167 run n a0_1 a1_1 a1_2 a1_3 =
  (run 166 [.agg [.int a1_1, .int a1_2, .slice a1_3]]).bind fun r1 =>
    nilV r1.outs (consV r1.vals fun v1 vs1 =>
    nilV vs1 (bif !(eqI v1.toInt 0) then
    some ⟨[.slice []], [], f167_fresh⟩
  else
    (run 165 [.str a0_1]).bind fun r2 =>
    nilV r2.outs (consV r2.vals fun v2 vs2 =>
    nilV vs2 ((run 190 [.int a1_2, .int a1_1]).bind fun r3 =>
    bif r3.fresh then
    nilV r3.outs (consV r3.vals fun v3 vs3 =>
    nilV vs3 (f167_l0 run n n [.blob v2.toBlob] v3.toSlice (v3.toSlice.length : Int) 0 a1_1 a1_2 a1_3 v2.toBlob))
  else none)))) := by kernel_rfl
theorem f167_run (ext : Run) (n : Nat) (a0_1 : List UInt8) (a1_1 : Int) (a1_2 : Int) (a1_3 : List AV) : runE G ext (n + 1) 167 [.str a0_1, .agg [.int a1_1, .int a1_2, .slice a1_3]] = f167 (runE G ext n) n a0_1 a1_1 a1_2 a1_3 := runE_succ f167_at f167_in

noncomputable def f138 (run : Run) (n : Nat) (a0_1 : List UInt8) (a1_1 : Int) (a1_2 : Int) (a1_3 : List AV) : Option Res := evalK G run n f138_info.keep 0 f138_info.body (retE G f138_info) (f138_info.start [.str a0_1, .agg [.int a1_1, .int a1_2, .slice a1_3]])
theorem f138_eq (run : Run) (n : Nat) (a0_1 : List UInt8) (a1_1 : Int) (a1_2 : Int) (a1_3 : List AV) : f138 run n a0_1 a1_1 a1_2 a1_3 =
  (run 166 [.agg [.int a1_1, .int a1_2, .slice a1_3]]).bind fun r1 =>
    nilV r1.outs (consV r1.vals fun v1 vs1 =>
    nilV vs1 (bif !(eqI v1.toInt 0) then
    some ⟨[.blob [0, 0, 0, 0, 0, 0, 0, 0, 0, 0, 0, 0, 0, 0, 0, 0, 0, 0, 0, 0, 0, 0, 0, 0, 0, 0, 0, 0, 0, 0, 0, 0], .int v1.toInt], [], f138_fresh⟩
  else
    (run 167 [.str a0_1, .agg [.int a1_1, .int a1_2, .slice a1_3]]).bind fun r2 =>
    bif r2.fresh then
    nilV r2.outs (consV r2.vals fun v2 vs2 =>
    nilV vs2 (bif inR (IntKind.wrap .i64 ((v2.toSlice.length : Int) - 1)) v2.toSlice.length then
    (run 168 [.int (IntKind.wrap .u64 a1_2), .blob ((nth v2.toSlice (Int.toNat (IntKind.wrap .i64 ((v2.toSlice.length : Int) - 1)))).toBlob)]).bind fun r3 =>
    nilV r3.outs (consV r3.vals fun v3 vs3 =>
    nilV vs3 (some ⟨[.blob v3.toBlob, .int 0], [], f138_fresh⟩))
  else none))
  else none)) := by kernel_rfl
theorem f138_run (ext : Run) (n : Nat) (a0_1 : List UInt8) (a1_1 : Int) (a1_2 : Int) (a1_3 : List AV) : runE G ext (n + 1) 138 [.str a0_1, .agg [.int a1_1, .int a1_2, .slice a1_3]] = f138 (runE G ext n) n a0_1 a1_1 a1_2 a1_3 := runE_succ f138_at f138_in

noncomputable def f110 (run : Run) (n : Nat) (a0_1 : List UInt8) (a1_1 : List UInt8) (a2_1 : Int) (a2_2 : Int) (a2_3 : List AV) : Option Res := evalK G run n f110_info.keep 0 f110_info.body (retE G f110_info) (f110_info.start [.blob a0_1, .str a1_1, .agg [.int a2_1, .int a2_2, .slice a2_3]])
theorem f110_eq (run : Run) (n : Nat) (a0_1 : List UInt8) (a1_1 : List UInt8) (a2_1 : Int) (a2_2 : Int) (a2_3 : List AV) : f110 run n a0_1 a1_1 a2_1 a2_2 a2_3 =
  (run 138 [.str a1_1, .agg [.int a2_1, .int a2_2, .slice a2_3]]).bind fun r1 =>
    nilV r1.outs (consV r1.vals fun v1 vs1 =>
    consV vs1 fun v2 vs2 =>
    nilV vs2 (bif eqI v2.toInt 0 then
    some ⟨[.bool (eqS v1.toBlob a0_1)], [], f110_fresh⟩
  else
    some ⟨[.bool false], [], f110_fresh⟩)) := by kernel_rfl
theorem f110_run (ext : Run) (n : Nat) (a0_1 : List UInt8) (a1_1 : List UInt8) (a2_1 : Int) (a2_2 : Int) (a2_3 : List AV) : runE G ext (n + 1) 110 [.blob a0_1, .str a1_1, .agg [.int a2_1, .int a2_2, .slice a2_3]] = f110 (runE G ext n) n a0_1 a1_1 a2_1 a2_2 a2_3 := runE_succ f110_at f110_in

noncomputable def f136 (run : Run) (n : Nat) (a0_1 : List UInt8) (a1_1 : List UInt8) (a2_1 : Int) (a2_2 : Int) (a2_3 : List AV) : Option Res := evalK G run n f136_info.keep 0 f136_info.body (retE G f136_info) (f136_info.start [.blob a0_1, .blob a1_1, .agg [.int a2_1, .int a2_2, .slice a2_3]])
theorem f136_eq (run : Run) (n : Nat) (a0_1 : List UInt8) (a1_1 : List UInt8) (a2_1 : Int) (a2_2 : Int) (a2_3 : List AV) : f136 run n a0_1 a1_1 a2_1 a2_2 a2_3 =
  bif leI a2_2 257 then
    (run 149 [.blob a1_1]).bind fun r1 =>
    nilV r1.outs (consV r1.vals fun v1 vs1 =>
    nilV vs1 ((run 110 [.blob a0_1, .str v1.toStr, .agg [.int a2_1, .int a2_2, .slice a2_3]]).bind fun r2 =>
    nilV r2.outs (consV r2.vals fun v2 vs2 =>
    nilV vs2 (some ⟨[.bool v2.toBool], [], f136_fresh⟩))))
  else
    some ⟨[.bool false], [], f136_fresh⟩ := by kernel_rfl
theorem f136_run (ext : Run) (n : Nat) (a0_1 : List UInt8) (a1_1 : List UInt8) (a2_1 : Int) (a2_2 : Int) (a2_3 : List AV) : runE G ext (n + 1) 136 [.blob a0_1, .blob a1_1, .agg [.int a2_1, .int a2_2, .slice a2_3]] = f136 (runE G ext n) n a0_1 a1_1 a2_1 a2_2 a2_3 := runE_succ f136_at f136_in

noncomputable def f107 (run : Run) (n : Nat) (a0_1 : Int) (a0_2 : List UInt8) (a0_3 : List UInt8) (a0_4 : Int) (a0_5 : Int) (a0_6 : Int) (a0_7 : List AV) (a1_1 : Int) (a1_2 : List UInt8) (a1_3 : List UInt8) (a1_4 : Int) : Option Res := evalK G run n f107_info.keep 0 f107_info.body (retE G f107_info) (f107_info.start [.agg [.agg [.int a0_1, .blob a0_2, .blob a0_3, .int a0_4], .agg [.int a0_5, .int a0_6, .slice a0_7]], .agg [.int a1_1, .blob a1_2, .blob a1_3, .int a1_4]])
theorem f107_eq (run : Run) (n : Nat) (a0_1 : Int) (a0_2 : List UInt8) (a0_3 : List UInt8) (a0_4 : Int) (a0_5 : Int) (a0_6 : Int) (a0_7 : List AV) (a1_1 : Int) (a1_2 : List UInt8) (a1_3 : List UInt8) (a1_4 : Int) : f107 run n a0_1 a0_2 a0_3 a0_4 a0_5 a0_6 a0_7 a1_1 a1_2 a1_3 a1_4 =
  (run 79 [.agg [.int a1_1, .blob a1_2, .blob a1_3, .int a1_4]]).bind fun r1 =>
    nilV r1.outs (consV r1.vals fun v1 vs1 =>
    nilV vs1 ((run 136 [.blob a0_2, .blob v1.toBlob, .agg [.int a0_5, .int a0_6, .slice a0_7]]).bind fun r2 =>
    nilV r2.outs (consV r2.vals fun v2 vs2 =>
    nilV vs2 (some ⟨[.bool v2.toBool], [], f107_fresh⟩)))) := by kernel_rfl
theorem f107_run (ext : Run) (n : Nat) (a0_1 : Int) (a0_2 : List UInt8) (a0_3 : List UInt8) (a0_4 : Int) (a0_5 : Int) (a0_6 : Int) (a0_7 : List AV) (a1_1 : Int) (a1_2 : List UInt8) (a1_3 : List UInt8) (a1_4 : Int) : runE G ext (n + 1) 107 [.agg [.agg [.int a0_1, .blob a0_2, .blob a0_3, .int a0_4], .agg [.int a0_5, .int a0_6, .slice a0_7]], .agg [.int a1_1, .blob a1_2, .blob a1_3, .int a1_4]] = f107 (runE G ext n) n a0_1 a0_2 a0_3 a0_4 a0_5 a0_6 a0_7 a1_1 a1_2 a1_3 a1_4 := runE_succ f107_at f107_in

noncomputable def f106 (run : Run) (n : Nat) (a0_1 : Int) (a1_1 : List AV) : Option Res := evalK G run n f106_info.keep 0 f106_info.body (retE G f106_info) (f106_info.start [.int a0_1, .slice a1_1])
theorem f106_eq (run : Run) (n : Nat) (a0_1 : Int) (a1_1 : List AV) : f106 run n a0_1 a1_1 =
  bif eqI a0_1 0 then
    some ⟨[.bool true], [], f106_fresh⟩
  else
    bif inR a0_1 a1_1.length then
    bif inR (IntKind.wrap .i64 (a0_1 - 1)) a1_1.length then
    (run 107 [.agg [.agg [.int ((((nth a1_1 (Int.toNat a0_1)).fld 0).fld 0).toInt), .blob ((((nth a1_1 (Int.toNat a0_1)).fld 0).fld 1).toBlob), .blob ((((nth a1_1 (Int.toNat a0_1)).fld 0).fld 2).toBlob), .int ((((nth a1_1 (Int.toNat a0_1)).fld 0).fld 3).toInt)], .agg [.int ((((nth a1_1 (Int.toNat a0_1)).fld 1).fld 0).toInt), .int ((((nth a1_1 (Int.toNat a0_1)).fld 1).fld 1).toInt), .slice ((((nth a1_1 (Int.toNat a0_1)).fld 1).fld 2).toSlice)]], .agg [.int ((((nth a1_1 (Int.toNat (IntKind.wrap .i64 (a0_1 - 1)))).fld 0).fld 0).toInt), .blob ((((nth a1_1 (Int.toNat (IntKind.wrap .i64 (a0_1 - 1)))).fld 0).fld 1).toBlob), .blob ((((nth a1_1 (Int.toNat (IntKind.wrap .i64 (a0_1 - 1)))).fld 0).fld 2).toBlob), .int ((((nth a1_1 (Int.toNat (IntKind.wrap .i64 (a0_1 - 1)))).fld 0).fld 3).toInt)]]).bind fun r1 =>
    nilV r1.outs (consV r1.vals fun v1 vs1 =>
    nilV vs1 (some ⟨[.bool v1.toBool], [], f106_fresh⟩))
  else none
  else none := by kernel_rfl
theorem f106_run (ext : Run) (n : Nat) (a0_1 : Int) (a1_1 : List AV) : runE G ext (n + 1) 106 [.int a0_1, .slice a1_1] = f106 (runE G ext n) n a0_1 a1_1 := runE_succ f106_at f106_in

noncomputable def f105 (run : Run) (n : Nat) (a0_1 : Int) (a1_1 : List AV) (a2_1 : Int) (a2_2 : List UInt8) (a2_3 : List UInt8) (a2_4 : Int) (a2_5 : List UInt8) (a2_6 : Int) (a2_7 : Int) (a2_8 : Int) (a2_9 : Int) (a2_10 : Int) (a2_11 : Int) : Option Res := evalK G run n f105_info.keep 0 f105_info.body (retE G f105_info) (f105_info.start [.int a0_1, .slice a1_1, .agg [.agg [.int a2_1, .blob a2_2, .blob a2_3, .int a2_4], .blob a2_5, .int a2_6, .int a2_7, .int a2_8, .int a2_9, .int a2_10, .int a2_11]])
theorem f105_eq (run : Run) (n : Nat) (a0_1 : Int) (a1_1 : List AV) (a2_1 : Int) (a2_2 : List UInt8) (a2_3 : List UInt8) (a2_4 : Int) (a2_5 : List UInt8) (a2_6 : Int) (a2_7 : Int) (a2_8 : Int) (a2_9 : Int) (a2_10 : Int) (a2_11 : Int) : f105 run n a0_1 a1_1 a2_1 a2_2 a2_3 a2_4 a2_5 a2_6 a2_7 a2_8 a2_9 a2_10 a2_11 =
  bif inR a0_1 a1_1.length then
    (run 79 [.agg [.int ((((nth a1_1 (Int.toNat a0_1)).fld 0).fld 0).toInt), .blob ((((nth a1_1 (Int.toNat a0_1)).fld 0).fld 1).toBlob), .blob ((((nth a1_1 (Int.toNat a0_1)).fld 0).fld 2).toBlob), .int ((((nth a1_1 (Int.toNat a0_1)).fld 0).fld 3).toInt)]]).bind fun r1 =>
    nilV r1.outs (consV r1.vals fun v1 vs1 =>
    nilV vs1 ((run 73 [.blob v1.toBlob, .blob a2_5]).bind fun r2 =>
    nilV r2.outs (consV r2.vals fun v2 vs2 =>
    nilV vs2 (some ⟨[.bool v2.toBool], [], f105_fresh⟩))))
  else none := by kernel_rfl
theorem f105_run (ext : Run) (n : Nat) (a0_1 : Int) (a1_1 : List AV) (a2_1 : Int) (a2_2 : List UInt8) (a2_3 : List UInt8) (a2_4 : Int) (a2_5 : List UInt8) (a2_6 : Int) (a2_7 : Int) (a2_8 : Int) (a2_9 : Int) (a2_10 : Int) (a2_11 : Int) : runE G ext (n + 1) 105 [.int a0_1, .slice a1_1, .agg [.agg [.int a2_1, .blob a2_2, .blob a2_3, .int a2_4], .blob a2_5, .int a2_6, .int a2_7, .int a2_8, .int a2_9, .int a2_10, .int a2_11]] = f105 (runE G ext n) n a0_1 a1_1 a2_1 a2_2 a2_3 a2_4 a2_5 a2_6 a2_7 a2_8 a2_9 a2_10 a2_11 := runE_succ f105_at f105_in

noncomputable def f33 (run : Run) (n : Nat) (a0_1 : Int) (a0_2 : List UInt8) (a0_3 : List UInt8) (a0_4 : Int) (a1_1 : Int) (a1_2 : List UInt8) (a1_3 : List UInt8) (a1_4 : Int) : Option Res := evalK G run n f33_info.keep 0 f33_info.body (retE G f33_info) (f33_info.start [.agg [.int a0_1, .blob a0_2, .blob a0_3, .int a0_4], .agg [.int a1_1, .blob a1_2, .blob a1_3, .int a1_4]])
theorem f33_eq (run : Run) (n : Nat) (a0_1 : Int) (a0_2 : List UInt8) (a0_3 : List UInt8) (a0_4 : Int) (a1_1 : Int) (a1_2 : List UInt8) (a1_3 : List UInt8) (a1_4 : Int) : f33 run n a0_1 a0_2 a0_3 a0_4 a1_1 a1_2 a1_3 a1_4 =
  some ⟨[.bool (ltI a1_1 a0_1)], [], f33_fresh⟩ := by kernel_rfl
theorem f33_run (ext : Run) (n : Nat) (a0_1 : Int) (a0_2 : List UInt8) (a0_3 : List UInt8) (a0_4 : Int) (a1_1 : Int) (a1_2 : List UInt8) (a1_3 : List UInt8) (a1_4 : Int) : runE G ext (n + 1) 33 [.agg [.int a0_1, .blob a0_2, .blob a0_3, .int a0_4], .agg [.int a1_1, .blob a1_2, .blob a1_3, .int a1_4]] = f33 (runE G ext n) n a0_1 a0_2 a0_3 a0_4 a1_1 a1_2 a1_3 a1_4 := runE_succ f33_at f33_in

noncomputable def f104 (run : Run) (n : Nat) (a0_1 : Int) (a1_1 : List AV) : Option Res := evalK G run n f104_info.keep 0 f104_info.body (retE G f104_info) (f104_info.start [.int a0_1, .slice a1_1])
theorem f104_eq (run : Run) (n : Nat) (a0_1 : Int) (a1_1 : List AV) : f104 run n a0_1 a1_1 =
  bif eqI a0_1 0 then
    some ⟨[.bool true], [], f104_fresh⟩
  else
    bif inR a0_1 a1_1.length then
    bif inR (IntKind.wrap .i64 (a0_1 - 1)) a1_1.length then
    (run 33 [.agg [.int ((((nth a1_1 (Int.toNat a0_1)).fld 0).fld 0).toInt), .blob ((((nth a1_1 (Int.toNat a0_1)).fld 0).fld 1).toBlob), .blob ((((nth a1_1 (Int.toNat a0_1)).fld 0).fld 2).toBlob), .int ((((nth a1_1 (Int.toNat a0_1)).fld 0).fld 3).toInt)], .agg [.int ((((nth a1_1 (Int.toNat (IntKind.wrap .i64 (a0_1 - 1)))).fld 0).fld 0).toInt), .blob ((((nth a1_1 (Int.toNat (IntKind.wrap .i64 (a0_1 - 1)))).fld 0).fld 1).toBlob), .blob ((((nth a1_1 (Int.toNat (IntKind.wrap .i64 (a0_1 - 1)))).fld 0).fld 2).toBlob), .int ((((nth a1_1 (Int.toNat (IntKind.wrap .i64 (a0_1 - 1)))).fld 0).fld 3).toInt)]]).bind fun r1 =>
    nilV r1.outs (consV r1.vals fun v1 vs1 =>
    nilV vs1 (some ⟨[.bool v1.toBool], [], f104_fresh⟩))
  else none
  else none := by kernel_rfl
theorem f104_run (ext : Run) (n : Nat) (a0_1 : Int) (a1_1 : List AV) : runE G ext (n + 1) 104 [.int a0_1, .slice a1_1] = f104 (runE G ext n) n a0_1 a1_1 := runE_succ f104_at f104_in

noncomputable def f137 (run : Run) (n : Nat) (a0_1 : Int) (a0_2 : List UInt8) (a0_3 : List UInt8) (a0_4 : Int) (a1_1 : Int) (a1_2 : List UInt8) (a1_3 : List UInt8) (a1_4 : Int) : Option Res := evalK G run n f137_info.keep 0 f137_info.body (retE G f137_info) (f137_info.start [.agg [.int a0_1, .blob a0_2, .blob a0_3, .int a0_4], .agg [.int a1_1, .blob a1_2, .blob a1_3, .int a1_4]])
theorem f137_eq (run : Run) (n : Nat) (a0_1 : Int) (a0_2 : List UInt8) (a0_3 : List UInt8) (a0_4 : Int) (a1_1 : Int) (a1_2 : List UInt8) (a1_3 : List UInt8) (a1_4 : Int) : f137 run n a0_1 a0_2 a0_3 a0_4 a1_1 a1_2 a1_3 a1_4 =
  (run 33 [.agg [.int a0_1, .blob a0_2, .blob a0_3, .int a0_4], .agg [.int a1_1, .blob a1_2, .blob a1_3, .int a1_4]]).bind fun r1 =>
    nilV r1.outs (consV r1.vals fun v1 vs1 =>
    nilV vs1 (bif v1.toBool then
    some ⟨[.bool (eqI (IntKind.wrap .u32 (a0_1 - a1_1)) 1)], [], f137_fresh⟩
  else
    some ⟨[.bool false], [], f137_fresh⟩)) := by kernel_rfl
theorem f137_run (ext : Run) (n : Nat) (a0_1 : Int) (a0_2 : List UInt8) (a0_3 : List UInt8) (a0_4 : Int) (a1_1 : Int) (a1_2 : List UInt8) (a1_3 : List UInt8) (a1_4 : Int) : runE G ext (n + 1) 137 [.agg [.int a0_1, .blob a0_2, .blob a0_3, .int a0_4], .agg [.int a1_1, .blob a1_2, .blob a1_3, .int a1_4]] = f137 (runE G ext n) n a0_1 a0_2 a0_3 a0_4 a1_1 a1_2 a1_3 a1_4 := runE_succ f137_at f137_in

end Go.Proofs.YtogehijjhibdkaaGreat.Ev
