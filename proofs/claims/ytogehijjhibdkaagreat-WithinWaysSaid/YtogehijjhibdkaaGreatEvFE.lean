/- What the evaluator does with the functions, as programs over plain values: printed by gen.py, checked by the kernel. -/
import Derived.Test.YtogehijjhibdkaaGreatEvFA
namespace Go.Proofs.YtogehijjhibdkaaGreat.Ev
open Go Go.RowKit
set_option maxRecDepth 100000


noncomputable def f29 (run : Run) (n : Nat) (a0_1 : Int) (a0_2 : List UInt8) (a0_3 : List UInt8) (a0_4 : Int) (a0_5 : List UInt8) (a0_6 : Int) (a0_7 : Int) (a0_8 : Int) (a0_9 : Int) (a0_10 : Int) (a0_11 : Int) (a1_1 : List AV) (a2_1 : Int) (a3_1 : Int) : Option Res := evalK G run n f29_info.keep 0 f29_info.body (retE G f29_info) (f29_info.start [.agg [.agg [.int a0_1, .blob a0_2, .blob a0_3, .int a0_4], .blob a0_5, .int a0_6, .int a0_7, .int a0_8, .int a0_9, .int a0_10, .int a0_11], .slice a1_1, .int a2_1, .int a3_1])
theorem f29_eq (run : Run) (n : Nat) (a0_1 : Int) (a0_2 : List UInt8) (a0_3 : List UInt8) (a0_4 : Int) (a0_5 : List UInt8) (a0_6 : Int) (a0_7 : Int) (a0_8 : Int) (a0_9 : Int) (a0_10 : Int) (a0_11 : Int) (a1_1 : List AV) (a2_1 : Int) (a3_1 : Int) : f29 run n a0_1 a0_2 a0_3 a0_4 a0_5 a0_6 a0_7 a0_8 a0_9 a0_10 a0_11 a1_1 a2_1 a3_1 =
  (run 24 [.agg [.agg [.int a0_1, .blob a0_2, .blob a0_3, .int a0_4], .blob a0_5, .int a0_6, .int a0_7, .int a0_8, .int a0_9, .int a0_10, .int a0_11], .slice a1_1]).bind fun r1 =>
    nilV r1.outs (consV r1.vals fun v1 vs1 =>
    nilV vs1 (bif !(eqI v1.toInt 0) then
    some ⟨[.agg [.int 0, .slice [], .agg [.int 0, .int 0, .slice []], .int 0, .str [], .agg [.int 0, .int 0, .slice []]], .int v1.toInt], [], f29_fresh⟩
  else
    bif ltI a2_1 0 then
    some ⟨[.agg [.int 0, .slice [], .agg [.int 0, .int 0, .slice []], .int 0, .str [], .agg [.int 0, .int 0, .slice []]], .int 15], [], f29_fresh⟩
  else
    bif leI (IntKind.wrap .i64 ((a1_1.length : Int) - a0_7)) a2_1 then
    some ⟨[.agg [.int 0, .slice [], .agg [.int 0, .int 0, .slice []], .int 0, .str [], .agg [.int 0, .int 0, .slice []]], .int 15], [], f29_fresh⟩
  else
    bif inR a2_1 a1_1.length then
    (run 61 [.slice (((nth a1_1 (Int.toNat a2_1)).fld 1).toSlice), .int a3_1]).bind fun r2 =>
    nilV r2.outs (consV r2.vals fun v2 vs2 =>
    consV vs2 fun v3 vs3 =>
    nilV vs3 (bif !(eqI v3.toInt 0) then
    some ⟨[.agg [.int 0, .slice [], .agg [.int 0, .int 0, .slice []], .int 0, .str [], .agg [.int 0, .int 0, .slice []]], .int 14], [], f29_fresh⟩
  else
    (run 21 [.agg [.agg [.int a0_1, .blob a0_2, .blob a0_3, .int a0_4], .blob a0_5, .int a0_6, .int a0_7, .int a0_8, .int a0_9, .int a0_10, .int a0_11], .slice a1_1]).bind fun r3 =>
    bif r3.fresh then
    nilV r3.outs (consV r3.vals fun v4 vs4 =>
    nilV vs4 ((run 62 [.slice v4.toSlice, .int a2_1]).bind fun r4 =>
    nilV r4.outs (consV r4.vals fun v5 vs5 =>
    nilV vs5 (bif inR a2_1 a1_1.length then
    bif inR a3_1 ((((nth a1_1 (Int.toNat a2_1)).fld 1).toSlice).length) then
    bif inR v5.toInt v4.toSlice.length then
    bif eqI ((nth v4.toSlice (Int.toNat v5.toInt)).toInt) a2_1 then
    some ⟨[.agg [.int v5.toInt, .slice [], .agg [.int 0, .int 0, .slice []], .int 0, .str ((nth (((nth a1_1 (Int.toNat a2_1)).fld 1).toSlice) (Int.toNat a3_1)).toStr), .agg [.int ((v2.fld 0).toInt), .int ((v2.fld 1).toInt), .slice ((v2.fld 2).toSlice)]], .int 0], [], f29_fresh⟩
  else
    (run 63 [.blob a0_5, .slice a1_1, .slice v4.toSlice, .int a2_1, .agg [.int v5.toInt, .slice [], .agg [.int 0, .int 0, .slice []], .int 0, .str ((nth (((nth a1_1 (Int.toNat a2_1)).fld 1).toSlice) (Int.toNat a3_1)).toStr), .agg [.int ((v2.fld 0).toInt), .int ((v2.fld 1).toInt), .slice ((v2.fld 2).toSlice)]]]).bind fun r5 =>
    nilV r5.outs (consV r5.vals fun v6 vs6 =>
    consV vs6 fun v7 vs7 =>
    nilV vs7 (some ⟨[.agg [.int ((v6.fld 0).toInt), .slice ((v6.fld 1).toSlice), .agg [.int (((v6.fld 2).fld 0).toInt), .int (((v6.fld 2).fld 1).toInt), .slice (((v6.fld 2).fld 2).toSlice)], .int ((v6.fld 3).toInt), .str ((v6.fld 4).toStr), .agg [.int (((v6.fld 5).fld 0).toInt), .int (((v6.fld 5).fld 1).toInt), .slice (((v6.fld 5).fld 2).toSlice)]], .int v7.toInt], [], f29_fresh⟩))
  else none
  else none
  else none))))
  else none))
  else none)) := by kernel_rfl
theorem f29_run (ext : Run) (n : Nat) (a0_1 : Int) (a0_2 : List UInt8) (a0_3 : List UInt8) (a0_4 : Int) (a0_5 : List UInt8) (a0_6 : Int) (a0_7 : Int) (a0_8 : Int) (a0_9 : Int) (a0_10 : Int) (a0_11 : Int) (a1_1 : List AV) (a2_1 : Int) (a3_1 : Int) : runE G ext (n + 1) 29 [.agg [.agg [.int a0_1, .blob a0_2, .blob a0_3, .int a0_4], .blob a0_5, .int a0_6, .int a0_7, .int a0_8, .int a0_9, .int a0_10, .int a0_11], .slice a1_1, .int a2_1, .int a3_1] = f29 (runE G ext n) n a0_1 a0_2 a0_3 a0_4 a0_5 a0_6 a0_7 a0_8 a0_9 a0_10 a0_11 a1_1 a2_1 a3_1 := runE_succ f29_at f29_in

noncomputable def f8_l2 (run : Run) (n : Nat) (k0 : Nat) (k2 : Nat) (x1_2 : List AV) (x2_12 : Int) (x2_13 : List UInt8) (x2_14 : List UInt8) (x2_15 : Int) (x2_16 : List UInt8) (x2_17 : Int) (x2_18 : Int) (x2_19 : Int) (x2_20 : Int) (x2_21 : Int) (x2_22 : Int) (x5_2 : List AV) (x7_2 : Int) (x8_1 : Int) : Option Res :=
  iterK (evalK G run n f8_keep 2 (sub [1, 1, 1, 1, 0, 1, 0, 0, 1, 0, 0, 1, 0, 0] f8_body)) f8_t2 f8_o2 (blockK 2 (blockK 1 (seqK (evalK G run n f8_keep 0 (sub [1, 1, 1, 1, 0, 1, 0, 0, 1, 1] f8_body) (seqK (fun t => iterK (evalK G run n f8_keep 0 (sub [1, 1, 1, 1, 0, 1, 0, 0] f8_body)) f8_t0 f8_o0 (blockK 0 (seqK (evalK G run n f8_keep 0 (sub [1, 1, 1, 1, 1] f8_body) (retE G f8_info)) (retE G f8_info))) k0 (t.clear f8_t0 f8_o0)) (blockK 0 (seqK (evalK G run n f8_keep 0 (sub [1, 1, 1, 1, 1] f8_body) (retE G f8_info)) (retE G f8_info))))) (seqK (fun t => iterK (evalK G run n f8_keep 0 (sub [1, 1, 1, 1, 0, 1, 0, 0] f8_body)) f8_t0 f8_o0 (blockK 0 (seqK (evalK G run n f8_keep 0 (sub [1, 1, 1, 1, 1] f8_body) (retE G f8_info)) (retE G f8_info))) k0 (t.clear f8_t0 f8_o0)) (blockK 0 (seqK (evalK G run n f8_keep 0 (sub [1, 1, 1, 1, 1] f8_body) (retE G f8_info)) (retE G f8_info))))))) k2
    ⟨[.any, .val (.slice (.struct [(.struct [(.int .u32), (.blob 32), (.blob 32), (.int .u64)]), (.slice .str)])) none (.slice x1_2), .val (.pat (.struct [(.struct [(.int .u32), (.blob 32), (.blob 32), (.int .u64)]), (.blob 32), (.int .i64), (.int .i64), (.int .i64), (.int .i64), (.int .i64), (.int .i64)])) none (.agg [.agg [.int x2_12, .blob x2_13, .blob x2_14, .int x2_15], .blob x2_16, .int x2_17, .int x2_18, .int x2_19, .int x2_20, .int x2_21, .int x2_22]), .any, .any, .val (.slice (.struct [(.struct [(.int .u32), (.blob 32), (.blob 32), (.int .u64)]), (.struct [(.int .i64), (.int .i64), (.slice (.blob 32))])])) none (.slice x5_2), .any, .val (.int .i64) none (.int x7_2), .val (.int .i64) none (.int x8_1), .any, .any, .any, .any, .any, .any, .any, .any, .any, .any, .any, .any, .any, .any, .any, .any, .any, .any, .any, .any, .any, .any, .any, .any, .any, .any, .any, .any, .any, .any, .any, .any, .any, .any, .any, .any, .any, .any, .any, .any, .any, .any, .any, .any, .any, .any, .any, .any, .any, .any, .any, .any, .any, .any, .any, .any, .any, .any, .any, .any, .any, .any, .any, .any, .any, .any, .any, .any, .any, .any, .any, .any, .any, .any, .any, .any, .any, .any, .any, .any, .any, .any, .any, .any, .any, .any, .any, .any, .any, .any, .any, .any, .any, .any, .any, .any, .any, .any, .any, .any, .any, .any, .any, .any, .any, .any, .any, .any, .any, .any, .any, .any, .any, .any, .any, .any, .any, .any], [⟨0, none⟩, ⟨0, none⟩, ⟨0, none⟩, ⟨0, none⟩, ⟨0, none⟩, ⟨0, none⟩, ⟨0, none⟩, ⟨0, none⟩, ⟨0, none⟩, ⟨0, none⟩, ⟨0, none⟩, ⟨0, none⟩, ⟨0, none⟩, ⟨0, none⟩, ⟨0, none⟩, ⟨0, none⟩, ⟨0, none⟩, ⟨0, none⟩, ⟨0, none⟩, ⟨0, none⟩, ⟨0, none⟩, ⟨0, none⟩, ⟨0, none⟩, ⟨0, none⟩, ⟨0, none⟩, ⟨0, none⟩, ⟨0, none⟩, ⟨0, none⟩, ⟨0, none⟩, ⟨0, none⟩, ⟨0, none⟩, ⟨0, none⟩, ⟨0, none⟩, ⟨0, none⟩, ⟨0, none⟩, ⟨0, none⟩, ⟨0, none⟩, ⟨0, none⟩, ⟨0, none⟩, ⟨0, none⟩, ⟨0, none⟩, ⟨0, none⟩, ⟨0, none⟩, ⟨0, none⟩, ⟨0, none⟩, ⟨0, none⟩, ⟨0, none⟩, ⟨0, none⟩, ⟨0, none⟩, ⟨0, none⟩, ⟨0, none⟩, ⟨0, none⟩, ⟨0, none⟩, ⟨0, none⟩, ⟨0, none⟩, ⟨0, none⟩, ⟨0, none⟩, ⟨0, none⟩, ⟨0, none⟩, ⟨0, none⟩, ⟨0, none⟩, ⟨0, none⟩, ⟨0, none⟩, ⟨0, none⟩, ⟨0, none⟩, ⟨0, none⟩, ⟨0, none⟩, ⟨0, none⟩, ⟨0, none⟩, ⟨0, none⟩, ⟨0, none⟩, ⟨0, none⟩, ⟨0, none⟩, ⟨0, none⟩, ⟨0, none⟩, ⟨0, none⟩, ⟨0, none⟩, ⟨0, none⟩, ⟨0, none⟩, ⟨0, none⟩, ⟨0, none⟩, ⟨0, none⟩, ⟨0, none⟩, ⟨0, none⟩, ⟨0, none⟩, ⟨0, none⟩, ⟨0, none⟩, ⟨0, none⟩, ⟨0, none⟩, ⟨0, none⟩, ⟨0, none⟩, ⟨0, none⟩, ⟨0, none⟩, ⟨0, none⟩, ⟨0, none⟩, ⟨0, none⟩, ⟨0, none⟩, ⟨0, none⟩, ⟨0, none⟩, ⟨0, none⟩, ⟨0, none⟩, ⟨0, none⟩, ⟨0, none⟩, ⟨0, none⟩, ⟨0, none⟩, ⟨0, none⟩, ⟨0, none⟩, ⟨0, none⟩, ⟨0, none⟩, ⟨0, none⟩, ⟨0, none⟩, ⟨0, none⟩, ⟨0, none⟩, ⟨0, none⟩, ⟨0, none⟩, ⟨0, none⟩, ⟨0, none⟩, ⟨0, none⟩, ⟨0, none⟩, ⟨0, none⟩, ⟨0, none⟩, ⟨0, none⟩, ⟨0, none⟩, ⟨0, none⟩, ⟨0, none⟩, ⟨0, none⟩, ⟨0, none⟩], List.replicate 127 0⟩
noncomputable def f8_l0 (run : Run) (n : Nat) (k0 : Nat) (x1_1 : List AV) (x2_1 : Int) (x2_2 : List UInt8) (x2_3 : List UInt8) (x2_4 : Int) (x2_5 : List UInt8) (x2_6 : Int) (x2_7 : Int) (x2_8 : Int) (x2_9 : Int) (x2_10 : Int) (x2_11 : Int) (x5_1 : List AV) (x7_1 : Int) : Option Res :=
  iterK (evalK G run n f8_keep 0 (sub [1, 1, 1, 1, 0, 1, 0, 0] f8_body)) f8_t0 f8_o0 (blockK 0 (seqK (evalK G run n f8_keep 0 (sub [1, 1, 1, 1, 1] f8_body) (retE G f8_info)) (retE G f8_info))) k0
    ⟨[.any, .val (.slice (.struct [(.struct [(.int .u32), (.blob 32), (.blob 32), (.int .u64)]), (.slice .str)])) none (.slice x1_1), .val (.pat (.struct [(.struct [(.int .u32), (.blob 32), (.blob 32), (.int .u64)]), (.blob 32), (.int .i64), (.int .i64), (.int .i64), (.int .i64), (.int .i64), (.int .i64)])) none (.agg [.agg [.int x2_1, .blob x2_2, .blob x2_3, .int x2_4], .blob x2_5, .int x2_6, .int x2_7, .int x2_8, .int x2_9, .int x2_10, .int x2_11]), .any, .any, .val (.slice (.struct [(.struct [(.int .u32), (.blob 32), (.blob 32), (.int .u64)]), (.struct [(.int .i64), (.int .i64), (.slice (.blob 32))])])) none (.slice x5_1), .any, .val (.int .i64) none (.int x7_1), .any, .any, .any, .any, .any, .any, .any, .any, .any, .any, .any, .any, .any, .any, .any, .any, .any, .any, .any, .any, .any, .any, .any, .any, .any, .any, .any, .any, .any, .any, .any, .any, .any, .any, .any, .any, .any, .any, .any, .any, .any, .any, .any, .any, .any, .any, .any, .any, .any, .any, .any, .any, .any, .any, .any, .any, .any, .any, .any, .any, .any, .any, .any, .any, .any, .any, .any, .any, .any, .any, .any, .any, .any, .any, .any, .any, .any, .any, .any, .any, .any, .any, .any, .any, .any, .any, .any, .any, .any, .any, .any, .any, .any, .any, .any, .any, .any, .any, .any, .any, .any, .any, .any, .any, .any, .any, .any, .any, .any, .any, .any, .any, .any, .any, .any, .any, .any, .any, .any], [⟨0, none⟩, ⟨0, none⟩, ⟨0, none⟩, ⟨0, none⟩, ⟨0, none⟩, ⟨0, none⟩, ⟨0, none⟩, ⟨0, none⟩, ⟨0, none⟩, ⟨0, none⟩, ⟨0, none⟩, ⟨0, none⟩, ⟨0, none⟩, ⟨0, none⟩, ⟨0, none⟩, ⟨0, none⟩, ⟨0, none⟩, ⟨0, none⟩, ⟨0, none⟩, ⟨0, none⟩, ⟨0, none⟩, ⟨0, none⟩, ⟨0, none⟩, ⟨0, none⟩, ⟨0, none⟩, ⟨0, none⟩, ⟨0, none⟩, ⟨0, none⟩, ⟨0, none⟩, ⟨0, none⟩, ⟨0, none⟩, ⟨0, none⟩, ⟨0, none⟩, ⟨0, none⟩, ⟨0, none⟩, ⟨0, none⟩, ⟨0, none⟩, ⟨0, none⟩, ⟨0, none⟩, ⟨0, none⟩, ⟨0, none⟩, ⟨0, none⟩, ⟨0, none⟩, ⟨0, none⟩, ⟨0, none⟩, ⟨0, none⟩, ⟨0, none⟩, ⟨0, none⟩, ⟨0, none⟩, ⟨0, none⟩, ⟨0, none⟩, ⟨0, none⟩, ⟨0, none⟩, ⟨0, none⟩, ⟨0, none⟩, ⟨0, none⟩, ⟨0, none⟩, ⟨0, none⟩, ⟨0, none⟩, ⟨0, none⟩, ⟨0, none⟩, ⟨0, none⟩, ⟨0, none⟩, ⟨0, none⟩, ⟨0, none⟩, ⟨0, none⟩, ⟨0, none⟩, ⟨0, none⟩, ⟨0, none⟩, ⟨0, none⟩, ⟨0, none⟩, ⟨0, none⟩, ⟨0, none⟩, ⟨0, none⟩, ⟨0, none⟩, ⟨0, none⟩, ⟨0, none⟩, ⟨0, none⟩, ⟨0, none⟩, ⟨0, none⟩, ⟨0, none⟩, ⟨0, none⟩, ⟨0, none⟩, ⟨0, none⟩, ⟨0, none⟩, ⟨0, none⟩, ⟨0, none⟩, ⟨0, none⟩, ⟨0, none⟩, ⟨0, none⟩, ⟨0, none⟩, ⟨0, none⟩, ⟨0, none⟩, ⟨0, none⟩, ⟨0, none⟩, ⟨0, none⟩, ⟨0, none⟩, ⟨0, none⟩, ⟨0, none⟩, ⟨0, none⟩, ⟨0, none⟩, ⟨0, none⟩, ⟨0, none⟩, ⟨0, none⟩, ⟨0, none⟩, ⟨0, none⟩, ⟨0, none⟩, ⟨0, none⟩, ⟨0, none⟩, ⟨0, none⟩, ⟨0, none⟩, ⟨0, none⟩, ⟨0, none⟩, ⟨0, none⟩, ⟨0, none⟩, ⟨0, none⟩, ⟨0, none⟩, ⟨0, none⟩, ⟨0, none⟩, ⟨0, none⟩, ⟨0, none⟩, ⟨0, none⟩, ⟨0, none⟩, ⟨0, none⟩, ⟨0, none⟩, ⟨0, none⟩, ⟨0, none⟩], List.replicate 127 0⟩
theorem f8_l2_eq (run : Run) (n : Nat) (k0 : Nat) (k2 : Nat) (x1_2 : List AV) (x2_12 : Int) (x2_13 : List UInt8) (x2_14 : List UInt8) (x2_15 : Int) (x2_16 : List UInt8) (x2_17 : Int) (x2_18 : Int) (x2_19 : Int) (x2_20 : Int) (x2_21 : Int) (x2_22 : Int) (x5_2 : List AV) (x7_2 : Int) (x8_1 : Int) : f8_l2 run n k0 (k2 + 1) x1_2 x2_12 x2_13 x2_14 x2_15 x2_16 x2_17 x2_18 x2_19 x2_20 x2_21 x2_22 x5_2 x7_2 x8_1 =
  bif inR x7_2 x1_2.length then
    bif ltI x8_1 ((((nth x1_2 (Int.toNat x7_2)).fld 1).toSlice).length : Int) then
    (run 29 [.agg [.agg [.int x2_12, .blob x2_13, .blob x2_14, .int x2_15], .blob x2_16, .int x2_17, .int x2_18, .int x2_19, .int x2_20, .int x2_21, .int x2_22], .slice x1_2, .int x7_2, .int x8_1]).bind fun r9 =>
    nilV r9.outs (consV r9.vals fun v10 vs10 =>
    consV vs10 fun v11 vs11 =>
    nilV vs11 ((run 35 [.slice x5_2, .agg [.int ((v10.fld 0).toInt), .slice ((v10.fld 1).toSlice), .agg [.int (((v10.fld 2).fld 0).toInt), .int (((v10.fld 2).fld 1).toInt), .slice (((v10.fld 2).fld 2).toSlice)], .int ((v10.fld 3).toInt), .str ((v10.fld 4).toStr), .agg [.int (((v10.fld 5).fld 0).toInt), .int (((v10.fld 5).fld 1).toInt), .slice (((v10.fld 5).fld 2).toSlice)]]]).bind fun r10 =>
    nilV r10.outs (consV r10.vals fun v12 vs12 =>
    consV vs12 fun v13 vs13 =>
    nilV vs13 (bif !(eqI v11.toInt 0) then
    some ⟨[.bool false], [], f8_fresh⟩
  else
    (run 36 [.blob x2_16, .slice x5_2, .agg [.int ((v10.fld 0).toInt), .slice ((v10.fld 1).toSlice), .agg [.int (((v10.fld 2).fld 0).toInt), .int (((v10.fld 2).fld 1).toInt), .slice (((v10.fld 2).fld 2).toSlice)], .int ((v10.fld 3).toInt), .str ((v10.fld 4).toStr), .agg [.int (((v10.fld 5).fld 0).toInt), .int (((v10.fld 5).fld 1).toInt), .slice (((v10.fld 5).fld 2).toSlice)]]]).bind fun r11 =>
    nilV r11.outs (consV r11.vals fun v14 vs14 =>
    nilV vs14 (bif !(eqI v14.toInt 0) then
    some ⟨[.bool false], [], f8_fresh⟩
  else
    bif !v13.toBool then
    some ⟨[.bool false], [], f8_fresh⟩
  else
    bif inR x7_2 x1_2.length then
    bif !(eqI ((v12.fld 0).toInt) ((((nth x1_2 (Int.toNat x7_2)).fld 0).fld 0).toInt) && (eqS ((v12.fld 1).toBlob) ((((nth x1_2 (Int.toNat x7_2)).fld 0).fld 1).toBlob) && (eqS ((v12.fld 2).toBlob) ((((nth x1_2 (Int.toNat x7_2)).fld 0).fld 2).toBlob) && (eqI ((v12.fld 3).toInt) ((((nth x1_2 (Int.toNat x7_2)).fld 0).fld 3).toInt) && true)))) then
    some ⟨[.bool false], [], f8_fresh⟩
  else
    bif inR x7_2 x1_2.length then
    bif inR x8_1 ((((nth x1_2 (Int.toNat x7_2)).fld 1).toSlice).length) then
    bif !(eqS ((v10.fld 4).toStr) ((nth (((nth x1_2 (Int.toNat x7_2)).fld 1).toSlice) (Int.toNat x8_1)).toStr)) then
    some ⟨[.bool false], [], f8_fresh⟩
  else
    bif !(eqI (((v10.fld 5).fld 0).toInt) x8_1) then
    some ⟨[.bool false], [], f8_fresh⟩
  else
    f8_l2 run n k0 k2 x1_2 x2_12 x2_13 x2_14 x2_15 x2_16 x2_17 x2_18 x2_19 x2_20 x2_21 x2_22 x5_2 x7_2 (IntKind.wrap .i64 (x8_1 + 1))
  else none
  else none
  else none))))))
  else
    f8_l0 run n k0 x1_2 x2_12 x2_13 x2_14 x2_15 x2_16 x2_17 x2_18 x2_19 x2_20 x2_21 x2_22 x5_2 (IntKind.wrap .i64 (x7_2 + 1))
  else none := by kernel_rfl
theorem f8_l0_eq (run : Run) (n : Nat) (k0 : Nat) (x1_1 : List AV) (x2_1 : Int) (x2_2 : List UInt8) (x2_3 : List UInt8) (x2_4 : Int) (x2_5 : List UInt8) (x2_6 : Int) (x2_7 : Int) (x2_8 : Int) (x2_9 : Int) (x2_10 : Int) (x2_11 : Int) (x5_1 : List AV) (x7_1 : Int) : f8_l0 run n (k0 + 1) x1_1 x2_1 x2_2 x2_3 x2_4 x2_5 x2_6 x2_7 x2_8 x2_9 x2_10 x2_11 x5_1 x7_1 =
  bif ltI x7_1 (IntKind.wrap .i64 ((x1_1.length : Int) - x2_7)) then
    f8_l2 run n k0 n x1_1 x2_1 x2_2 x2_3 x2_4 x2_5 x2_6 x2_7 x2_8 x2_9 x2_10 x2_11 x5_1 x7_1 0
  else
    (run 34 []).bind fun r12 =>
    nilV r12.outs (consV r12.vals fun v15 vs15 =>
    nilV vs15 (some ⟨[.bool v15.toBool], [], f8_fresh⟩)) := by kernel_rfl
noncomputable def f8 (run : Run) (n : Nat) (a0_1 : Int) (a0_2 : List UInt8) (a0_3 : List UInt8) (a0_4 : Int) (a0_5 : List UInt8) (a0_6 : Int) (a0_7 : Int) (a0_8 : Int) (a0_9 : Int) (a0_10 : Int) (a0_11 : Int) (a1_1 : List AV) : Option Res := evalK G run n f8_info.keep 0 f8_info.body (retE G f8_info) (f8_info.start [.agg [.agg [.int a0_1, .blob a0_2, .blob a0_3, .int a0_4], .blob a0_5, .int a0_6, .int a0_7, .int a0_8, .int a0_9, .int a0_10, .int a0_11], .slice a1_1])
theorem f8_eq (run : Run) (n : Nat) (a0_1 : Int) (a0_2 : List UInt8) (a0_3 : List UInt8) (a0_4 : Int) (a0_5 : List UInt8) (a0_6 : Int) (a0_7 : Int) (a0_8 : Int) (a0_9 : Int) (a0_10 : Int) (a0_11 : Int) (a1_1 : List AV) : f8 run n a0_1 a0_2 a0_3 a0_4 a0_5 a0_6 a0_7 a0_8 a0_9 a0_10 a0_11 a1_1 =
  (run 9 [.slice a1_1]).bind fun r1 =>
    nilV r1.outs (consV r1.vals fun v1 vs1 =>
    nilV vs1 (bif v1.toBool then
    (run 34 []).bind fun r2 =>
    nilV r2.outs (consV r2.vals fun v2 vs2 =>
    nilV vs2 (some ⟨[.bool v2.toBool], [], f8_fresh⟩))
  else
    bif leI (a1_1.length : Int) a0_7 then
    (run 34 []).bind fun r3 =>
    nilV r3.outs (consV r3.vals fun v3 vs3 =>
    nilV vs3 (some ⟨[.bool v3.toBool], [], f8_fresh⟩))
  else
    (run 10 [.int a0_6, .int a0_7, .int a0_8, .int a0_9]).bind fun r4 =>
    nilV r4.outs (consV r4.vals fun v4 vs4 =>
    nilV vs4 (bif !v4.toBool then
    (run 34 []).bind fun r5 =>
    nilV r5.outs (consV r5.vals fun v5 vs5 =>
    nilV vs5 (some ⟨[.bool v5.toBool], [], f8_fresh⟩))
  else
    (run 11 [.agg [.agg [.int a0_1, .blob a0_2, .blob a0_3, .int a0_4], .blob a0_5, .int a0_6, .int a0_7, .int a0_8, .int a0_9, .int a0_10, .int a0_11], .slice a1_1]).bind fun r6 =>
    nilV r6.outs (consV r6.vals fun v6 vs6 =>
    nilV vs6 (bif !(eqI ((v6.fld 0).toInt) 0) then
    (run 34 []).bind fun r7 =>
    nilV r7.outs (consV r7.vals fun v7 vs7 =>
    nilV vs7 (some ⟨[.bool v7.toBool], [], f8_fresh⟩))
  else
    (run 18 [.agg [.agg [.int a0_1, .blob a0_2, .blob a0_3, .int a0_4], .blob a0_5, .int a0_6, .int a0_7, .int a0_8, .int a0_9, .int a0_10, .int a0_11], .slice a1_1]).bind fun r8 =>
    nilV r8.outs (consV r8.vals fun v8 vs8 =>
    consV vs8 fun v9 vs9 =>
    nilV vs9 (bif !(eqI v9.toInt 0) then
    some ⟨[.bool false], [], f8_fresh⟩
  else
    f8_l0 run n n a1_1 a0_1 a0_2 a0_3 a0_4 a0_5 a0_6 a0_7 a0_8 a0_9 a0_10 a0_11 v8.toSlice 0)))))))) := by kernel_rfl
theorem f8_run (ext : Run) (n : Nat) (a0_1 : Int) (a0_2 : List UInt8) (a0_3 : List UInt8) (a0_4 : Int) (a0_5 : List UInt8) (a0_6 : Int) (a0_7 : Int) (a0_8 : Int) (a0_9 : Int) (a0_10 : Int) (a0_11 : Int) (a1_1 : List AV) : runE G ext (n + 1) 8 [.agg [.agg [.int a0_1, .blob a0_2, .blob a0_3, .int a0_4], .blob a0_5, .int a0_6, .int a0_7, .int a0_8, .int a0_9, .int a0_10, .int a0_11], .slice a1_1] = f8 (runE G ext n) n a0_1 a0_2 a0_3 a0_4 a0_5 a0_6 a0_7 a0_8 a0_9 a0_10 a0_11 a1_1 := runE_succ f8_at f8_in

noncomputable def f96_l0 (run : Run) (n : Nat) (k0 : Nat) (x1_1 : Int) (x6_1 : Int) (x7_1 : Bool) (x10_1 : List AV) (x11_1 : Int) (x12_1 : Int) : Option Res :=
  iterK (evalK G run n f96_keep 0 (sub [1, 1, 0, 1, 0, 0] f96_body)) f96_t0 f96_o0 (blockK 0 (seqK (evalK G run n f96_keep 0 (sub [1, 1, 1] f96_body) (retE G f96_info)) (retE G f96_info))) k0
    ⟨[.any, .val (.int .i64) none (.int x1_1), .any, .any, .any, .any, .val (.int .i64) none (.int x6_1), .val .bool none (.bool x7_1), .any, .any, .val (.slice (.int .i64)) none (.slice x10_1), .val (.int .i64) none (.int x11_1), .val (.int .i64) none (.int x12_1), .any, .any, .any, .any, .any, .any, .any, .any, .any, .any, .any, .any, .any, .any, .any, .any, .any, .any, .any], [⟨0, none⟩, ⟨0, none⟩, ⟨0, none⟩, ⟨0, none⟩, ⟨0, none⟩, ⟨0, none⟩, ⟨0, none⟩, ⟨0, none⟩, ⟨0, none⟩, ⟨0, none⟩, ⟨0, none⟩, ⟨0, none⟩, ⟨0, none⟩, ⟨0, none⟩, ⟨0, none⟩, ⟨0, none⟩, ⟨0, none⟩, ⟨0, none⟩, ⟨0, none⟩, ⟨0, none⟩, ⟨0, none⟩, ⟨0, none⟩, ⟨0, none⟩, ⟨0, none⟩, ⟨0, none⟩, ⟨0, none⟩, ⟨0, none⟩, ⟨0, none⟩, ⟨0, none⟩, ⟨0, none⟩, ⟨0, none⟩, ⟨0, none⟩], List.replicate 32 0⟩
theorem f96_l0_eq (run : Run) (n : Nat) (k0 : Nat) (x1_1 : Int) (x6_1 : Int) (x7_1 : Bool) (x10_1 : List AV) (x11_1 : Int) (x12_1 : Int) : f96_l0 run n (k0 + 1) x1_1 x6_1 x7_1 x10_1 x11_1 x12_1 =
  bif ltI x12_1 x11_1 then
    bif inR x12_1 x10_1.length then
    bif leI x1_1 ((nth x10_1 (Int.toNat x12_1)).toInt) then
    bif !x7_1 then
    f96_l0 run n k0 x1_1 ((nth x10_1 (Int.toNat x12_1)).toInt) true x10_1 x11_1 (IntKind.wrap .i64 (x12_1 + 1))
  else
    bif ltI ((nth x10_1 (Int.toNat x12_1)).toInt) x6_1 then
    f96_l0 run n k0 x1_1 ((nth x10_1 (Int.toNat x12_1)).toInt) true x10_1 x11_1 (IntKind.wrap .i64 (x12_1 + 1))
  else
    f96_l0 run n k0 x1_1 x6_1 x7_1 x10_1 x11_1 (IntKind.wrap .i64 (x12_1 + 1))
  else
    f96_l0 run n k0 x1_1 x6_1 x7_1 x10_1 x11_1 (IntKind.wrap .i64 (x12_1 + 1))
  else none
  else
    some ⟨[.int x6_1, .bool x7_1], [], f96_fresh⟩ := by kernel_rfl
noncomputable def f96 (run : Run) (n : Nat) (a0_1 : List AV) (a1_1 : Int) : Option Res := evalK G run n f96_info.keep 0 f96_info.body (retE G f96_info) (f96_info.start [.slice a0_1, .int a1_1])
theorem f96_eq (run : Run) (n : Nat) (a0_1 : List AV) (a1_1 : Int) : f96 run n a0_1 a1_1 =
  f96_l0 run n n a1_1 0 false a0_1 (a0_1.length : Int) 0 := by kernel_rfl
theorem f96_run (ext : Run) (n : Nat) (a0_1 : List AV) (a1_1 : Int) : runE G ext (n + 1) 96 [.slice a0_1, .int a1_1] = f96 (runE G ext n) n a0_1 a1_1 := runE_succ f96_at f96_in

noncomputable def f58_l0 (run : Run) (n : Nat) (k0 : Nat) (x0_1 : List AV) (x1_1 : Int) (x2_1 : Int) (x7_1 : List AV) : Option Res :=
  iterK (evalK G run n f58_keep 0 (sub [1, 1, 1, 0, 0, 0] f58_body)) f58_t0 f58_o0 (blockK 0 (seqK (evalK G run n f58_keep 0 (sub [1, 1, 1, 1] f58_body) (retE G f58_info)) (retE G f58_info))) k0
    ⟨[.val (.slice (.int .i64)) none (.slice x0_1), .val (.int .i64) none (.int x1_1), .val (.int .i64) none (.int x2_1), .any, .any, .any, .any, .val (.slice (.int .i64)) (some (7, 0)) (.slice x7_1), .any, .any, .any, .any, .any, .any, .any, .any, .any, .any, .any, .any, .any, .any, .any, .any, .any, .any, .any, .any, .any, .any, .any, .any, .any, .any, .any, .any, .any, .any, .any, .any, .any, .any, .any, .any], [⟨0, none⟩, ⟨0, none⟩, ⟨0, none⟩, ⟨0, none⟩, ⟨0, none⟩, ⟨0, none⟩, ⟨0, none⟩, ⟨0, none⟩, ⟨0, none⟩, ⟨0, none⟩, ⟨0, none⟩, ⟨0, none⟩, ⟨0, none⟩, ⟨0, none⟩, ⟨0, none⟩, ⟨0, none⟩, ⟨0, none⟩, ⟨0, none⟩, ⟨0, none⟩, ⟨0, none⟩, ⟨0, none⟩, ⟨0, none⟩, ⟨0, none⟩, ⟨0, none⟩, ⟨0, none⟩, ⟨0, none⟩, ⟨0, none⟩, ⟨0, none⟩, ⟨0, none⟩, ⟨0, none⟩, ⟨0, none⟩, ⟨0, none⟩, ⟨0, none⟩, ⟨0, none⟩, ⟨0, none⟩, ⟨0, none⟩, ⟨0, none⟩, ⟨0, none⟩, ⟨0, none⟩, ⟨0, none⟩, ⟨0, none⟩, ⟨0, none⟩, ⟨0, none⟩, ⟨0, none⟩], List.replicate 44 0⟩
theorem f58_l0_eq (run : Run) (n : Nat) (k0 : Nat) (x0_1 : List AV) (x1_1 : Int) (x2_1 : Int) (x7_1 : List AV) : f58_l0 run n (k0 + 1) x0_1 x1_1 x2_1 x7_1 =
  bif ltI x2_1 x1_1 then
    (run 16 [.slice x0_1, .int x1_1]).bind fun r1 =>
    bif r1.fresh then
    nilV r1.outs (consV r1.vals fun v1 vs1 =>
    nilV vs1 ((run 96 [.slice v1.toSlice, .int x2_1]).bind fun r2 =>
    nilV r2.outs (consV r2.vals fun v2 vs2 =>
    consV vs2 fun v3 vs3 =>
    nilV vs3 (bif !v3.toBool then
    some ⟨[.slice []], [], f58_fresh⟩
  else
    bif Nat.ble ((x7_1.length + 1) * 8) 140737488355328 then
    f58_l0 run n k0 x0_1 v2.toInt x2_1 (x7_1 ++ [.int v2.toInt])
  else none))))
  else none
  else
    some ⟨[.slice x7_1], [], f58_fresh⟩ := by kernel_rfl
noncomputable def f58 (run : Run) (n : Nat) (a0_1 : List AV) (a1_1 : Int) (a2_1 : Int) : Option Res := evalK G run n f58_info.keep 0 f58_info.body (retE G f58_info) (f58_info.start [.slice a0_1, .int a1_1, .int a2_1])
theorem f58_eq (run : Run) (n : Nat) (a0_1 : List AV) (a1_1 : Int) (a2_1 : Int) : f58 run n a0_1 a1_1 a2_1 =
  bif ltI a2_1 0 then
    some ⟨[.slice []], [], f58_fresh⟩
  else
    bif ltI a1_1 a2_1 then
    some ⟨[.slice []], [], f58_fresh⟩
  else
    bif leI (a0_1.length : Int) a1_1 then
    some ⟨[.slice []], [], f58_fresh⟩
  else
    f58_l0 run n n a0_1 a1_1 a2_1 [.int a1_1] := by kernel_rfl
theorem f58_run (ext : Run) (n : Nat) (a0_1 : List AV) (a1_1 : Int) (a2_1 : Int) : runE G ext (n + 1) 58 [.slice a0_1, .int a1_1, .int a2_1] = f58 (runE G ext n) n a0_1 a1_1 a2_1 := runE_succ f58_at f58_in

end Go.Proofs.YtogehijjhibdkaaGreat.Ev
