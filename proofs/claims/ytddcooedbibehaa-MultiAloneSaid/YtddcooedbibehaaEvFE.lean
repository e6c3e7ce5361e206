/- What the evaluator does with the functions, as programs over plain values: printed by gen.py, checked by the kernel. -/
import Derived.Test.YtddcooedbibehaaEvFA
namespace Go.Proofs.Ytddcooedbibehaa.Ev
open Go Go.RowKit
set_option maxRecDepth 100000


noncomputable def f88 (run : Run) (n : Nat) (a0_1 : List UInt8) (a1_1 : Int) (a1_2 : List UInt8) (a1_3 : List UInt8) (a1_4 : Int) (a1_5 : Int) (a1_6 : Int) (a1_7 : List AV) (a2_1 : Int) (a2_2 : List UInt8) (a2_3 : List UInt8) (a2_4 : Int) (a3_1 : Int) : Option Res := evalK G run n f88_info.keep 0 f88_info.body (retE G f88_info) (f88_info.start [.blob a0_1, .agg [.agg [.int a1_1, .blob a1_2, .blob a1_3, .int a1_4], .agg [.int a1_5, .int a1_6, .slice a1_7]], .agg [.int a2_1, .blob a2_2, .blob a2_3, .int a2_4], .int a3_1])
theorem f88_eq (run : Run) (n : Nat) (a0_1 : List UInt8) (a1_1 : Int) (a1_2 : List UInt8) (a1_3 : List UInt8) (a1_4 : Int) (a1_5 : Int) (a1_6 : Int) (a1_7 : List AV) (a2_1 : Int) (a2_2 : List UInt8) (a2_3 : List UInt8) (a2_4 : Int) (a3_1 : Int) : f88 run n a0_1 a1_1 a1_2 a1_3 a1_4 a1_5 a1_6 a1_7 a2_1 a2_2 a2_3 a2_4 a3_1 =
  (run 20 [.agg [.int a1_1, .blob a1_2, .blob a1_3, .int a1_4], .agg [.int a2_1, .blob a2_2, .blob a2_3, .int a2_4]]).bind fun r1 =>
    nilV r1.outs (consV r1.vals fun v1 vs1 =>
    nilV vs1 (bif !v1.toBool then
    some ⟨[.int 8], [], f88_fresh⟩
  else
    bif leI a3_1 a1_1 then
    some ⟨[.int 8], [], f88_fresh⟩
  else
    (run 19 [.agg [.int a1_1, .blob a1_2, .blob a1_3, .int a1_4]]).bind fun r2 =>
    nilV r2.outs (consV r2.vals fun v2 vs2 =>
    nilV vs2 ((run 18 [.blob v2.toBlob, .blob a0_1]).bind fun r3 =>
    nilV r3.outs (consV r3.vals fun v3 vs3 =>
    nilV vs3 (bif !v3.toBool then
    some ⟨[.int 9], [], f88_fresh⟩
  else
    (run 21 [.agg [.agg [.int a1_1, .blob a1_2, .blob a1_3, .int a1_4], .agg [.int a1_5, .int a1_6, .slice a1_7]], .agg [.int a2_1, .blob a2_2, .blob a2_3, .int a2_4]]).bind fun r4 =>
    nilV r4.outs (consV r4.vals fun v4 vs4 =>
    nilV vs4 (bif !v4.toBool then
    some ⟨[.int 10], [], f88_fresh⟩
  else
    some ⟨[.int 0], [], f88_fresh⟩)))))))) := by kernel_rfl
theorem f88_run (ext : Run) (n : Nat) (a0_1 : List UInt8) (a1_1 : Int) (a1_2 : List UInt8) (a1_3 : List UInt8) (a1_4 : Int) (a1_5 : Int) (a1_6 : Int) (a1_7 : List AV) (a2_1 : Int) (a2_2 : List UInt8) (a2_3 : List UInt8) (a2_4 : Int) (a3_1 : Int) : runE G ext (n + 1) 88 [.blob a0_1, .agg [.agg [.int a1_1, .blob a1_2, .blob a1_3, .int a1_4], .agg [.int a1_5, .int a1_6, .slice a1_7]], .agg [.int a2_1, .blob a2_2, .blob a2_3, .int a2_4], .int a3_1] = f88 (runE G ext n) n a0_1 a1_1 a1_2 a1_3 a1_4 a1_5 a1_6 a1_7 a2_1 a2_2 a2_3 a2_4 a3_1 := runE_succ f88_at f88_in

noncomputable def f54_l0 (run : Run) (n : Nat) (k0 : Nat) (x34_1 : List AV) (x35_1 : Int) (x36_1 : Int) (o3_1 : List UInt8) (o5_1 : Int) (o5_2 : List AV) (o5_3 : Int) (o5_4 : Int) (o5_5 : List AV) (o5_6 : Int) (o5_7 : List UInt8) (o5_8 : Int) (o5_9 : Int) (o5_10 : List AV) (o7_1 : Int) (o7_2 : List UInt8) (o7_3 : List UInt8) (o7_4 : Int) (o8_1 : Int) (o8_2 : List UInt8) (o8_3 : List UInt8) (o8_4 : Int) : Option Res :=
  iterK (evalK G run n f54_keep 0 (sub [1, 1, 1, 0, 1, 0, 0] f54_body)) f54_t0 f54_o0 (blockK 0 (seqK (evalK G run n f54_keep 0 (sub [1, 1, 1, 1] f54_body) (retE G f54_info)) (retE G f54_info))) k0
    ⟨[.any, .any, .any, .ptr ⟨(.blob 32), 3, 1, []⟩, .any, .ptr ⟨(.struct [(.int .i64), (.slice (.struct [(.struct [(.int .u32), (.blob 32), (.blob 32), (.int .u64)]), (.struct [(.int .i64), (.int .i64), (.slice (.blob 32))])])), (.struct [(.int .i64), (.int .i64), (.slice (.blob 32))]), (.int .i64), .str, (.struct [(.int .i64), (.int .i64), (.slice (.blob 32))])]), 5, 1, []⟩, .any, .ptr ⟨(.struct [(.int .u32), (.blob 32), (.blob 32), (.int .u64)]), 7, 1, []⟩, .ptr ⟨(.struct [(.int .u32), (.blob 32), (.blob 32), (.int .u64)]), 8, 1, []⟩, .any, .any, .any, .any, .any, .any, .any, .any, .any, .any, .any, .any, .any, .any, .any, .any, .any, .any, .any, .any, .any, .any, .any, .any, .any, .val (.slice (.struct [(.struct [(.int .u32), (.blob 32), (.blob 32), (.int .u64)]), (.struct [(.int .i64), (.int .i64), (.slice (.blob 32))])])) none (.slice x34_1), .val (.int .i64) none (.int x35_1), .val (.int .i64) none (.int x36_1), .any, .any, .any, .any, .any, .any, .any, .any, .any, .any, .any, .any, .any, .any, .any, .any, .any, .any, .any, .any, .any, .any], [⟨0, none⟩, ⟨0, none⟩, ⟨0, none⟩, ⟨1, some ⟨(.blob 32), .blob o3_1⟩⟩, ⟨0, none⟩, ⟨1, some ⟨(.struct [(.int .i64), (.slice (.struct [(.struct [(.int .u32), (.blob 32), (.blob 32), (.int .u64)]), (.struct [(.int .i64), (.int .i64), (.slice (.blob 32))])])), (.struct [(.int .i64), (.int .i64), (.slice (.blob 32))]), (.int .i64), .str, (.struct [(.int .i64), (.int .i64), (.slice (.blob 32))])]), .agg [.int o5_1, .slice o5_2, .agg [.int o5_3, .int o5_4, .slice o5_5], .int o5_6, .str o5_7, .agg [.int o5_8, .int o5_9, .slice o5_10]]⟩⟩, ⟨0, none⟩, ⟨1, some ⟨(.struct [(.int .u32), (.blob 32), (.blob 32), (.int .u64)]), .agg [.int o7_1, .blob o7_2, .blob o7_3, .int o7_4]⟩⟩, ⟨1, some ⟨(.struct [(.int .u32), (.blob 32), (.blob 32), (.int .u64)]), .agg [.int o8_1, .blob o8_2, .blob o8_3, .int o8_4]⟩⟩, ⟨0, none⟩, ⟨0, none⟩, ⟨0, none⟩, ⟨0, none⟩, ⟨0, none⟩, ⟨0, none⟩, ⟨0, none⟩, ⟨0, none⟩, ⟨0, none⟩, ⟨0, none⟩, ⟨0, none⟩, ⟨0, none⟩, ⟨0, none⟩, ⟨0, none⟩, ⟨0, none⟩, ⟨0, none⟩, ⟨0, none⟩, ⟨0, none⟩, ⟨0, none⟩, ⟨0, none⟩, ⟨0, none⟩, ⟨0, none⟩, ⟨0, none⟩, ⟨0, none⟩, ⟨0, none⟩, ⟨0, none⟩, ⟨0, none⟩, ⟨0, none⟩, ⟨0, none⟩, ⟨0, none⟩, ⟨0, none⟩, ⟨0, none⟩, ⟨0, none⟩, ⟨0, none⟩, ⟨0, none⟩, ⟨0, none⟩, ⟨0, none⟩, ⟨0, none⟩, ⟨0, none⟩, ⟨0, none⟩, ⟨0, none⟩, ⟨0, none⟩, ⟨0, none⟩, ⟨0, none⟩, ⟨0, none⟩, ⟨0, none⟩, ⟨0, none⟩, ⟨0, none⟩, ⟨0, none⟩, ⟨0, none⟩], List.replicate 59 0⟩
theorem f54_l0_eq (run : Run) (n : Nat) (k0 : Nat) (x34_1 : List AV) (x35_1 : Int) (x36_1 : Int) (o3_1 : List UInt8) (o5_1 : Int) (o5_2 : List AV) (o5_3 : Int) (o5_4 : Int) (o5_5 : List AV) (o5_6 : Int) (o5_7 : List UInt8) (o5_8 : Int) (o5_9 : Int) (o5_10 : List AV) (o7_1 : Int) (o7_2 : List UInt8) (o7_3 : List UInt8) (o7_4 : Int) (o8_1 : Int) (o8_2 : List UInt8) (o8_3 : List UInt8) (o8_4 : Int) : f54_l0 run n (k0 + 1) x34_1 x35_1 x36_1 o3_1 o5_1 o5_2 o5_3 o5_4 o5_5 o5_6 o5_7 o5_8 o5_9 o5_10 o7_1 o7_2 o7_3 o7_4 o8_1 o8_2 o8_3 o8_4 =
  bif ltI x36_1 x35_1 then
    bif inR x36_1 x34_1.length then
    (run 88 [.blob o3_1, .agg [.agg [.int ((((nth x34_1 (Int.toNat x36_1)).fld 0).fld 0).toInt), .blob ((((nth x34_1 (Int.toNat x36_1)).fld 0).fld 1).toBlob), .blob ((((nth x34_1 (Int.toNat x36_1)).fld 0).fld 2).toBlob), .int ((((nth x34_1 (Int.toNat x36_1)).fld 0).fld 3).toInt)], .agg [.int ((((nth x34_1 (Int.toNat x36_1)).fld 1).fld 0).toInt), .int ((((nth x34_1 (Int.toNat x36_1)).fld 1).fld 1).toInt), .slice ((((nth x34_1 (Int.toNat x36_1)).fld 1).fld 2).toSlice)]], .agg [.int o7_1, .blob o7_2, .blob o7_3, .int o7_4], .int o8_1]).bind fun r2 =>
    nilV r2.outs (consV r2.vals fun v2 vs2 =>
    nilV vs2 (bif !(eqI v2.toInt 0) then
    some ⟨[.int v2.toInt], [], f54_fresh⟩
  else
    f54_l0 run n k0 x34_1 x35_1 (IntKind.wrap .i64 (x36_1 + 1)) o3_1 o5_1 o5_2 o5_3 o5_4 o5_5 o5_6 o5_7 o5_8 o5_9 o5_10 ((((nth x34_1 (Int.toNat x36_1)).fld 0).fld 0).toInt) ((((nth x34_1 (Int.toNat x36_1)).fld 0).fld 1).toBlob) ((((nth x34_1 (Int.toNat x36_1)).fld 0).fld 2).toBlob) ((((nth x34_1 (Int.toNat x36_1)).fld 0).fld 3).toInt) o8_1 o8_2 o8_3 o8_4))
  else none
  else
    (run 21 [.agg [.agg [.int o8_1, .blob o8_2, .blob o8_3, .int o8_4], .agg [.int o5_3, .int o5_4, .slice o5_5]], .agg [.int o7_1, .blob o7_2, .blob o7_3, .int o7_4]]).bind fun r3 =>
    nilV r3.outs (consV r3.vals fun v3 vs3 =>
    nilV vs3 (bif !v3.toBool then
    some ⟨[.int 10], [], f54_fresh⟩
  else
    some ⟨[.int 0], [], f54_fresh⟩)) := by kernel_rfl
noncomputable def f54 (run : Run) (n : Nat) (a0_1 : List UInt8) (a1_1 : List AV) (a2_1 : Int) (a2_2 : List AV) (a2_3 : Int) (a2_4 : Int) (a2_5 : List AV) (a2_6 : Int) (a2_7 : List UInt8) (a2_8 : Int) (a2_9 : Int) (a2_10 : List AV) : Option Res := evalK G run n f54_info.keep 0 f54_info.body (retE G f54_info) (f54_info.start [.blob a0_1, .slice a1_1, .agg [.int a2_1, .slice a2_2, .agg [.int a2_3, .int a2_4, .slice a2_5], .int a2_6, .str a2_7, .agg [.int a2_8, .int a2_9, .slice a2_10]]])
theorem f54_eq (run : Run) (n : Nat) (a0_1 : List UInt8) (a1_1 : List AV) (a2_1 : Int) (a2_2 : List AV) (a2_3 : Int) (a2_4 : Int) (a2_5 : List AV) (a2_6 : Int) (a2_7 : List UInt8) (a2_8 : Int) (a2_9 : Int) (a2_10 : List AV) : f54 run n a0_1 a1_1 a2_1 a2_2 a2_3 a2_4 a2_5 a2_6 a2_7 a2_8 a2_9 a2_10 =
  bif eqI (a2_2.length : Int) 0 then
    (run 71 [.agg [.int a2_3, .int a2_4, .slice a2_5]]).bind fun r1 =>
    nilV r1.outs (consV r1.vals fun v1 vs1 =>
    nilV vs1 (bif !v1.toBool then
    some ⟨[.int 2], [], f54_fresh⟩
  else
    some ⟨[.int 0], [], f54_fresh⟩))
  else
    bif inR (IntKind.wrap .i64 (a2_1 - 1)) a1_1.length then
    bif inR a2_1 a1_1.length then
    f54_l0 run n n a2_2 (a2_2.length : Int) 0 a0_1 a2_1 a2_2 a2_3 a2_4 a2_5 a2_6 a2_7 a2_8 a2_9 a2_10 ((((nth a1_1 (Int.toNat (IntKind.wrap .i64 (a2_1 - 1)))).fld 0).fld 0).toInt) ((((nth a1_1 (Int.toNat (IntKind.wrap .i64 (a2_1 - 1)))).fld 0).fld 1).toBlob) ((((nth a1_1 (Int.toNat (IntKind.wrap .i64 (a2_1 - 1)))).fld 0).fld 2).toBlob) ((((nth a1_1 (Int.toNat (IntKind.wrap .i64 (a2_1 - 1)))).fld 0).fld 3).toInt) ((((nth a1_1 (Int.toNat a2_1)).fld 0).fld 0).toInt) ((((nth a1_1 (Int.toNat a2_1)).fld 0).fld 1).toBlob) ((((nth a1_1 (Int.toNat a2_1)).fld 0).fld 2).toBlob) ((((nth a1_1 (Int.toNat a2_1)).fld 0).fld 3).toInt)
  else none
  else none := by kernel_rfl
theorem f54_run (ext : Run) (n : Nat) (a0_1 : List UInt8) (a1_1 : List AV) (a2_1 : Int) (a2_2 : List AV) (a2_3 : Int) (a2_4 : Int) (a2_5 : List AV) (a2_6 : Int) (a2_7 : List UInt8) (a2_8 : Int) (a2_9 : Int) (a2_10 : List AV) : runE G ext (n + 1) 54 [.blob a0_1, .slice a1_1, .agg [.int a2_1, .slice a2_2, .agg [.int a2_3, .int a2_4, .slice a2_5], .int a2_6, .str a2_7, .agg [.int a2_8, .int a2_9, .slice a2_10]]] = f54 (runE G ext n) n a0_1 a1_1 a2_1 a2_2 a2_3 a2_4 a2_5 a2_6 a2_7 a2_8 a2_9 a2_10 := runE_succ f54_at f54_in

noncomputable def f56 (run : Run) (n : Nat) (a0_1 : List UInt8) (a1_1 : List UInt8) (a2_1 : Int) (a2_2 : Int) (a2_3 : List AV) : Option Res := evalK G run n f56_info.keep 0 f56_info.body (retE G f56_info) (f56_info.start [.blob a0_1, .str a1_1, .agg [.int a2_1, .int a2_2, .slice a2_3]])
theorem f56_eq (run : Run) (n : Nat) (a0_1 : List UInt8) (a1_1 : List UInt8) (a2_1 : Int) (a2_2 : Int) (a2_3 : List AV) : f56 run n a0_1 a1_1 a2_1 a2_2 a2_3 =
  bif leI a2_2 1024 then
    bif leI (a1_1.length : Int) 4096 then
    (run 89 [.str a1_1]).bind fun r1 =>
    nilV r1.outs (consV r1.vals fun v1 vs1 =>
    nilV vs1 ((run 80 [.blob a0_1, .str v1.toStr, .agg [.int a2_1, .int a2_2, .slice a2_3]]).bind fun r2 =>
    nilV r2.outs (consV r2.vals fun v2 vs2 =>
    nilV vs2 (some ⟨[.bool v2.toBool], [], f56_fresh⟩))))
  else
    some ⟨[.bool false], [], f56_fresh⟩
  else
    some ⟨[.bool false], [], f56_fresh⟩ := by kernel_rfl
theorem f56_run (ext : Run) (n : Nat) (a0_1 : List UInt8) (a1_1 : List UInt8) (a2_1 : Int) (a2_2 : Int) (a2_3 : List AV) : runE G ext (n + 1) 56 [.blob a0_1, .str a1_1, .agg [.int a2_1, .int a2_2, .slice a2_3]] = f56 (runE G ext n) n a0_1 a1_1 a2_1 a2_2 a2_3 := runE_succ f56_at f56_in

noncomputable def f27 (run : Run) (n : Nat) (a0_1 : List UInt8) (a1_1 : List AV) (a2_1 : Int) (a2_2 : List AV) (a2_3 : Int) (a2_4 : Int) (a2_5 : List AV) (a2_6 : Int) (a2_7 : List UInt8) (a2_8 : Int) (a2_9 : Int) (a2_10 : List AV) : Option Res := evalK G run n f27_info.keep 0 f27_info.body (retE G f27_info) (f27_info.start [.blob a0_1, .slice a1_1, .agg [.int a2_1, .slice a2_2, .agg [.int a2_3, .int a2_4, .slice a2_5], .int a2_6, .str a2_7, .agg [.int a2_8, .int a2_9, .slice a2_10]]])
theorem f27_eq (run : Run) (n : Nat) (a0_1 : List UInt8) (a1_1 : List AV) (a2_1 : Int) (a2_2 : List AV) (a2_3 : Int) (a2_4 : Int) (a2_5 : List AV) (a2_6 : Int) (a2_7 : List UInt8) (a2_8 : Int) (a2_9 : Int) (a2_10 : List AV) : f27 run n a0_1 a1_1 a2_1 a2_2 a2_3 a2_4 a2_5 a2_6 a2_7 a2_8 a2_9 a2_10 =
  (run 53 [.int (a1_1.length : Int), .agg [.int a2_1, .slice a2_2, .agg [.int a2_3, .int a2_4, .slice a2_5], .int a2_6, .str a2_7, .agg [.int a2_8, .int a2_9, .slice a2_10]]]).bind fun r1 =>
    nilV r1.outs (consV r1.vals fun v1 vs1 =>
    nilV vs1 (bif !(eqI v1.toInt 0) then
    some ⟨[.int v1.toInt], [], f27_fresh⟩
  else
    (run 54 [.blob a0_1, .slice a1_1, .agg [.int a2_1, .slice a2_2, .agg [.int a2_3, .int a2_4, .slice a2_5], .int a2_6, .str a2_7, .agg [.int a2_8, .int a2_9, .slice a2_10]]]).bind fun r2 =>
    nilV r2.outs (consV r2.vals fun v2 vs2 =>
    nilV vs2 (bif !(eqI v2.toInt 0) then
    some ⟨[.int v2.toInt], [], f27_fresh⟩
  else
    (run 55 [.slice a1_1, .agg [.int a2_1, .slice a2_2, .agg [.int a2_3, .int a2_4, .slice a2_5], .int a2_6, .str a2_7, .agg [.int a2_8, .int a2_9, .slice a2_10]]]).bind fun r3 =>
    nilV r3.outs (consV r3.vals fun v3 vs3 =>
    consV vs3 fun _v4 vs4 =>
    nilV vs4 ((run 56 [.blob ((v3.fld 2).toBlob), .str a2_7, .agg [.int a2_8, .int a2_9, .slice a2_10]]).bind fun r4 =>
    nilV r4.outs (consV r4.vals fun v5 vs5 =>
    nilV vs5 (bif !v5.toBool then
    some ⟨[.int 14], [], f27_fresh⟩
  else
    some ⟨[.int 0], [], f27_fresh⟩)))))))) := by kernel_rfl
theorem f27_run (ext : Run) (n : Nat) (a0_1 : List UInt8) (a1_1 : List AV) (a2_1 : Int) (a2_2 : List AV) (a2_3 : Int) (a2_4 : Int) (a2_5 : List AV) (a2_6 : Int) (a2_7 : List UInt8) (a2_8 : Int) (a2_9 : Int) (a2_10 : List AV) : runE G ext (n + 1) 27 [.blob a0_1, .slice a1_1, .agg [.int a2_1, .slice a2_2, .agg [.int a2_3, .int a2_4, .slice a2_5], .int a2_6, .str a2_7, .agg [.int a2_8, .int a2_9, .slice a2_10]]] = f27 (runE G ext n) n a0_1 a1_1 a2_1 a2_2 a2_3 a2_4 a2_5 a2_6 a2_7 a2_8 a2_9 a2_10 := runE_succ f27_at f27_in

noncomputable def f28 (run : Run) (n : Nat) : Option Res := evalK G run n f28_info.keep 0 f28_info.body (retE G f28_info) (f28_info.start [])
theorem f28_eq (run : Run) (n : Nat) : f28 run n  =
  (run 55 [.slice [.agg [.agg [.int 0, .blob (List.replicate 32 0), .blob (List.replicate 32 0), .int 7], .agg [.int 0, .int 0, .slice []]]], .agg [.int 0, .slice [], .agg [.int 0, .int 0, .slice []], .int 0, .str [], .agg [.int 0, .int 0, .slice []]]]).bind fun r1 =>
    nilV r1.outs (consV r1.vals fun v1 vs1 =>
    consV vs1 fun v2 vs2 =>
    nilV vs2 ((run 27 [.blob [0, 0, 0, 0, 0, 0, 0, 0, 0, 0, 0, 0, 0, 0, 0, 0, 0, 0, 0, 0, 0, 0, 0, 0, 0, 0, 0, 0, 0, 0, 0, 0], .slice [], .agg [.int 0, .slice [], .agg [.int 0, .int 0, .slice []], .int 0, .str [], .agg [.int 0, .int 0, .slice []]]]).bind fun r2 =>
    nilV r2.outs (consV r2.vals fun v3 vs3 =>
    nilV vs3 (bif eqI v3.toInt 15 then
    bif v2.toBool then
    some ⟨[.bool (eqI ((v1.fld 3).toInt) 7)], [], f28_fresh⟩
  else
    some ⟨[.bool false], [], f28_fresh⟩
  else
    some ⟨[.bool false], [], f28_fresh⟩)))) := by kernel_rfl
theorem f28_run (ext : Run) (n : Nat) : runE G ext (n + 1) 28 [] = f28 (runE G ext n) n  := runE_succ f28_at f28_in

noncomputable def f7 (run : Run) (n : Nat) (a0_1 : List UInt8) (a1_1 : List AV) (a2_1 : Int) (a2_2 : List AV) (a2_3 : Int) (a2_4 : Int) (a2_5 : List AV) (a2_6 : Int) (a2_7 : List UInt8) (a2_8 : Int) (a2_9 : Int) (a2_10 : List AV) : Option Res := evalK G run n f7_info.keep 0 f7_info.body (retE G f7_info) (f7_info.start [.blob a0_1, .agg a1_1, .agg [.int a2_1, .slice a2_2, .agg [.int a2_3, .int a2_4, .slice a2_5], .int a2_6, .str a2_7, .agg [.int a2_8, .int a2_9, .slice a2_10]]])
theorem f7_eq (run : Run) (n : Nat) (a0_1 : List UInt8) (a1_1 : List AV) (a2_1 : Int) (a2_2 : List AV) (a2_3 : Int) (a2_4 : Int) (a2_5 : List AV) (a2_6 : Int) (a2_7 : List UInt8) (a2_8 : Int) (a2_9 : Int) (a2_10 : List AV) : f7 run n a0_1 a1_1 a2_1 a2_2 a2_3 a2_4 a2_5 a2_6 a2_7 a2_8 a2_9 a2_10 =
  (run 26 [.slice ((AV.fld (.agg a1_1) 0).toSlice), .agg [.int a2_1, .slice a2_2, .agg [.int a2_3, .int a2_4, .slice a2_5], .int a2_6, .str a2_7, .agg [.int a2_8, .int a2_9, .slice a2_10]]]).bind fun r1 =>
    nilV r1.outs (consV r1.vals fun v1 vs1 =>
    nilV vs1 (bif v1.toBool then
    (run 28 []).bind fun r2 =>
    nilV r2.outs (consV r2.vals fun v2 vs2 =>
    nilV vs2 (some ⟨[.bool v2.toBool], [], f7_fresh⟩))
  else
    (run 15 [.slice ((AV.fld (.agg a1_1) 1).toSlice)]).bind fun r3 =>
    nilV r3.outs (consV r3.vals fun v3 vs3 =>
    nilV vs3 (bif v3.toBool then
    (run 28 []).bind fun r4 =>
    nilV r4.outs (consV r4.vals fun v4 vs4 =>
    nilV vs4 (some ⟨[.bool v4.toBool], [], f7_fresh⟩))
  else
    (run 27 [.blob a0_1, .slice ((AV.fld (.agg a1_1) 0).toSlice), .agg [.int a2_1, .slice a2_2, .agg [.int a2_3, .int a2_4, .slice a2_5], .int a2_6, .str a2_7, .agg [.int a2_8, .int a2_9, .slice a2_10]]]).bind fun r5 =>
    nilV r5.outs (consV r5.vals fun v5 vs5 =>
    nilV vs5 (bif !(eqI v5.toInt 0) then
    (run 28 []).bind fun r6 =>
    nilV r6.outs (consV r6.vals fun v6 vs6 =>
    nilV vs6 (some ⟨[.bool v6.toBool], [], f7_fresh⟩))
  else
    bif Nat.ble ((0 + ((AV.fld (.agg a1_1) 0).toSlice).length) * 120) 140737488355328 then
    bif Nat.ble ((([] ++ ((AV.fld (.agg a1_1) 0).toSlice)).length + ((AV.fld (.agg a1_1) 1).toSlice).length) * 120) 140737488355328 then
    (run 27 [.blob a0_1, .slice (([] ++ ((AV.fld (.agg a1_1) 0).toSlice)) ++ ((AV.fld (.agg a1_1) 1).toSlice)), .agg [.int a2_1, .slice a2_2, .agg [.int a2_3, .int a2_4, .slice a2_5], .int a2_6, .str a2_7, .agg [.int a2_8, .int a2_9, .slice a2_10]]]).bind fun r7 =>
    nilV r7.outs (consV r7.vals fun v7 vs7 =>
    nilV vs7 (bif eqI v7.toInt 0 then
    (run 28 []).bind fun r8 =>
    nilV r8.outs (consV r8.vals fun v8 vs8 =>
    nilV vs8 (some ⟨[.bool v8.toBool], [], f7_fresh⟩))
  else
    some ⟨[.bool false], [], f7_fresh⟩))
  else none
  else none)))))) := by kernel_rfl
theorem f7_run (ext : Run) (n : Nat) (a0_1 : List UInt8) (a1_1 : List AV) (a2_1 : Int) (a2_2 : List AV) (a2_3 : Int) (a2_4 : Int) (a2_5 : List AV) (a2_6 : Int) (a2_7 : List UInt8) (a2_8 : Int) (a2_9 : Int) (a2_10 : List AV) : runE G ext (n + 1) 7 [.blob a0_1, .agg a1_1, .agg [.int a2_1, .slice a2_2, .agg [.int a2_3, .int a2_4, .slice a2_5], .int a2_6, .str a2_7, .agg [.int a2_8, .int a2_9, .slice a2_10]]] = f7 (runE G ext n) n a0_1 a1_1 a2_1 a2_2 a2_3 a2_4 a2_5 a2_6 a2_7 a2_8 a2_9 a2_10 := runE_succ f7_at f7_in

noncomputable def f59 (run : Run) (n : Nat) (a0_1 : Int) (a0_2 : List UInt8) (a0_3 : List UInt8) (a0_4 : Int) (a0_5 : List UInt8) (a0_6 : Int) (a0_7 : Int) (a0_8 : Int) (a0_9 : Int) (a0_10 : Int) (a0_11 : Int) (a0_12 : Int) (a0_13 : Int) (a0_14 : List UInt8) (a0_15 : List UInt8) (a0_16 : Int) (a0_17 : List AV) (a0_18 : List AV) : Option Res := evalK G run n f59_info.keep 0 f59_info.body (retE G f59_info) (f59_info.start [.agg [.agg [.agg [.int a0_1, .blob a0_2, .blob a0_3, .int a0_4], .blob a0_5, .int a0_6, .int a0_7, .int a0_8, .int a0_9, .int a0_10, .int a0_11], .int a0_12, .agg [.agg [.int a0_13, .blob a0_14, .blob a0_15, .int a0_16], .slice a0_17], .slice a0_18]])
theorem f59_eq (run : Run) (n : Nat) (a0_1 : Int) (a0_2 : List UInt8) (a0_3 : List UInt8) (a0_4 : Int) (a0_5 : List UInt8) (a0_6 : Int) (a0_7 : Int) (a0_8 : Int) (a0_9 : Int) (a0_10 : Int) (a0_11 : Int) (a0_12 : Int) (a0_13 : Int) (a0_14 : List UInt8) (a0_15 : List UInt8) (a0_16 : Int) (a0_17 : List AV) (a0_18 : List AV) : f59 run n a0_1 a0_2 a0_3 a0_4 a0_5 a0_6 a0_7 a0_8 a0_9 a0_10 a0_11 a0_12 a0_13 a0_14 a0_15 a0_16 a0_17 a0_18 =
  (run 91 [.agg [.agg [.int a0_13, .blob a0_14, .blob a0_15, .int a0_16], .slice a0_17]]).bind fun r1 =>
    nilV r1.outs (consV r1.vals fun v1 vs1 =>
    nilV vs1 ((run 18 [.blob v1.toBlob, .blob a0_5]).bind fun r2 =>
    nilV r2.outs (consV r2.vals fun v2 vs2 =>
    nilV vs2 (bif !v2.toBool then
    some ⟨[.int 9], [], f59_fresh⟩
  else
    some ⟨[.int 0], [], f59_fresh⟩)))) := by kernel_rfl
theorem f59_run (ext : Run) (n : Nat) (a0_1 : Int) (a0_2 : List UInt8) (a0_3 : List UInt8) (a0_4 : Int) (a0_5 : List UInt8) (a0_6 : Int) (a0_7 : Int) (a0_8 : Int) (a0_9 : Int) (a0_10 : Int) (a0_11 : Int) (a0_12 : Int) (a0_13 : Int) (a0_14 : List UInt8) (a0_15 : List UInt8) (a0_16 : Int) (a0_17 : List AV) (a0_18 : List AV) : runE G ext (n + 1) 59 [.agg [.agg [.agg [.int a0_1, .blob a0_2, .blob a0_3, .int a0_4], .blob a0_5, .int a0_6, .int a0_7, .int a0_8, .int a0_9, .int a0_10, .int a0_11], .int a0_12, .agg [.agg [.int a0_13, .blob a0_14, .blob a0_15, .int a0_16], .slice a0_17], .slice a0_18]] = f59 (runE G ext n) n a0_1 a0_2 a0_3 a0_4 a0_5 a0_6 a0_7 a0_8 a0_9 a0_10 a0_11 a0_12 a0_13 a0_14 a0_15 a0_16 a0_17 a0_18 := runE_succ f59_at f59_in

noncomputable def f90 (run : Run) (n : Nat) (a0_1 : Int) (a0_2 : List UInt8) (a0_3 : List UInt8) (a0_4 : Int) (a0_5 : List AV) (a1_1 : Int) (a2_1 : List AV) : Option Res := evalK G run n f90_info.keep 0 f90_info.body (retE G f90_info) (f90_info.start [.agg [.agg [.int a0_1, .blob a0_2, .blob a0_3, .int a0_4], .slice a0_5], .int a1_1, .slice a2_1])
theorem f90_eq (run : Run) (n : Nat) (a0_1 : Int) (a0_2 : List UInt8) (a0_3 : List UInt8) (a0_4 : Int) (a0_5 : List AV) (a1_1 : Int) (a2_1 : List AV) : f90 run n a0_1 a0_2 a0_3 a0_4 a0_5 a1_1 a2_1 =
  bif !(eqI a0_1 a1_1) then
    some ⟨[.int 8], [], f90_fresh⟩
  else
    (run 106 [.slice a0_5]).bind fun r1 =>
    nilV r1.outs (consV r1.vals fun v1 vs1 =>
    nilV vs1 (bif !(eqI v1.toInt 0) then
    some ⟨[.int v1.toInt], [], f90_fresh⟩
  else
    (run 107 [.int a1_1, .slice a2_1, .slice a0_5, .int a0_4]).bind fun r2 =>
    nilV r2.outs (consV r2.vals fun v2 vs2 =>
    nilV vs2 (bif !(eqI (((v2.fld 0).fld 0).toInt) a0_1 && (eqS (((v2.fld 0).fld 1).toBlob) a0_2 && (eqS (((v2.fld 0).fld 2).toBlob) a0_3 && (eqI (((v2.fld 0).fld 3).toInt) a0_4 && true)))) then
    some ⟨[.int 12], [], f90_fresh⟩
  else
    some ⟨[.int 0], [], f90_fresh⟩)))) := by kernel_rfl
theorem f90_run (ext : Run) (n : Nat) (a0_1 : Int) (a0_2 : List UInt8) (a0_3 : List UInt8) (a0_4 : Int) (a0_5 : List AV) (a1_1 : Int) (a2_1 : List AV) : runE G ext (n + 1) 90 [.agg [.agg [.int a0_1, .blob a0_2, .blob a0_3, .int a0_4], .slice a0_5], .int a1_1, .slice a2_1] = f90 (runE G ext n) n a0_1 a0_2 a0_3 a0_4 a0_5 a1_1 a2_1 := runE_succ f90_at f90_in

noncomputable def f58 (run : Run) (n : Nat) (a0_1 : Int) (a0_2 : List UInt8) (a0_3 : List UInt8) (a0_4 : Int) (a0_5 : List UInt8) (a0_6 : Int) (a0_7 : Int) (a0_8 : Int) (a0_9 : Int) (a0_10 : Int) (a0_11 : Int) (a0_12 : Int) (a0_13 : Int) (a0_14 : List UInt8) (a0_15 : List UInt8) (a0_16 : Int) (a0_17 : List AV) (a0_18 : List AV) : Option Res := evalK G run n f58_info.keep 0 f58_info.body (retE G f58_info) (f58_info.start [.agg [.agg [.agg [.int a0_1, .blob a0_2, .blob a0_3, .int a0_4], .blob a0_5, .int a0_6, .int a0_7, .int a0_8, .int a0_9, .int a0_10, .int a0_11], .int a0_12, .agg [.agg [.int a0_13, .blob a0_14, .blob a0_15, .int a0_16], .slice a0_17], .slice a0_18]])
theorem f58_eq (run : Run) (n : Nat) (a0_1 : Int) (a0_2 : List UInt8) (a0_3 : List UInt8) (a0_4 : Int) (a0_5 : List UInt8) (a0_6 : Int) (a0_7 : Int) (a0_8 : Int) (a0_9 : Int) (a0_10 : Int) (a0_11 : Int) (a0_12 : Int) (a0_13 : Int) (a0_14 : List UInt8) (a0_15 : List UInt8) (a0_16 : Int) (a0_17 : List AV) (a0_18 : List AV) : f58 run n a0_1 a0_2 a0_3 a0_4 a0_5 a0_6 a0_7 a0_8 a0_9 a0_10 a0_11 a0_12 a0_13 a0_14 a0_15 a0_16 a0_17 a0_18 =
  (run 90 [.agg [.agg [.int a0_13, .blob a0_14, .blob a0_15, .int a0_16], .slice a0_17], .int (IntKind.wrap .u32 a0_12), .slice a0_18]).bind fun r1 =>
    nilV r1.outs (consV r1.vals fun v1 vs1 =>
    nilV vs1 (some ⟨[.int v1.toInt], [], f58_fresh⟩)) := by kernel_rfl
theorem f58_run (ext : Run) (n : Nat) (a0_1 : Int) (a0_2 : List UInt8) (a0_3 : List UInt8) (a0_4 : Int) (a0_5 : List UInt8) (a0_6 : Int) (a0_7 : Int) (a0_8 : Int) (a0_9 : Int) (a0_10 : Int) (a0_11 : Int) (a0_12 : Int) (a0_13 : Int) (a0_14 : List UInt8) (a0_15 : List UInt8) (a0_16 : Int) (a0_17 : List AV) (a0_18 : List AV) : runE G ext (n + 1) 58 [.agg [.agg [.agg [.int a0_1, .blob a0_2, .blob a0_3, .int a0_4], .blob a0_5, .int a0_6, .int a0_7, .int a0_8, .int a0_9, .int a0_10, .int a0_11], .int a0_12, .agg [.agg [.int a0_13, .blob a0_14, .blob a0_15, .int a0_16], .slice a0_17], .slice a0_18]] = f58 (runE G ext n) n a0_1 a0_2 a0_3 a0_4 a0_5 a0_6 a0_7 a0_8 a0_9 a0_10 a0_11 a0_12 a0_13 a0_14 a0_15 a0_16 a0_17 a0_18 := runE_succ f58_at f58_in

noncomputable def f57 (run : Run) (n : Nat) (a0_1 : Int) (a0_2 : List UInt8) (a0_3 : List UInt8) (a0_4 : Int) (a0_5 : List UInt8) (a0_6 : Int) (a0_7 : Int) (a0_8 : Int) (a0_9 : Int) (a0_10 : Int) (a0_11 : Int) (a0_12 : Int) (a0_13 : Int) (a0_14 : List UInt8) (a0_15 : List UInt8) (a0_16 : Int) (a0_17 : List AV) (a0_18 : List AV) : Option Res := evalK G run n f57_info.keep 0 f57_info.body (retE G f57_info) (f57_info.start [.agg [.agg [.agg [.int a0_1, .blob a0_2, .blob a0_3, .int a0_4], .blob a0_5, .int a0_6, .int a0_7, .int a0_8, .int a0_9, .int a0_10, .int a0_11], .int a0_12, .agg [.agg [.int a0_13, .blob a0_14, .blob a0_15, .int a0_16], .slice a0_17], .slice a0_18]])
theorem f57_eq (run : Run) (n : Nat) (a0_1 : Int) (a0_2 : List UInt8) (a0_3 : List UInt8) (a0_4 : Int) (a0_5 : List UInt8) (a0_6 : Int) (a0_7 : Int) (a0_8 : Int) (a0_9 : Int) (a0_10 : Int) (a0_11 : Int) (a0_12 : Int) (a0_13 : Int) (a0_14 : List UInt8) (a0_15 : List UInt8) (a0_16 : Int) (a0_17 : List AV) (a0_18 : List AV) : f57 run n a0_1 a0_2 a0_3 a0_4 a0_5 a0_6 a0_7 a0_8 a0_9 a0_10 a0_11 a0_12 a0_13 a0_14 a0_15 a0_16 a0_17 a0_18 =
  bif eqI a0_12 0 then
    bif !(eqI a0_13 a0_1 && (eqS a0_14 a0_2 && (eqS a0_15 a0_3 && (eqI a0_16 a0_4 && true)))) then
    some ⟨[.int 7], [], f57_fresh⟩
  else
    some ⟨[.int 0], [], f57_fresh⟩
  else
    some ⟨[.int 0], [], f57_fresh⟩ := by kernel_rfl
theorem f57_run (ext : Run) (n : Nat) (a0_1 : Int) (a0_2 : List UInt8) (a0_3 : List UInt8) (a0_4 : Int) (a0_5 : List UInt8) (a0_6 : Int) (a0_7 : Int) (a0_8 : Int) (a0_9 : Int) (a0_10 : Int) (a0_11 : Int) (a0_12 : Int) (a0_13 : Int) (a0_14 : List UInt8) (a0_15 : List UInt8) (a0_16 : Int) (a0_17 : List AV) (a0_18 : List AV) : runE G ext (n + 1) 57 [.agg [.agg [.agg [.int a0_1, .blob a0_2, .blob a0_3, .int a0_4], .blob a0_5, .int a0_6, .int a0_7, .int a0_8, .int a0_9, .int a0_10, .int a0_11], .int a0_12, .agg [.agg [.int a0_13, .blob a0_14, .blob a0_15, .int a0_16], .slice a0_17], .slice a0_18]] = f57 (runE G ext n) n a0_1 a0_2 a0_3 a0_4 a0_5 a0_6 a0_7 a0_8 a0_9 a0_10 a0_11 a0_12 a0_13 a0_14 a0_15 a0_16 a0_17 a0_18 := runE_succ f57_at f57_in

noncomputable def f29_l3 (run : Run) (n : Nat) (k1 : Nat) (k3 : Nat) (x2_12 : Int) (x2_13 : List UInt8) (x2_14 : List UInt8) (x2_15 : Int) (x2_16 : List UInt8) (x2_17 : Int) (x2_18 : Int) (x2_19 : Int) (x2_20 : Int) (x2_21 : Int) (x2_22 : Int) (x5_2 : List AV) (x6_1 : Int) (x22_2 : List AV) (x23_2 : Int) (x24_2 : Int) (x40_1 : List AV) (x41_1 : Int) (x42_1 : Int) (o4_3 : Int) (o4_4 : Int) (o7_1 : Int) (o7_2 : List UInt8) (o7_3 : List UInt8) (o7_4 : Int) (o7_5 : List AV) : Option Res :=
  iterK (evalK G run n f29_keep 3 (sub [1, 1, 1, 0, 1, 0, 0, 1, 1, 0, 0, 1, 1, 0, 1, 0, 0] f29_body)) f29_t3 f29_o3 (blockK 3 (seqK (evalK G run n f29_keep 2 (sub [1, 1, 1, 0, 1, 0, 0, 1, 1, 0, 0, 1, 1, 1] f29_body) (blockK 2 (seqK (evalK G run n f29_keep 1 (sub [1, 1, 1, 0, 1, 0, 0, 1, 1, 1] f29_body) (seqK (fun t => iterK (evalK G run n f29_keep 1 (sub [1, 1, 1, 0, 1, 0, 0] f29_body)) f29_t1 f29_o1 (blockK 1 (seqK (evalK G run n f29_keep 0 (sub [1, 1, 1, 1] f29_body) (retE G f29_info)) (retE G f29_info))) k1 (t.clear f29_t1 f29_o1)) (blockK 1 (seqK (evalK G run n f29_keep 0 (sub [1, 1, 1, 1] f29_body) (retE G f29_info)) (retE G f29_info))))) (seqK (fun t => iterK (evalK G run n f29_keep 1 (sub [1, 1, 1, 0, 1, 0, 0] f29_body)) f29_t1 f29_o1 (blockK 1 (seqK (evalK G run n f29_keep 0 (sub [1, 1, 1, 1] f29_body) (retE G f29_info)) (retE G f29_info))) k1 (t.clear f29_t1 f29_o1)) (blockK 1 (seqK (evalK G run n f29_keep 0 (sub [1, 1, 1, 1] f29_body) (retE G f29_info)) (retE G f29_info))))))) (blockK 2 (seqK (evalK G run n f29_keep 1 (sub [1, 1, 1, 0, 1, 0, 0, 1, 1, 1] f29_body) (seqK (fun t => iterK (evalK G run n f29_keep 1 (sub [1, 1, 1, 0, 1, 0, 0] f29_body)) f29_t1 f29_o1 (blockK 1 (seqK (evalK G run n f29_keep 0 (sub [1, 1, 1, 1] f29_body) (retE G f29_info)) (retE G f29_info))) k1 (t.clear f29_t1 f29_o1)) (blockK 1 (seqK (evalK G run n f29_keep 0 (sub [1, 1, 1, 1] f29_body) (retE G f29_info)) (retE G f29_info))))) (seqK (fun t => iterK (evalK G run n f29_keep 1 (sub [1, 1, 1, 0, 1, 0, 0] f29_body)) f29_t1 f29_o1 (blockK 1 (seqK (evalK G run n f29_keep 0 (sub [1, 1, 1, 1] f29_body) (retE G f29_info)) (retE G f29_info))) k1 (t.clear f29_t1 f29_o1)) (blockK 1 (seqK (evalK G run n f29_keep 0 (sub [1, 1, 1, 1] f29_body) (retE G f29_info)) (retE G f29_info)))))))) k3
    ⟨[.any, .any, .val (.pat (.struct [(.struct [(.int .u32), (.blob 32), (.blob 32), (.int .u64)]), (.blob 32), (.int .i64), (.int .i64), (.int .i64), (.int .i64), (.int .i64), (.int .i64)])) none (.agg [.agg [.int x2_12, .blob x2_13, .blob x2_14, .int x2_15], .blob x2_16, .int x2_17, .int x2_18, .int x2_19, .int x2_20, .int x2_21, .int x2_22]), .any, .ptr ⟨(.struct [(.int .i64), (.int .i64)]), 4, 1, []⟩, .val (.slice (.blob 32)) none (.slice x5_2), .val (.int .i64) none (.int x6_1), .ptr ⟨(.struct [(.struct [(.int .u32), (.blob 32), (.blob 32), (.int .u64)]), (.slice .str)]), 7, 1, []⟩, .any, .any, .any, .any, .any, .any, .any, .any, .any, .any, .any, .any, .any, .any, .val (.slice (.struct [(.struct [(.int .u32), (.blob 32), (.blob 32), (.int .u64)]), (.slice .str)])) none (.slice x22_2), .val (.int .i64) none (.int x23_2), .val (.int .i64) none (.int x24_2), .any, .any, .any, .any, .any, .any, .any, .any, .any, .any, .any, .any, .any, .any, .any, .val (.slice (.clos [(57, ([0], [])), (58, ([0], [])), (59, ([0], []))] [(.struct [(.struct [(.struct [(.int .u32), (.blob 32), (.blob 32), (.int .u64)]), (.blob 32), (.int .i64), (.int .i64), (.int .i64), (.int .i64), (.int .i64), (.int .i64)]), (.int .i64), (.struct [(.struct [(.int .u32), (.blob 32), (.blob 32), (.int .u64)]), (.slice .str)]), (.slice (.blob 32))])])) (some (40, 0)) (.slice x40_1), .val (.int .i64) none (.int x41_1), .val (.int .i64) none (.int x42_1), .any, .any, .any, .any, .any, .any, .any, .any, .any, .any, .any, .any, .any, .any, .any, .any, .any, .any, .any], [⟨0, none⟩, ⟨0, none⟩, ⟨0, none⟩, ⟨0, none⟩, ⟨1, some ⟨(.struct [(.int .i64), (.int .i64)]), .agg [.int o4_3, .int o4_4]⟩⟩, ⟨0, none⟩, ⟨0, none⟩, ⟨1, some ⟨(.struct [(.struct [(.int .u32), (.blob 32), (.blob 32), (.int .u64)]), (.slice .str)]), .agg [.agg [.int o7_1, .blob o7_2, .blob o7_3, .int o7_4], .slice o7_5]⟩⟩, ⟨0, none⟩, ⟨0, none⟩, ⟨0, none⟩, ⟨0, none⟩, ⟨0, none⟩, ⟨0, none⟩, ⟨0, none⟩, ⟨0, none⟩, ⟨0, none⟩, ⟨0, none⟩, ⟨0, none⟩, ⟨0, none⟩, ⟨0, none⟩, ⟨0, none⟩, ⟨0, none⟩, ⟨0, none⟩, ⟨0, none⟩, ⟨0, none⟩, ⟨0, none⟩, ⟨0, none⟩, ⟨0, none⟩, ⟨0, none⟩, ⟨0, none⟩, ⟨0, none⟩, ⟨0, none⟩, ⟨0, none⟩, ⟨0, none⟩, ⟨0, none⟩, ⟨0, none⟩, ⟨0, none⟩, ⟨0, none⟩, ⟨0, none⟩, ⟨0, none⟩, ⟨0, none⟩, ⟨0, none⟩, ⟨0, none⟩, ⟨0, none⟩, ⟨0, none⟩, ⟨0, none⟩, ⟨0, none⟩, ⟨0, none⟩, ⟨0, none⟩, ⟨0, none⟩, ⟨0, none⟩, ⟨0, none⟩, ⟨0, none⟩, ⟨0, none⟩, ⟨0, none⟩, ⟨0, none⟩, ⟨0, none⟩, ⟨0, none⟩, ⟨0, none⟩, ⟨0, none⟩, ⟨0, none⟩], List.replicate 62 0⟩
noncomputable def f29_l1 (run : Run) (n : Nat) (k1 : Nat) (x2_1 : Int) (x2_2 : List UInt8) (x2_3 : List UInt8) (x2_4 : Int) (x2_5 : List UInt8) (x2_6 : Int) (x2_7 : Int) (x2_8 : Int) (x2_9 : Int) (x2_10 : Int) (x2_11 : Int) (x5_1 : List AV) (x22_1 : List AV) (x23_1 : Int) (x24_1 : Int) (o4_1 : Int) (o4_2 : Int) : Option Res :=
  iterK (evalK G run n f29_keep 1 (sub [1, 1, 1, 0, 1, 0, 0] f29_body)) f29_t1 f29_o1 (blockK 1 (seqK (evalK G run n f29_keep 0 (sub [1, 1, 1, 1] f29_body) (retE G f29_info)) (retE G f29_info))) k1
    ⟨[.any, .any, .val (.pat (.struct [(.struct [(.int .u32), (.blob 32), (.blob 32), (.int .u64)]), (.blob 32), (.int .i64), (.int .i64), (.int .i64), (.int .i64), (.int .i64), (.int .i64)])) none (.agg [.agg [.int x2_1, .blob x2_2, .blob x2_3, .int x2_4], .blob x2_5, .int x2_6, .int x2_7, .int x2_8, .int x2_9, .int x2_10, .int x2_11]), .any, .ptr ⟨(.struct [(.int .i64), (.int .i64)]), 4, 1, []⟩, .val (.slice (.blob 32)) none (.slice x5_1), .any, .any, .any, .any, .any, .any, .any, .any, .any, .any, .any, .any, .any, .any, .any, .any, .val (.slice (.struct [(.struct [(.int .u32), (.blob 32), (.blob 32), (.int .u64)]), (.slice .str)])) none (.slice x22_1), .val (.int .i64) none (.int x23_1), .val (.int .i64) none (.int x24_1), .any, .any, .any, .any, .any, .any, .any, .any, .any, .any, .any, .any, .any, .any, .any, .any, .any, .any, .any, .any, .any, .any, .any, .any, .any, .any, .any, .any, .any, .any, .any, .any, .any, .any, .any, .any, .any], [⟨0, none⟩, ⟨0, none⟩, ⟨0, none⟩, ⟨0, none⟩, ⟨1, some ⟨(.struct [(.int .i64), (.int .i64)]), .agg [.int o4_1, .int o4_2]⟩⟩, ⟨0, none⟩, ⟨0, none⟩, ⟨0, none⟩, ⟨0, none⟩, ⟨0, none⟩, ⟨0, none⟩, ⟨0, none⟩, ⟨0, none⟩, ⟨0, none⟩, ⟨0, none⟩, ⟨0, none⟩, ⟨0, none⟩, ⟨0, none⟩, ⟨0, none⟩, ⟨0, none⟩, ⟨0, none⟩, ⟨0, none⟩, ⟨0, none⟩, ⟨0, none⟩, ⟨0, none⟩, ⟨0, none⟩, ⟨0, none⟩, ⟨0, none⟩, ⟨0, none⟩, ⟨0, none⟩, ⟨0, none⟩, ⟨0, none⟩, ⟨0, none⟩, ⟨0, none⟩, ⟨0, none⟩, ⟨0, none⟩, ⟨0, none⟩, ⟨0, none⟩, ⟨0, none⟩, ⟨0, none⟩, ⟨0, none⟩, ⟨0, none⟩, ⟨0, none⟩, ⟨0, none⟩, ⟨0, none⟩, ⟨0, none⟩, ⟨0, none⟩, ⟨0, none⟩, ⟨0, none⟩, ⟨0, none⟩, ⟨0, none⟩, ⟨0, none⟩, ⟨0, none⟩, ⟨0, none⟩, ⟨0, none⟩, ⟨0, none⟩, ⟨0, none⟩, ⟨0, none⟩, ⟨0, none⟩, ⟨0, none⟩, ⟨0, none⟩, ⟨0, none⟩], List.replicate 62 0⟩
theorem f29_l3_eq (run : Run) (n : Nat) (k1 : Nat) (k3 : Nat) (x2_12 : Int) (x2_13 : List UInt8) (x2_14 : List UInt8) (x2_15 : Int) (x2_16 : List UInt8) (x2_17 : Int) (x2_18 : Int) (x2_19 : Int) (x2_20 : Int) (x2_21 : Int) (x2_22 : Int) (x5_2 : List AV) (x6_1 : Int) (x22_2 : List AV) (x23_2 : Int) (x24_2 : Int) (x40_1 : List AV) (x41_1 : Int) (x42_1 : Int) (o4_3 : Int) (o4_4 : Int) (o7_1 : Int) (o7_2 : List UInt8) (o7_3 : List UInt8) (o7_4 : Int) (o7_5 : List AV) : f29_l3 run n k1 (k3 + 1) x2_12 x2_13 x2_14 x2_15 x2_16 x2_17 x2_18 x2_19 x2_20 x2_21 x2_22 x5_2 x6_1 x22_2 x23_2 x24_2 x40_1 x41_1 x42_1 o4_3 o4_4 o7_1 o7_2 o7_3 o7_4 o7_5 =
  bif ltI x42_1 x41_1 then
    bif inR x42_1 x40_1.length then
    bif Nat.beq ((nth x40_1 (Int.toNat x42_1)).cloF) 57 then
    (run 57 [nth ((nth x40_1 (Int.toNat x42_1)).cloXs) 0]).bind fun r3 =>
    nilV r3.outs (consV r3.vals fun v3 vs3 =>
    nilV vs3 (bif !(eqI v3.toInt 0) then
    some ⟨[.agg [.int v3.toInt, .int x6_1]], [], f29_fresh⟩
  else
    f29_l3 run n k1 k3 x2_12 x2_13 x2_14 x2_15 x2_16 x2_17 x2_18 x2_19 x2_20 x2_21 x2_22 x5_2 x6_1 x22_2 x23_2 x24_2 x40_1 x41_1 (IntKind.wrap .i64 (x42_1 + 1)) o4_3 o4_4 o7_1 o7_2 o7_3 o7_4 o7_5))
  else
    bif Nat.beq ((nth x40_1 (Int.toNat x42_1)).cloF) 58 then
    (run 58 [nth ((nth x40_1 (Int.toNat x42_1)).cloXs) 0]).bind fun r2 =>
    nilV r2.outs (consV r2.vals fun v2 vs2 =>
    nilV vs2 (bif !(eqI v2.toInt 0) then
    some ⟨[.agg [.int v2.toInt, .int x6_1]], [], f29_fresh⟩
  else
    f29_l3 run n k1 k3 x2_12 x2_13 x2_14 x2_15 x2_16 x2_17 x2_18 x2_19 x2_20 x2_21 x2_22 x5_2 x6_1 x22_2 x23_2 x24_2 x40_1 x41_1 (IntKind.wrap .i64 (x42_1 + 1)) o4_3 o4_4 o7_1 o7_2 o7_3 o7_4 o7_5))
  else
    bif Nat.beq ((nth x40_1 (Int.toNat x42_1)).cloF) 59 then
    (run 59 [nth ((nth x40_1 (Int.toNat x42_1)).cloXs) 0]).bind fun r1 =>
    nilV r1.outs (consV r1.vals fun v1 vs1 =>
    nilV vs1 (bif !(eqI v1.toInt 0) then
    some ⟨[.agg [.int v1.toInt, .int x6_1]], [], f29_fresh⟩
  else
    f29_l3 run n k1 k3 x2_12 x2_13 x2_14 x2_15 x2_16 x2_17 x2_18 x2_19 x2_20 x2_21 x2_22 x5_2 x6_1 x22_2 x23_2 x24_2 x40_1 x41_1 (IntKind.wrap .i64 (x42_1 + 1)) o4_3 o4_4 o7_1 o7_2 o7_3 o7_4 o7_5))
  else
    none
  else none
  else
    (run 60 [.blob x2_16, .slice x5_2, .agg [.agg [.int o7_1, .blob o7_2, .blob o7_3, .int o7_4], .slice o7_5], .int x6_1]).bind fun r4 =>
    nilV r4.outs (consV r4.vals fun v4 vs4 =>
    nilV vs4 (f29_l1 run n k1 x2_12 x2_13 x2_14 x2_15 x2_16 x2_17 x2_18 x2_19 x2_20 x2_21 x2_22 v4.toSlice x22_2 x23_2 (IntKind.wrap .i64 (x24_2 + 1)) o4_3 o4_4)) := by kernel_rfl
theorem f29_l1_eq (run : Run) (n : Nat) (k1 : Nat) (x2_1 : Int) (x2_2 : List UInt8) (x2_3 : List UInt8) (x2_4 : Int) (x2_5 : List UInt8) (x2_6 : Int) (x2_7 : Int) (x2_8 : Int) (x2_9 : Int) (x2_10 : Int) (x2_11 : Int) (x5_1 : List AV) (x22_1 : List AV) (x23_1 : Int) (x24_1 : Int) (o4_1 : Int) (o4_2 : Int) : f29_l1 run n (k1 + 1) x2_1 x2_2 x2_3 x2_4 x2_5 x2_6 x2_7 x2_8 x2_9 x2_10 x2_11 x5_1 x22_1 x23_1 x24_1 o4_1 o4_2 =
  bif ltI x24_1 x23_1 then
    bif inR x24_1 x22_1.length then
    f29_l3 run n k1 n x2_1 x2_2 x2_3 x2_4 x2_5 x2_6 x2_7 x2_8 x2_9 x2_10 x2_11 x5_1 x24_1 x22_1 x23_1 x24_1 [.clo 57 [.agg [.agg [.agg [.int x2_1, .blob x2_2, .blob x2_3, .int x2_4], .blob x2_5, .int x2_6, .int x2_7, .int x2_8, .int x2_9, .int x2_10, .int x2_11], .int x24_1, .agg [.agg [.int ((((nth x22_1 (Int.toNat x24_1)).fld 0).fld 0).toInt), .blob ((((nth x22_1 (Int.toNat x24_1)).fld 0).fld 1).toBlob), .blob ((((nth x22_1 (Int.toNat x24_1)).fld 0).fld 2).toBlob), .int ((((nth x22_1 (Int.toNat x24_1)).fld 0).fld 3).toInt)], .slice (((nth x22_1 (Int.toNat x24_1)).fld 1).toSlice)], .slice x5_1]], .clo 58 [.agg [.agg [.agg [.int x2_1, .blob x2_2, .blob x2_3, .int x2_4], .blob x2_5, .int x2_6, .int x2_7, .int x2_8, .int x2_9, .int x2_10, .int x2_11], .int x24_1, .agg [.agg [.int ((((nth x22_1 (Int.toNat x24_1)).fld 0).fld 0).toInt), .blob ((((nth x22_1 (Int.toNat x24_1)).fld 0).fld 1).toBlob), .blob ((((nth x22_1 (Int.toNat x24_1)).fld 0).fld 2).toBlob), .int ((((nth x22_1 (Int.toNat x24_1)).fld 0).fld 3).toInt)], .slice (((nth x22_1 (Int.toNat x24_1)).fld 1).toSlice)], .slice x5_1]], .clo 59 [.agg [.agg [.agg [.int x2_1, .blob x2_2, .blob x2_3, .int x2_4], .blob x2_5, .int x2_6, .int x2_7, .int x2_8, .int x2_9, .int x2_10, .int x2_11], .int x24_1, .agg [.agg [.int ((((nth x22_1 (Int.toNat x24_1)).fld 0).fld 0).toInt), .blob ((((nth x22_1 (Int.toNat x24_1)).fld 0).fld 1).toBlob), .blob ((((nth x22_1 (Int.toNat x24_1)).fld 0).fld 2).toBlob), .int ((((nth x22_1 (Int.toNat x24_1)).fld 0).fld 3).toInt)], .slice (((nth x22_1 (Int.toNat x24_1)).fld 1).toSlice)], .slice x5_1]]] 3 0 o4_1 o4_2 ((((nth x22_1 (Int.toNat x24_1)).fld 0).fld 0).toInt) ((((nth x22_1 (Int.toNat x24_1)).fld 0).fld 1).toBlob) ((((nth x22_1 (Int.toNat x24_1)).fld 0).fld 2).toBlob) ((((nth x22_1 (Int.toNat x24_1)).fld 0).fld 3).toInt) (((nth x22_1 (Int.toNat x24_1)).fld 1).toSlice)
  else none
  else
    some ⟨[.agg [.int 0, .int 0]], [], f29_fresh⟩ := by kernel_rfl
noncomputable def f29 (run : Run) (n : Nat) (a0_1 : Int) (a0_2 : List UInt8) (a0_3 : List UInt8) (a0_4 : Int) (a0_5 : List UInt8) (a0_6 : Int) (a0_7 : Int) (a0_8 : Int) (a0_9 : Int) (a0_10 : Int) (a0_11 : Int) (a1_1 : List AV) : Option Res := evalK G run n f29_info.keep 0 f29_info.body (retE G f29_info) (f29_info.start [.agg [.agg [.int a0_1, .blob a0_2, .blob a0_3, .int a0_4], .blob a0_5, .int a0_6, .int a0_7, .int a0_8, .int a0_9, .int a0_10, .int a0_11], .slice a1_1])
theorem f29_eq (run : Run) (n : Nat) (a0_1 : Int) (a0_2 : List UInt8) (a0_3 : List UInt8) (a0_4 : Int) (a0_5 : List UInt8) (a0_6 : Int) (a0_7 : Int) (a0_8 : Int) (a0_9 : Int) (a0_10 : Int) (a0_11 : Int) (a1_1 : List AV) : f29 run n a0_1 a0_2 a0_3 a0_4 a0_5 a0_6 a0_7 a0_8 a0_9 a0_10 a0_11 a1_1 =
  bif eqI (a1_1.length : Int) 0 then
    some ⟨[.agg [.int 6, .int 0]], [], f29_fresh⟩
  else
    bif ltI 1024 (a1_1.length : Int) then
    some ⟨[.agg [.int 4, .int 1024]], [], f29_fresh⟩
  else
    f29_l1 run n n a0_1 a0_2 a0_3 a0_4 a0_5 a0_6 a0_7 a0_8 a0_9 a0_10 a0_11 [] a1_1 (a1_1.length : Int) 0 0 0 := by kernel_rfl
theorem f29_run (ext : Run) (n : Nat) (a0_1 : Int) (a0_2 : List UInt8) (a0_3 : List UInt8) (a0_4 : Int) (a0_5 : List UInt8) (a0_6 : Int) (a0_7 : Int) (a0_8 : Int) (a0_9 : Int) (a0_10 : Int) (a0_11 : Int) (a1_1 : List AV) : runE G ext (n + 1) 29 [.agg [.agg [.int a0_1, .blob a0_2, .blob a0_3, .int a0_4], .blob a0_5, .int a0_6, .int a0_7, .int a0_8, .int a0_9, .int a0_10, .int a0_11], .slice a1_1] = f29 (runE G ext n) n a0_1 a0_2 a0_3 a0_4 a0_5 a0_6 a0_7 a0_8 a0_9 a0_10 a0_11 a1_1 := runE_succ f29_at f29_in

noncomputable def f30 (run : Run) (n : Nat) : Option Res := evalK G run n f30_info.keep 0 f30_info.body (retE G f30_info) (f30_info.start [])
theorem f30_eq (run : Run) (n : Nat) : f30 run n  =
  (run 61 [.blob [0, 0, 0, 0, 0, 0, 0, 0, 0, 0, 0, 0, 0, 0, 0, 0, 0, 0, 0, 0, 0, 0, 0, 0, 0, 0, 0, 0, 0, 0, 0, 0], .slice []]).bind fun r1 =>
    bif r1.fresh then
    nilV r1.outs (consV r1.vals fun v1 vs1 =>
    nilV vs1 (bif eqI (v1.toSlice.length : Int) 1 then
    bif inR 0 v1.toSlice.length then
    bif eqI (((nth v1.toSlice 0).toSlice).length : Int) 0 then
    (run 29 [.agg [.agg [.int 0, .blob (List.replicate 32 0), .blob (List.replicate 32 0), .int 0], .blob (List.replicate 32 0), .int 0, .int 0, .int 0, .int 0, .int 0, .int 0], .slice []]).bind fun r2 =>
    nilV r2.outs (consV r2.vals fun v2 vs2 =>
    nilV vs2 (some ⟨[.bool (eqI ((v2.fld 0).toInt) 6 && (eqI ((v2.fld 1).toInt) 0 && true))], [], f30_fresh⟩))
  else
    some ⟨[.bool false], [], f30_fresh⟩
  else none
  else
    some ⟨[.bool false], [], f30_fresh⟩))
  else none := by kernel_rfl
theorem f30_run (ext : Run) (n : Nat) : runE G ext (n + 1) 30 [] = f30 (runE G ext n) n  := runE_succ f30_at f30_in

noncomputable def f8 (run : Run) (n : Nat) (a0_1 : Int) (a0_2 : List UInt8) (a0_3 : List UInt8) (a0_4 : Int) (a0_5 : List UInt8) (a0_6 : Int) (a0_7 : Int) (a0_8 : Int) (a0_9 : Int) (a0_10 : Int) (a0_11 : Int) (a1_1 : Int) : Option Res := evalK G run n f8_info.keep 0 f8_info.body (retE G f8_info) (f8_info.start [.agg [.agg [.int a0_1, .blob a0_2, .blob a0_3, .int a0_4], .blob a0_5, .int a0_6, .int a0_7, .int a0_8, .int a0_9, .int a0_10, .int a0_11], .int a1_1])
theorem f8_eq (run : Run) (n : Nat) (a0_1 : Int) (a0_2 : List UInt8) (a0_3 : List UInt8) (a0_4 : Int) (a0_5 : List UInt8) (a0_6 : Int) (a0_7 : Int) (a0_8 : Int) (a0_9 : Int) (a0_10 : Int) (a0_11 : Int) (a1_1 : Int) : f8 run n a0_1 a0_2 a0_3 a0_4 a0_5 a0_6 a0_7 a0_8 a0_9 a0_10 a0_11 a1_1 =
  bif eqI (IntKind.wrap .i64 (1020 + IntKind.wrap .i64 (BitVec.toNat (BitVec.ofInt 64 a1_1 &&& BitVec.ofInt 64 15)))) (IntKind.wrap .i64 (1020 + IntKind.wrap .i64 (BitVec.toNat (BitVec.ofInt 64 a1_1 &&& BitVec.ofInt 64 15)))) && leI 0 (IntKind.wrap .i64 (1020 + IntKind.wrap .i64 (BitVec.toNat (BitVec.ofInt 64 a1_1 &&& BitVec.ofInt 64 15)))) && Nat.ble (Int.toNat (IntKind.wrap .i64 (1020 + IntKind.wrap .i64 (BitVec.toNat (BitVec.ofInt 64 a1_1 &&& BitVec.ofInt 64 15)))) * 104) 140737488355328 then
    (run 29 [.agg [.agg [.int a0_1, .blob a0_2, .blob a0_3, .int a0_4], .blob a0_5, .int a0_6, .int a0_7, .int a0_8, .int a0_9, .int a0_10, .int a0_11], .slice (List.replicate (Int.toNat (IntKind.wrap .i64 (1020 + IntKind.wrap .i64 (BitVec.toNat (BitVec.ofInt 64 a1_1 &&& BitVec.ofInt 64 15))))) (.agg [.agg [.int 0, .blob (List.replicate 32 0), .blob (List.replicate 32 0), .int 0], .slice []]))]).bind fun r1 =>
    nilV r1.outs (consV r1.vals fun v1 vs1 =>
    nilV vs1 (bif ltI 1024 ((List.replicate (Int.toNat (IntKind.wrap .i64 (1020 + IntKind.wrap .i64 (BitVec.toNat (BitVec.ofInt 64 a1_1 &&& BitVec.ofInt 64 15))))) (.agg [.agg [.int 0, .blob (List.replicate 32 0), .blob (List.replicate 32 0), .int 0], .slice []]) : List AV).length : Int) then
    bif (eqI ((v1.fld 0).toInt) 4 && (eqI ((v1.fld 1).toInt) 1024 && true)) then
    (run 30 []).bind fun r2 =>
    nilV r2.outs (consV r2.vals fun v2 vs2 =>
    nilV vs2 (some ⟨[.bool v2.toBool], [], f8_fresh⟩))
  else
    some ⟨[.bool false], [], f8_fresh⟩
  else
    bif !(eqI ((v1.fld 0).toInt) 0 && (eqI ((v1.fld 1).toInt) 0 && true)) then
    bif leI ((v1.fld 1).toInt) 1 then
    (run 30 []).bind fun r3 =>
    nilV r3.outs (consV r3.vals fun v3 vs3 =>
    nilV vs3 (some ⟨[.bool v3.toBool], [], f8_fresh⟩))
  else
    some ⟨[.bool false], [], f8_fresh⟩
  else
    some ⟨[.bool false], [], f8_fresh⟩))
  else none := by kernel_rfl
theorem f8_run (ext : Run) (n : Nat) (a0_1 : Int) (a0_2 : List UInt8) (a0_3 : List UInt8) (a0_4 : Int) (a0_5 : List UInt8) (a0_6 : Int) (a0_7 : Int) (a0_8 : Int) (a0_9 : Int) (a0_10 : Int) (a0_11 : Int) (a1_1 : Int) : runE G ext (n + 1) 8 [.agg [.agg [.int a0_1, .blob a0_2, .blob a0_3, .int a0_4], .blob a0_5, .int a0_6, .int a0_7, .int a0_8, .int a0_9, .int a0_10, .int a0_11], .int a1_1] = f8 (runE G ext n) n a0_1 a0_2 a0_3 a0_4 a0_5 a0_6 a0_7 a0_8 a0_9 a0_10 a0_11 a1_1 := runE_succ f8_at f8_in

noncomputable def f62_l0 (run : Run) (n : Nat) (k0 : Nat) (x0_1 : List AV) (x3_1 : Int) (x4_1 : Int) : Option Res :=
  iterK (evalK G run n f62_keep 0 (sub [1, 1, 0, 1, 0, 0] f62_body)) f62_t0 f62_o0 (blockK 0 (seqK (evalK G run n f62_keep 0 (sub [1, 1, 1] f62_body) (retE G f62_info)) (retE G f62_info))) k0
    ⟨[.val (.slice .str) none (.slice x0_1), .any, .any, .val (.int .i64) none (.int x3_1), .val (.int .i64) none (.int x4_1), .any, .any, .any, .any, .any, .any, .any, .any, .any, .any, .any, .any, .any, .any, .any, .any, .any, .any, .any, .any, .any, .any, .any, .any, .any, .any, .any, .any, .any, .any, .any, .any, .any, .any, .any, .any], [⟨0, none⟩, ⟨0, none⟩, ⟨0, none⟩, ⟨0, none⟩, ⟨0, none⟩, ⟨0, none⟩, ⟨0, none⟩, ⟨0, none⟩, ⟨0, none⟩, ⟨0, none⟩, ⟨0, none⟩, ⟨0, none⟩, ⟨0, none⟩, ⟨0, none⟩, ⟨0, none⟩, ⟨0, none⟩, ⟨0, none⟩, ⟨0, none⟩, ⟨0, none⟩, ⟨0, none⟩, ⟨0, none⟩, ⟨0, none⟩, ⟨0, none⟩, ⟨0, none⟩, ⟨0, none⟩, ⟨0, none⟩, ⟨0, none⟩, ⟨0, none⟩, ⟨0, none⟩, ⟨0, none⟩, ⟨0, none⟩, ⟨0, none⟩, ⟨0, none⟩, ⟨0, none⟩, ⟨0, none⟩, ⟨0, none⟩, ⟨0, none⟩, ⟨0, none⟩, ⟨0, none⟩, ⟨0, none⟩, ⟨0, none⟩], List.replicate 41 0⟩
theorem f62_l0_eq (run : Run) (n : Nat) (k0 : Nat) (x0_1 : List AV) (x3_1 : Int) (x4_1 : Int) : f62_l0 run n (k0 + 1) x0_1 x3_1 x4_1 =
  bif ltI x4_1 (x0_1.length : Int) then
    bif ltI x4_1 1100 then
    bif inR x4_1 x0_1.length then
    f62_l0 run n k0 x0_1 (mn2 (IntKind.wrap .i64 (IntKind.wrap .i64 (x3_1 + 1) + (((nth x0_1 (Int.toNat x4_1)).toStr).length : Int))) 1048576) (IntKind.wrap .i64 (x4_1 + 1))
  else none
  else
    bif ltI 60 (x0_1.length : Int) then
    bif leI (x0_1.length : Int) 1024 then
    some ⟨[.bool true], [], f62_fresh⟩
  else
    bif ltI 1050 (x0_1.length : Int) then
    some ⟨[.bool true], [], f62_fresh⟩
  else
    some ⟨[.bool (ltI 6000 x3_1)], [], f62_fresh⟩
  else
    bif ltI 1050 (x0_1.length : Int) then
    some ⟨[.bool true], [], f62_fresh⟩
  else
    some ⟨[.bool (ltI 6000 x3_1)], [], f62_fresh⟩
  else
    bif ltI 60 (x0_1.length : Int) then
    bif leI (x0_1.length : Int) 1024 then
    some ⟨[.bool true], [], f62_fresh⟩
  else
    bif ltI 1050 (x0_1.length : Int) then
    some ⟨[.bool true], [], f62_fresh⟩
  else
    some ⟨[.bool (ltI 6000 x3_1)], [], f62_fresh⟩
  else
    bif ltI 1050 (x0_1.length : Int) then
    some ⟨[.bool true], [], f62_fresh⟩
  else
    some ⟨[.bool (ltI 6000 x3_1)], [], f62_fresh⟩ := by kernel_rfl
noncomputable def f62 (run : Run) (n : Nat) (a0_1 : List AV) : Option Res := evalK G run n f62_info.keep 0 f62_info.body (retE G f62_info) (f62_info.start [.slice a0_1])
theorem f62_eq (run : Run) (n : Nat) (a0_1 : List AV) : f62 run n a0_1 =
  f62_l0 run n n a0_1 0 0 := by kernel_rfl
theorem f62_run (ext : Run) (n : Nat) (a0_1 : List AV) : runE G ext (n + 1) 62 [.slice a0_1] = f62 (runE G ext n) n a0_1 := runE_succ f62_at f62_in

noncomputable def f31_l0 (run : Run) (n : Nat) (k0 : Nat) (x0_1 : List AV) (x3_1 : Int) (x4_1 : Int) : Option Res :=
  iterK (evalK G run n f31_keep 0 (sub [1, 1, 0, 1, 0, 0] f31_body)) f31_t0 f31_o0 (blockK 0 (seqK (evalK G run n f31_keep 0 (sub [1, 1, 1] f31_body) (retE G f31_info)) (retE G f31_info))) k0
    ⟨[.val (.slice (.struct [(.struct [(.int .u32), (.blob 32), (.blob 32), (.int .u64)]), (.slice .str)])) none (.slice x0_1), .any, .any, .val (.int .i64) none (.int x3_1), .val (.int .i64) none (.int x4_1), .any, .any, .any, .any, .any, .any, .any, .any, .any, .any, .any, .any, .any, .any, .any, .any, .any, .any, .any, .any, .any, .any, .any, .any, .any, .any, .any, .any, .any, .any, .any], [⟨0, none⟩, ⟨0, none⟩, ⟨0, none⟩, ⟨0, none⟩, ⟨0, none⟩, ⟨0, none⟩, ⟨0, none⟩, ⟨0, none⟩, ⟨0, none⟩, ⟨0, none⟩, ⟨0, none⟩, ⟨0, none⟩, ⟨0, none⟩, ⟨0, none⟩, ⟨0, none⟩, ⟨0, none⟩, ⟨0, none⟩, ⟨0, none⟩, ⟨0, none⟩, ⟨0, none⟩, ⟨0, none⟩, ⟨0, none⟩, ⟨0, none⟩, ⟨0, none⟩, ⟨0, none⟩, ⟨0, none⟩, ⟨0, none⟩, ⟨0, none⟩, ⟨0, none⟩, ⟨0, none⟩, ⟨0, none⟩, ⟨0, none⟩, ⟨0, none⟩, ⟨0, none⟩, ⟨0, none⟩, ⟨0, none⟩], List.replicate 36 0⟩
theorem f31_l0_eq (run : Run) (n : Nat) (k0 : Nat) (x0_1 : List AV) (x3_1 : Int) (x4_1 : Int) : f31_l0 run n (k0 + 1) x0_1 x3_1 x4_1 =
  bif ltI x4_1 (x0_1.length : Int) then
    bif ltI x4_1 30 then
    bif inR x4_1 x0_1.length then
    (run 62 [.slice (((nth x0_1 (Int.toNat x4_1)).fld 1).toSlice)]).bind fun r1 =>
    nilV r1.outs (consV r1.vals fun v1 vs1 =>
    nilV vs1 (bif v1.toBool then
    some ⟨[.bool true], [], f31_fresh⟩
  else
    bif inR x4_1 x0_1.length then
    f31_l0 run n k0 x0_1 (IntKind.wrap .i64 (x3_1 + ((((nth x0_1 (Int.toNat x4_1)).fld 1).toSlice).length : Int))) (IntKind.wrap .i64 (x4_1 + 1))
  else none))
  else none
  else
    bif ltI 24 (x0_1.length : Int) then
    some ⟨[.bool true], [], f31_fresh⟩
  else
    some ⟨[.bool (ltI 100 x3_1)], [], f31_fresh⟩
  else
    bif ltI 24 (x0_1.length : Int) then
    some ⟨[.bool true], [], f31_fresh⟩
  else
    some ⟨[.bool (ltI 100 x3_1)], [], f31_fresh⟩ := by kernel_rfl
noncomputable def f31 (run : Run) (n : Nat) (a0_1 : List AV) : Option Res := evalK G run n f31_info.keep 0 f31_info.body (retE G f31_info) (f31_info.start [.slice a0_1])
theorem f31_eq (run : Run) (n : Nat) (a0_1 : List AV) : f31 run n a0_1 =
  f31_l0 run n n a0_1 0 0 := by kernel_rfl
theorem f31_run (ext : Run) (n : Nat) (a0_1 : List AV) : runE G ext (n + 1) 31 [.slice a0_1] = f31 (runE G ext n) n a0_1 := runE_succ f31_at f31_in

noncomputable def f9 (run : Run) (n : Nat) (a0_1 : Int) (a0_2 : List UInt8) (a0_3 : List UInt8) (a0_4 : Int) (a0_5 : List UInt8) (a0_6 : Int) (a0_7 : Int) (a0_8 : Int) (a0_9 : Int) (a0_10 : Int) (a0_11 : Int) (a1_1 : List AV) (a2_1 : Int) : Option Res := evalK G run n f9_info.keep 0 f9_info.body (retE G f9_info) (f9_info.start [.agg [.agg [.int a0_1, .blob a0_2, .blob a0_3, .int a0_4], .blob a0_5, .int a0_6, .int a0_7, .int a0_8, .int a0_9, .int a0_10, .int a0_11], .slice a1_1, .int a2_1])
theorem f9_eq (run : Run) (n : Nat) (a0_1 : Int) (a0_2 : List UInt8) (a0_3 : List UInt8) (a0_4 : Int) (a0_5 : List UInt8) (a0_6 : Int) (a0_7 : Int) (a0_8 : Int) (a0_9 : Int) (a0_10 : Int) (a0_11 : Int) (a1_1 : List AV) (a2_1 : Int) : f9 run n a0_1 a0_2 a0_3 a0_4 a0_5 a0_6 a0_7 a0_8 a0_9 a0_10 a0_11 a1_1 a2_1 =
  (run 31 [.slice a1_1]).bind fun r1 =>
    nilV r1.outs (consV r1.vals fun v1 vs1 =>
    nilV vs1 (bif v1.toBool then
    (run 30 []).bind fun r2 =>
    nilV r2.outs (consV r2.vals fun v2 vs2 =>
    nilV vs2 (some ⟨[.bool v2.toBool], [], f9_fresh⟩))
  else
    bif eqI (a1_1.length : Int) 0 then
    (run 30 []).bind fun r3 =>
    nilV r3.outs (consV r3.vals fun v3 vs3 =>
    nilV vs3 (some ⟨[.bool v3.toBool], [], f9_fresh⟩))
  else
    (run 29 [.agg [.agg [.int a0_1, .blob a0_2, .blob a0_3, .int a0_4], .blob a0_5, .int a0_6, .int a0_7, .int a0_8, .int a0_9, .int a0_10, .int a0_11], .slice a1_1]).bind fun r4 =>
    nilV r4.outs (consV r4.vals fun v4 vs4 =>
    nilV vs4 (bif !(eqI ((v4.fld 0).toInt) 0) then
    bif ltI 0 ((v4.fld 1).toInt) then
    bif boundsOk 0 ((v4.fld 1).toInt) (a1_1.length : Int) (a1_1.length : Int) && true then
    (run 29 [.agg [.agg [.int a0_1, .blob a0_2, .blob a0_3, .int a0_4], .blob a0_5, .int a0_6, .int a0_7, .int a0_8, .int a0_9, .int a0_10, .int a0_11], .slice (List.drop 0 (List.take (Int.toNat ((v4.fld 1).toInt)) a1_1))]).bind fun r5 =>
    nilV r5.outs (consV r5.vals fun v5 vs5 =>
    nilV vs5 (bif !(eqI ((v5.fld 0).toInt) 0) then
    some ⟨[.bool false], [], f9_fresh⟩
  else
    bif !(eqI (IntKind.wrap .u64 (IntKind.wrap .i64 ((v4.fld 1).toInt + 1))) 0) then
    bif eqI (IntKind.wrap .i64 (Int.tmod (IntKind.wrap .u64 a2_1) (IntKind.wrap .u64 (IntKind.wrap .i64 ((v4.fld 1).toInt + 1))))) 0 then
    (run 30 []).bind fun r6 =>
    nilV r6.outs (consV r6.vals fun v6 vs6 =>
    nilV vs6 (some ⟨[.bool v6.toBool], [], f9_fresh⟩))
  else
    bif boundsOk 0 (IntKind.wrap .i64 (Int.tmod (IntKind.wrap .u64 a2_1) (IntKind.wrap .u64 (IntKind.wrap .i64 ((v4.fld 1).toInt + 1))))) (a1_1.length : Int) (a1_1.length : Int) && true then
    (run 29 [.agg [.agg [.int a0_1, .blob a0_2, .blob a0_3, .int a0_4], .blob a0_5, .int a0_6, .int a0_7, .int a0_8, .int a0_9, .int a0_10, .int a0_11], .slice (List.drop 0 (List.take (Int.toNat (IntKind.wrap .i64 (Int.tmod (IntKind.wrap .u64 a2_1) (IntKind.wrap .u64 (IntKind.wrap .i64 ((v4.fld 1).toInt + 1)))))) a1_1))]).bind fun r7 =>
    nilV r7.outs (consV r7.vals fun v7 vs7 =>
    nilV vs7 (bif eqI ((v7.fld 0).toInt) 0 then
    (run 30 []).bind fun r8 =>
    nilV r8.outs (consV r8.vals fun v8 vs8 =>
    nilV vs8 (some ⟨[.bool v8.toBool], [], f9_fresh⟩))
  else
    some ⟨[.bool false], [], f9_fresh⟩))
  else none
  else none))
  else none
  else
    bif !(eqI (IntKind.wrap .u64 (IntKind.wrap .i64 ((v4.fld 1).toInt + 1))) 0) then
    bif eqI (IntKind.wrap .i64 (Int.tmod (IntKind.wrap .u64 a2_1) (IntKind.wrap .u64 (IntKind.wrap .i64 ((v4.fld 1).toInt + 1))))) 0 then
    (run 30 []).bind fun r9 =>
    nilV r9.outs (consV r9.vals fun v9 vs9 =>
    nilV vs9 (some ⟨[.bool v9.toBool], [], f9_fresh⟩))
  else
    bif boundsOk 0 (IntKind.wrap .i64 (Int.tmod (IntKind.wrap .u64 a2_1) (IntKind.wrap .u64 (IntKind.wrap .i64 ((v4.fld 1).toInt + 1))))) (a1_1.length : Int) (a1_1.length : Int) && true then
    (run 29 [.agg [.agg [.int a0_1, .blob a0_2, .blob a0_3, .int a0_4], .blob a0_5, .int a0_6, .int a0_7, .int a0_8, .int a0_9, .int a0_10, .int a0_11], .slice (List.drop 0 (List.take (Int.toNat (IntKind.wrap .i64 (Int.tmod (IntKind.wrap .u64 a2_1) (IntKind.wrap .u64 (IntKind.wrap .i64 ((v4.fld 1).toInt + 1)))))) a1_1))]).bind fun r10 =>
    nilV r10.outs (consV r10.vals fun v10 vs10 =>
    nilV vs10 (bif eqI ((v10.fld 0).toInt) 0 then
    (run 30 []).bind fun r11 =>
    nilV r11.outs (consV r11.vals fun v11 vs11 =>
    nilV vs11 (some ⟨[.bool v11.toBool], [], f9_fresh⟩))
  else
    some ⟨[.bool false], [], f9_fresh⟩))
  else none
  else none
  else
    bif ltI 0 (a1_1.length : Int) then
    bif boundsOk 0 (a1_1.length : Int) (a1_1.length : Int) (a1_1.length : Int) && true then
    (run 29 [.agg [.agg [.int a0_1, .blob a0_2, .blob a0_3, .int a0_4], .blob a0_5, .int a0_6, .int a0_7, .int a0_8, .int a0_9, .int a0_10, .int a0_11], .slice (List.drop 0 (List.take (Int.toNat (a1_1.length : Int)) a1_1))]).bind fun r12 =>
    nilV r12.outs (consV r12.vals fun v12 vs12 =>
    nilV vs12 (bif !(eqI ((v12.fld 0).toInt) 0) then
    some ⟨[.bool false], [], f9_fresh⟩
  else
    bif !(eqI (IntKind.wrap .u64 (IntKind.wrap .i64 ((a1_1.length : Int) + 1))) 0) then
    bif eqI (IntKind.wrap .i64 (Int.tmod (IntKind.wrap .u64 a2_1) (IntKind.wrap .u64 (IntKind.wrap .i64 ((a1_1.length : Int) + 1))))) 0 then
    (run 30 []).bind fun r13 =>
    nilV r13.outs (consV r13.vals fun v13 vs13 =>
    nilV vs13 (some ⟨[.bool v13.toBool], [], f9_fresh⟩))
  else
    bif boundsOk 0 (IntKind.wrap .i64 (Int.tmod (IntKind.wrap .u64 a2_1) (IntKind.wrap .u64 (IntKind.wrap .i64 ((a1_1.length : Int) + 1))))) (a1_1.length : Int) (a1_1.length : Int) && true then
    (run 29 [.agg [.agg [.int a0_1, .blob a0_2, .blob a0_3, .int a0_4], .blob a0_5, .int a0_6, .int a0_7, .int a0_8, .int a0_9, .int a0_10, .int a0_11], .slice (List.drop 0 (List.take (Int.toNat (IntKind.wrap .i64 (Int.tmod (IntKind.wrap .u64 a2_1) (IntKind.wrap .u64 (IntKind.wrap .i64 ((a1_1.length : Int) + 1)))))) a1_1))]).bind fun r14 =>
    nilV r14.outs (consV r14.vals fun v14 vs14 =>
    nilV vs14 (bif eqI ((v14.fld 0).toInt) 0 then
    (run 30 []).bind fun r15 =>
    nilV r15.outs (consV r15.vals fun v15 vs15 =>
    nilV vs15 (some ⟨[.bool v15.toBool], [], f9_fresh⟩))
  else
    some ⟨[.bool false], [], f9_fresh⟩))
  else none
  else none))
  else none
  else
    bif !(eqI (IntKind.wrap .u64 (IntKind.wrap .i64 ((a1_1.length : Int) + 1))) 0) then
    bif eqI (IntKind.wrap .i64 (Int.tmod (IntKind.wrap .u64 a2_1) (IntKind.wrap .u64 (IntKind.wrap .i64 ((a1_1.length : Int) + 1))))) 0 then
    (run 30 []).bind fun r16 =>
    nilV r16.outs (consV r16.vals fun v16 vs16 =>
    nilV vs16 (some ⟨[.bool v16.toBool], [], f9_fresh⟩))
  else
    bif boundsOk 0 (IntKind.wrap .i64 (Int.tmod (IntKind.wrap .u64 a2_1) (IntKind.wrap .u64 (IntKind.wrap .i64 ((a1_1.length : Int) + 1))))) (a1_1.length : Int) (a1_1.length : Int) && true then
    (run 29 [.agg [.agg [.int a0_1, .blob a0_2, .blob a0_3, .int a0_4], .blob a0_5, .int a0_6, .int a0_7, .int a0_8, .int a0_9, .int a0_10, .int a0_11], .slice (List.drop 0 (List.take (Int.toNat (IntKind.wrap .i64 (Int.tmod (IntKind.wrap .u64 a2_1) (IntKind.wrap .u64 (IntKind.wrap .i64 ((a1_1.length : Int) + 1)))))) a1_1))]).bind fun r17 =>
    nilV r17.outs (consV r17.vals fun v17 vs17 =>
    nilV vs17 (bif eqI ((v17.fld 0).toInt) 0 then
    (run 30 []).bind fun r18 =>
    nilV r18.outs (consV r18.vals fun v18 vs18 =>
    nilV vs18 (some ⟨[.bool v18.toBool], [], f9_fresh⟩))
  else
    some ⟨[.bool false], [], f9_fresh⟩))
  else none
  else none)))) := by kernel_rfl
theorem f9_run (ext : Run) (n : Nat) (a0_1 : Int) (a0_2 : List UInt8) (a0_3 : List UInt8) (a0_4 : Int) (a0_5 : List UInt8) (a0_6 : Int) (a0_7 : Int) (a0_8 : Int) (a0_9 : Int) (a0_10 : Int) (a0_11 : Int) (a1_1 : List AV) (a2_1 : Int) : runE G ext (n + 1) 9 [.agg [.agg [.int a0_1, .blob a0_2, .blob a0_3, .int a0_4], .blob a0_5, .int a0_6, .int a0_7, .int a0_8, .int a0_9, .int a0_10, .int a0_11], .slice a1_1, .int a2_1] = f9 (runE G ext n) n a0_1 a0_2 a0_3 a0_4 a0_5 a0_6 a0_7 a0_8 a0_9 a0_10 a0_11 a1_1 a2_1 := runE_succ f9_at f9_in

end Go.Proofs.Ytddcooedbibehaa.Ev
