/- What the evaluator does with the functions, as programs over plain values: printed by gen.py, checked by the kernel. -/
import Derived.Test.YtogehijjhibdkaaGreatEvFA
namespace Go.Proofs.YtogehijjhibdkaaGreat.Ev
open Go Go.RowKit
set_option maxRecDepth 100000


noncomputable def f70_l0 (run : Run) (n : Nat) (k0 : Nat) (x34_1 : List AV) (x35_1 : Int) (x36_1 : Int) (o3_1 : List UInt8) (o5_1 : Int) (o5_2 : List AV) (o5_3 : Int) (o5_4 : Int) (o5_5 : List AV) (o5_6 : Int) (o5_7 : List UInt8) (o5_8 : Int) (o5_9 : Int) (o5_10 : List AV) (o7_1 : Int) (o7_2 : List UInt8) (o7_3 : List UInt8) (o7_4 : Int) (o8_1 : Int) (o8_2 : List UInt8) (o8_3 : List UInt8) (o8_4 : Int) : Option Res :=
  iterK (evalK G run n f70_keep 0 (sub [1, 1, 1, 0, 1, 0, 0] f70_body)) f70_t0 f70_o0 (blockK 0 (seqK (evalK G run n f70_keep 0 (sub [1, 1, 1, 1] f70_body) (retE G f70_info)) (retE G f70_info))) k0
    ⟨[.any, .any, .any, .ptr ⟨(.blob 32), 3, 1, []⟩, .any, .ptr ⟨(.struct [(.int .i64), (.slice (.struct [(.struct [(.int .u32), (.blob 32), (.blob 32), (.int .u64)]), (.struct [(.int .i64), (.int .i64), (.slice (.blob 32))])])), (.struct [(.int .i64), (.int .i64), (.slice (.blob 32))]), (.int .i64), .str, (.struct [(.int .i64), (.int .i64), (.slice (.blob 32))])]), 5, 1, []⟩, .any, .ptr ⟨(.struct [(.int .u32), (.blob 32), (.blob 32), (.int .u64)]), 7, 1, []⟩, .ptr ⟨(.struct [(.int .u32), (.blob 32), (.blob 32), (.int .u64)]), 8, 1, []⟩, .any, .any, .any, .any, .any, .any, .any, .any, .any, .any, .any, .any, .any, .any, .any, .any, .any, .any, .any, .any, .any, .any, .any, .any, .any, .val (.slice (.struct [(.struct [(.int .u32), (.blob 32), (.blob 32), (.int .u64)]), (.struct [(.int .i64), (.int .i64), (.slice (.blob 32))])])) none (.slice x34_1), .val (.int .i64) none (.int x35_1), .val (.int .i64) none (.int x36_1), .any, .any, .any, .any, .any, .any, .any, .any, .any, .any, .any, .any, .any, .any, .any, .any, .any, .any, .any, .any, .any, .any], [⟨0, none⟩, ⟨0, none⟩, ⟨0, none⟩, ⟨1, some ⟨(.blob 32), .blob o3_1⟩⟩, ⟨0, none⟩, ⟨1, some ⟨(.struct [(.int .i64), (.slice (.struct [(.struct [(.int .u32), (.blob 32), (.blob 32), (.int .u64)]), (.struct [(.int .i64), (.int .i64), (.slice (.blob 32))])])), (.struct [(.int .i64), (.int .i64), (.slice (.blob 32))]), (.int .i64), .str, (.struct [(.int .i64), (.int .i64), (.slice (.blob 32))])]), .agg [.int o5_1, .slice o5_2, .agg [.int o5_3, .int o5_4, .slice o5_5], .int o5_6, .str o5_7, .agg [.int o5_8, .int o5_9, .slice o5_10]]⟩⟩, ⟨0, none⟩, ⟨1, some ⟨(.struct [(.int .u32), (.blob 32), (.blob 32), (.int .u64)]), .agg [.int o7_1, .blob o7_2, .blob o7_3, .int o7_4]⟩⟩, ⟨1, some ⟨(.struct [(.int .u32), (.blob 32), (.blob 32), (.int .u64)]), .agg [.int o8_1, .blob o8_2, .blob o8_3, .int o8_4]⟩⟩, ⟨0, none⟩, ⟨0, none⟩, ⟨0, none⟩, ⟨0, none⟩, ⟨0, none⟩, ⟨0, none⟩, ⟨0, none⟩, ⟨0, none⟩, ⟨0, none⟩, ⟨0, none⟩, ⟨0, none⟩, ⟨0, none⟩, ⟨0, none⟩, ⟨0, none⟩, ⟨0, none⟩, ⟨0, none⟩, ⟨0, none⟩, ⟨0, none⟩, ⟨0, none⟩, ⟨0, none⟩, ⟨0, none⟩, ⟨0, none⟩, ⟨0, none⟩, ⟨0, none⟩, ⟨0, none⟩, ⟨0, none⟩, ⟨0, none⟩, ⟨0, none⟩, ⟨0, none⟩, ⟨0, none⟩, ⟨0, none⟩, ⟨0, none⟩, ⟨0, none⟩, ⟨0, none⟩, ⟨0, none⟩, ⟨0, none⟩, ⟨0, none⟩, ⟨0, none⟩, ⟨0, none⟩, ⟨0, none⟩, ⟨0, none⟩, ⟨0, none⟩, ⟨0, none⟩, ⟨0, none⟩, ⟨0, none⟩, ⟨0, none⟩, ⟨0, none⟩, ⟨0, none⟩, ⟨0, none⟩, ⟨0, none⟩], List.replicate 59 0⟩
theorem f70_l0_eq (run : Run) (n : Nat) (k0 : Nat) (x34_1 : List AV) (x35_1 : Int) (x36_1 : Int) (o3_1 : List UInt8) (o5_1 : Int) (o5_2 : List AV) (o5_3 : Int) (o5_4 : Int) (o5_5 : List AV) (o5_6 : Int) (o5_7 : List UInt8) (o5_8 : Int) (o5_9 : Int) (o5_10 : List AV) (o7_1 : Int) (o7_2 : List UInt8) (o7_3 : List UInt8) (o7_4 : Int) (o8_1 : Int) (o8_2 : List UInt8) (o8_3 : List UInt8) (o8_4 : Int) : f70_l0 run n (k0 + 1) x34_1 x35_1 x36_1 o3_1 o5_1 o5_2 o5_3 o5_4 o5_5 o5_6 o5_7 o5_8 o5_9 o5_10 o7_1 o7_2 o7_3 o7_4 o8_1 o8_2 o8_3 o8_4 =
  bif ltI x36_1 x35_1 then
    bif inR x36_1 x34_1.length then
    (run 109 [.blob o3_1, .agg [.agg [.int ((((nth x34_1 (Int.toNat x36_1)).fld 0).fld 0).toInt), .blob ((((nth x34_1 (Int.toNat x36_1)).fld 0).fld 1).toBlob), .blob ((((nth x34_1 (Int.toNat x36_1)).fld 0).fld 2).toBlob), .int ((((nth x34_1 (Int.toNat x36_1)).fld 0).fld 3).toInt)], .agg [.int ((((nth x34_1 (Int.toNat x36_1)).fld 1).fld 0).toInt), .int ((((nth x34_1 (Int.toNat x36_1)).fld 1).fld 1).toInt), .slice ((((nth x34_1 (Int.toNat x36_1)).fld 1).fld 2).toSlice)]], .agg [.int o7_1, .blob o7_2, .blob o7_3, .int o7_4], .int o8_1]).bind fun r2 =>
    nilV r2.outs (consV r2.vals fun v2 vs2 =>
    nilV vs2 (bif !(eqI v2.toInt 0) then
    some ⟨[.int v2.toInt], [], f70_fresh⟩
  else
    f70_l0 run n k0 x34_1 x35_1 (IntKind.wrap .i64 (x36_1 + 1)) o3_1 o5_1 o5_2 o5_3 o5_4 o5_5 o5_6 o5_7 o5_8 o5_9 o5_10 ((((nth x34_1 (Int.toNat x36_1)).fld 0).fld 0).toInt) ((((nth x34_1 (Int.toNat x36_1)).fld 0).fld 1).toBlob) ((((nth x34_1 (Int.toNat x36_1)).fld 0).fld 2).toBlob) ((((nth x34_1 (Int.toNat x36_1)).fld 0).fld 3).toInt) o8_1 o8_2 o8_3 o8_4))
  else none
  else
    (run 107 [.agg [.agg [.int o8_1, .blob o8_2, .blob o8_3, .int o8_4], .agg [.int o5_3, .int o5_4, .slice o5_5]], .agg [.int o7_1, .blob o7_2, .blob o7_3, .int o7_4]]).bind fun r3 =>
    nilV r3.outs (consV r3.vals fun v3 vs3 =>
    nilV vs3 (bif !v3.toBool then
    some ⟨[.int 10], [], f70_fresh⟩
  else
    some ⟨[.int 0], [], f70_fresh⟩)) := by kernel_rfl
noncomputable def f70 (run : Run) (n : Nat) (a0_1 : List UInt8) (a1_1 : List AV) (a2_1 : Int) (a2_2 : List AV) (a2_3 : Int) (a2_4 : Int) (a2_5 : List AV) (a2_6 : Int) (a2_7 : List UInt8) (a2_8 : Int) (a2_9 : Int) (a2_10 : List AV) : Option Res := evalK G run n f70_info.keep 0 f70_info.body (retE G f70_info) (f70_info.start [.blob a0_1, .slice a1_1, .agg [.int a2_1, .slice a2_2, .agg [.int a2_3, .int a2_4, .slice a2_5], .int a2_6, .str a2_7, .agg [.int a2_8, .int a2_9, .slice a2_10]]])
theorem f70_eq (run : Run) (n : Nat) (a0_1 : List UInt8) (a1_1 : List AV) (a2_1 : Int) (a2_2 : List AV) (a2_3 : Int) (a2_4 : Int) (a2_5 : List AV) (a2_6 : Int) (a2_7 : List UInt8) (a2_8 : Int) (a2_9 : Int) (a2_10 : List AV) : f70 run n a0_1 a1_1 a2_1 a2_2 a2_3 a2_4 a2_5 a2_6 a2_7 a2_8 a2_9 a2_10 =
  bif eqI (a2_2.length : Int) 0 then
    (run 103 [.agg [.int a2_3, .int a2_4, .slice a2_5]]).bind fun r1 =>
    nilV r1.outs (consV r1.vals fun v1 vs1 =>
    nilV vs1 (bif !v1.toBool then
    some ⟨[.int 2], [], f70_fresh⟩
  else
    some ⟨[.int 0], [], f70_fresh⟩))
  else
    bif inR (IntKind.wrap .i64 (a2_1 - 1)) a1_1.length then
    bif inR a2_1 a1_1.length then
    f70_l0 run n n a2_2 (a2_2.length : Int) 0 a0_1 a2_1 a2_2 a2_3 a2_4 a2_5 a2_6 a2_7 a2_8 a2_9 a2_10 ((((nth a1_1 (Int.toNat (IntKind.wrap .i64 (a2_1 - 1)))).fld 0).fld 0).toInt) ((((nth a1_1 (Int.toNat (IntKind.wrap .i64 (a2_1 - 1)))).fld 0).fld 1).toBlob) ((((nth a1_1 (Int.toNat (IntKind.wrap .i64 (a2_1 - 1)))).fld 0).fld 2).toBlob) ((((nth a1_1 (Int.toNat (IntKind.wrap .i64 (a2_1 - 1)))).fld 0).fld 3).toInt) ((((nth a1_1 (Int.toNat a2_1)).fld 0).fld 0).toInt) ((((nth a1_1 (Int.toNat a2_1)).fld 0).fld 1).toBlob) ((((nth a1_1 (Int.toNat a2_1)).fld 0).fld 2).toBlob) ((((nth a1_1 (Int.toNat a2_1)).fld 0).fld 3).toInt)
  else none
  else none := by kernel_rfl
theorem f70_run (ext : Run) (n : Nat) (a0_1 : List UInt8) (a1_1 : List AV) (a2_1 : Int) (a2_2 : List AV) (a2_3 : Int) (a2_4 : Int) (a2_5 : List AV) (a2_6 : Int) (a2_7 : List UInt8) (a2_8 : Int) (a2_9 : Int) (a2_10 : List AV) : runE G ext (n + 1) 70 [.blob a0_1, .slice a1_1, .agg [.int a2_1, .slice a2_2, .agg [.int a2_3, .int a2_4, .slice a2_5], .int a2_6, .str a2_7, .agg [.int a2_8, .int a2_9, .slice a2_10]]] = f70 (runE G ext n) n a0_1 a1_1 a2_1 a2_2 a2_3 a2_4 a2_5 a2_6 a2_7 a2_8 a2_9 a2_10 := runE_succ f70_at f70_in

noncomputable def f111 (run : Run) (n : Nat) (a0_1 : List UInt8) : Option Res := evalK G run n f111_info.keep 0 f111_info.body (retE G f111_info) (f111_info.start [.str a0_1])
theorem f111_eq (run : Run) (n : Nat) (a0_1 : List UInt8) : f111 run n a0_1 =
  bif Nat.ble (1 + a0_1.length) maxLen then
    some ⟨[.str ([84] ++ a0_1)], [], f111_fresh⟩
  else none := by kernel_rfl
theorem f111_run (ext : Run) (n : Nat) (a0_1 : List UInt8) : runE G ext (n + 1) 111 [.str a0_1] = f111 (runE G ext n) n a0_1 := runE_succ f111_at f111_in

noncomputable def f71 (run : Run) (n : Nat) (a0_1 : List UInt8) (a1_1 : List UInt8) (a2_1 : Int) (a2_2 : Int) (a2_3 : List AV) : Option Res := evalK G run n f71_info.keep 0 f71_info.body (retE G f71_info) (f71_info.start [.blob a0_1, .str a1_1, .agg [.int a2_1, .int a2_2, .slice a2_3]])
theorem f71_eq (run : Run) (n : Nat) (a0_1 : List UInt8) (a1_1 : List UInt8) (a2_1 : Int) (a2_2 : Int) (a2_3 : List AV) : f71 run n a0_1 a1_1 a2_1 a2_2 a2_3 =
  bif leI a2_2 1024 then
    bif leI (a1_1.length : Int) 4096 then
    (run 111 [.str a1_1]).bind fun r1 =>
    nilV r1.outs (consV r1.vals fun v1 vs1 =>
    nilV vs1 ((run 110 [.blob a0_1, .str v1.toStr, .agg [.int a2_1, .int a2_2, .slice a2_3]]).bind fun r2 =>
    nilV r2.outs (consV r2.vals fun v2 vs2 =>
    nilV vs2 (some ⟨[.bool v2.toBool], [], f71_fresh⟩))))
  else
    some ⟨[.bool false], [], f71_fresh⟩
  else
    some ⟨[.bool false], [], f71_fresh⟩ := by kernel_rfl
theorem f71_run (ext : Run) (n : Nat) (a0_1 : List UInt8) (a1_1 : List UInt8) (a2_1 : Int) (a2_2 : Int) (a2_3 : List AV) : runE G ext (n + 1) 71 [.blob a0_1, .str a1_1, .agg [.int a2_1, .int a2_2, .slice a2_3]] = f71 (runE G ext n) n a0_1 a1_1 a2_1 a2_2 a2_3 := runE_succ f71_at f71_in

noncomputable def f36 (run : Run) (n : Nat) (a0_1 : List UInt8) (a1_1 : List AV) (a2_1 : Int) (a2_2 : List AV) (a2_3 : Int) (a2_4 : Int) (a2_5 : List AV) (a2_6 : Int) (a2_7 : List UInt8) (a2_8 : Int) (a2_9 : Int) (a2_10 : List AV) : Option Res := evalK G run n f36_info.keep 0 f36_info.body (retE G f36_info) (f36_info.start [.blob a0_1, .slice a1_1, .agg [.int a2_1, .slice a2_2, .agg [.int a2_3, .int a2_4, .slice a2_5], .int a2_6, .str a2_7, .agg [.int a2_8, .int a2_9, .slice a2_10]]])
theorem f36_eq (run : Run) (n : Nat) (a0_1 : List UInt8) (a1_1 : List AV) (a2_1 : Int) (a2_2 : List AV) (a2_3 : Int) (a2_4 : Int) (a2_5 : List AV) (a2_6 : Int) (a2_7 : List UInt8) (a2_8 : Int) (a2_9 : Int) (a2_10 : List AV) : f36 run n a0_1 a1_1 a2_1 a2_2 a2_3 a2_4 a2_5 a2_6 a2_7 a2_8 a2_9 a2_10 =
  (run 69 [.int (a1_1.length : Int), .agg [.int a2_1, .slice a2_2, .agg [.int a2_3, .int a2_4, .slice a2_5], .int a2_6, .str a2_7, .agg [.int a2_8, .int a2_9, .slice a2_10]]]).bind fun r1 =>
    nilV r1.outs (consV r1.vals fun v1 vs1 =>
    nilV vs1 (bif !(eqI v1.toInt 0) then
    some ⟨[.int v1.toInt], [], f36_fresh⟩
  else
    (run 70 [.blob a0_1, .slice a1_1, .agg [.int a2_1, .slice a2_2, .agg [.int a2_3, .int a2_4, .slice a2_5], .int a2_6, .str a2_7, .agg [.int a2_8, .int a2_9, .slice a2_10]]]).bind fun r2 =>
    nilV r2.outs (consV r2.vals fun v2 vs2 =>
    nilV vs2 (bif !(eqI v2.toInt 0) then
    some ⟨[.int v2.toInt], [], f36_fresh⟩
  else
    (run 35 [.slice a1_1, .agg [.int a2_1, .slice a2_2, .agg [.int a2_3, .int a2_4, .slice a2_5], .int a2_6, .str a2_7, .agg [.int a2_8, .int a2_9, .slice a2_10]]]).bind fun r3 =>
    nilV r3.outs (consV r3.vals fun v3 vs3 =>
    consV vs3 fun _v4 vs4 =>
    nilV vs4 ((run 71 [.blob ((v3.fld 2).toBlob), .str a2_7, .agg [.int a2_8, .int a2_9, .slice a2_10]]).bind fun r4 =>
    nilV r4.outs (consV r4.vals fun v5 vs5 =>
    nilV vs5 (bif !v5.toBool then
    some ⟨[.int 14], [], f36_fresh⟩
  else
    some ⟨[.int 0], [], f36_fresh⟩)))))))) := by kernel_rfl
theorem f36_run (ext : Run) (n : Nat) (a0_1 : List UInt8) (a1_1 : List AV) (a2_1 : Int) (a2_2 : List AV) (a2_3 : Int) (a2_4 : Int) (a2_5 : List AV) (a2_6 : Int) (a2_7 : List UInt8) (a2_8 : Int) (a2_9 : Int) (a2_10 : List AV) : runE G ext (n + 1) 36 [.blob a0_1, .slice a1_1, .agg [.int a2_1, .slice a2_2, .agg [.int a2_3, .int a2_4, .slice a2_5], .int a2_6, .str a2_7, .agg [.int a2_8, .int a2_9, .slice a2_10]]] = f36 (runE G ext n) n a0_1 a1_1 a2_1 a2_2 a2_3 a2_4 a2_5 a2_6 a2_7 a2_8 a2_9 a2_10 := runE_succ f36_at f36_in

noncomputable def f34 (run : Run) (n : Nat) : Option Res := evalK G run n f34_info.keep 0 f34_info.body (retE G f34_info) (f34_info.start [])
theorem f34_eq (run : Run) (n : Nat) : f34 run n  =
  (run 35 [.slice [.agg [.agg [.int 0, .blob (List.replicate 32 0), .blob (List.replicate 32 0), .int 7], .agg [.int 0, .int 0, .slice []]]], .agg [.int 0, .slice [], .agg [.int 0, .int 0, .slice []], .int 0, .str [], .agg [.int 0, .int 0, .slice []]]]).bind fun r1 =>
    nilV r1.outs (consV r1.vals fun v1 vs1 =>
    consV vs1 fun v2 vs2 =>
    nilV vs2 ((run 36 [.blob [0, 0, 0, 0, 0, 0, 0, 0, 0, 0, 0, 0, 0, 0, 0, 0, 0, 0, 0, 0, 0, 0, 0, 0, 0, 0, 0, 0, 0, 0, 0, 0], .slice [], .agg [.int 0, .slice [], .agg [.int 0, .int 0, .slice []], .int 0, .str [], .agg [.int 0, .int 0, .slice []]]]).bind fun r2 =>
    nilV r2.outs (consV r2.vals fun v3 vs3 =>
    nilV vs3 (bif eqI v3.toInt 15 then
    bif v2.toBool then
    some ⟨[.bool (eqI ((v1.fld 3).toInt) 7)], [], f34_fresh⟩
  else
    some ⟨[.bool false], [], f34_fresh⟩
  else
    some ⟨[.bool false], [], f34_fresh⟩)))) := by kernel_rfl
theorem f34_run (ext : Run) (n : Nat) : runE G ext (n + 1) 34 [] = f34 (runE G ext n) n  := runE_succ f34_at f34_in

noncomputable def f38 (run : Run) (n : Nat) (a0_1 : Int) (a1_1 : Int) : Option Res := evalK G run n f38_info.keep 0 f38_info.body (retE G f38_info) (f38_info.start [.int a0_1, .int a1_1])
theorem f38_eq (run : Run) (n : Nat) (a0_1 : Int) (a1_1 : Int) : f38 run n a0_1 a1_1 =
  bif ltI 0 a0_1 then
    bif ltI a0_1 a1_1 then
    some ⟨[.bool (leI a1_1 65536)], [], f38_fresh⟩
  else
    some ⟨[.bool false], [], f38_fresh⟩
  else
    some ⟨[.bool false], [], f38_fresh⟩ := by kernel_rfl
theorem f38_run (ext : Run) (n : Nat) (a0_1 : Int) (a1_1 : Int) : runE G ext (n + 1) 38 [.int a0_1, .int a1_1] = f38 (runE G ext n) n a0_1 a1_1 := runE_succ f38_at f38_in

noncomputable def f10 (run : Run) (n : Nat) (a0_1 : Int) (a1_1 : Int) (a2_1 : Int) (a3_1 : Int) : Option Res := evalK G run n f10_info.keep 0 f10_info.body (retE G f10_info) (f10_info.start [.int a0_1, .int a1_1, .int a2_1, .int a3_1])
theorem f10_eq (run : Run) (n : Nat) (a0_1 : Int) (a1_1 : Int) (a2_1 : Int) (a3_1 : Int) : f10 run n a0_1 a1_1 a2_1 a3_1 =
  bif leI 1 a0_1 then
    bif leI a0_1 1024 then
    bif leI 1 a1_1 then
    bif leI a1_1 1024 then
    (run 38 [.int a2_1, .int a3_1]).bind fun r1 =>
    nilV r1.outs (consV r1.vals fun v1 vs1 =>
    nilV vs1 (some ⟨[.bool v1.toBool], [], f10_fresh⟩))
  else
    some ⟨[.bool false], [], f10_fresh⟩
  else
    some ⟨[.bool false], [], f10_fresh⟩
  else
    some ⟨[.bool false], [], f10_fresh⟩
  else
    some ⟨[.bool false], [], f10_fresh⟩ := by kernel_rfl
theorem f10_run (ext : Run) (n : Nat) (a0_1 : Int) (a1_1 : Int) (a2_1 : Int) (a3_1 : Int) : runE G ext (n + 1) 10 [.int a0_1, .int a1_1, .int a2_1, .int a3_1] = f10 (runE G ext n) n a0_1 a1_1 a2_1 a3_1 := runE_succ f10_at f10_in

noncomputable def f44 (run : Run) (n : Nat) (a0_1 : Int) (a0_2 : List UInt8) (a0_3 : List UInt8) (a0_4 : Int) (a0_5 : List AV) : Option Res := evalK G run n f44_info.keep 0 f44_info.body (retE G f44_info) (f44_info.start [.agg [.agg [.int a0_1, .blob a0_2, .blob a0_3, .int a0_4], .slice a0_5]])
theorem f44_eq (run : Run) (n : Nat) (a0_1 : Int) (a0_2 : List UInt8) (a0_3 : List UInt8) (a0_4 : Int) (a0_5 : List AV) : f44 run n a0_1 a0_2 a0_3 a0_4 a0_5 =
  (run 79 [.agg [.int a0_1, .blob a0_2, .blob a0_3, .int a0_4]]).bind fun r1 =>
    nilV r1.outs (consV r1.vals fun v1 vs1 =>
    nilV vs1 (some ⟨[.blob v1.toBlob], [], f44_fresh⟩)) := by kernel_rfl
theorem f44_run (ext : Run) (n : Nat) (a0_1 : Int) (a0_2 : List UInt8) (a0_3 : List UInt8) (a0_4 : Int) (a0_5 : List AV) : runE G ext (n + 1) 44 [.agg [.agg [.int a0_1, .blob a0_2, .blob a0_3, .int a0_4], .slice a0_5]] = f44 (runE G ext n) n a0_1 a0_2 a0_3 a0_4 a0_5 := runE_succ f44_at f44_in

noncomputable def f41 (run : Run) (n : Nat) (a0_1 : Int) (a0_2 : List UInt8) (a0_3 : List UInt8) (a0_4 : Int) (a0_5 : List UInt8) (a0_6 : Int) (a0_7 : Int) (a0_8 : Int) (a0_9 : Int) (a0_10 : Int) (a0_11 : Int) (a0_12 : Int) (a0_13 : Int) (a0_14 : List UInt8) (a0_15 : List UInt8) (a0_16 : Int) (a0_17 : List AV) (a0_18 : List AV) : Option Res := evalK G run n f41_info.keep 0 f41_info.body (retE G f41_info) (f41_info.start [.agg [.agg [.agg [.int a0_1, .blob a0_2, .blob a0_3, .int a0_4], .blob a0_5, .int a0_6, .int a0_7, .int a0_8, .int a0_9, .int a0_10, .int a0_11], .int a0_12, .agg [.agg [.int a0_13, .blob a0_14, .blob a0_15, .int a0_16], .slice a0_17], .slice a0_18]])
theorem f41_eq (run : Run) (n : Nat) (a0_1 : Int) (a0_2 : List UInt8) (a0_3 : List UInt8) (a0_4 : Int) (a0_5 : List UInt8) (a0_6 : Int) (a0_7 : Int) (a0_8 : Int) (a0_9 : Int) (a0_10 : Int) (a0_11 : Int) (a0_12 : Int) (a0_13 : Int) (a0_14 : List UInt8) (a0_15 : List UInt8) (a0_16 : Int) (a0_17 : List AV) (a0_18 : List AV) : f41 run n a0_1 a0_2 a0_3 a0_4 a0_5 a0_6 a0_7 a0_8 a0_9 a0_10 a0_11 a0_12 a0_13 a0_14 a0_15 a0_16 a0_17 a0_18 =
  (run 44 [.agg [.agg [.int a0_13, .blob a0_14, .blob a0_15, .int a0_16], .slice a0_17]]).bind fun r1 =>
    nilV r1.outs (consV r1.vals fun v1 vs1 =>
    nilV vs1 ((run 73 [.blob v1.toBlob, .blob a0_5]).bind fun r2 =>
    nilV r2.outs (consV r2.vals fun v2 vs2 =>
    nilV vs2 (bif !v2.toBool then
    some ⟨[.int 9], [], f41_fresh⟩
  else
    some ⟨[.int 0], [], f41_fresh⟩)))) := by kernel_rfl
theorem f41_run (ext : Run) (n : Nat) (a0_1 : Int) (a0_2 : List UInt8) (a0_3 : List UInt8) (a0_4 : Int) (a0_5 : List UInt8) (a0_6 : Int) (a0_7 : Int) (a0_8 : Int) (a0_9 : Int) (a0_10 : Int) (a0_11 : Int) (a0_12 : Int) (a0_13 : Int) (a0_14 : List UInt8) (a0_15 : List UInt8) (a0_16 : Int) (a0_17 : List AV) (a0_18 : List AV) : runE G ext (n + 1) 41 [.agg [.agg [.agg [.int a0_1, .blob a0_2, .blob a0_3, .int a0_4], .blob a0_5, .int a0_6, .int a0_7, .int a0_8, .int a0_9, .int a0_10, .int a0_11], .int a0_12, .agg [.agg [.int a0_13, .blob a0_14, .blob a0_15, .int a0_16], .slice a0_17], .slice a0_18]] = f41 (runE G ext n) n a0_1 a0_2 a0_3 a0_4 a0_5 a0_6 a0_7 a0_8 a0_9 a0_10 a0_11 a0_12 a0_13 a0_14 a0_15 a0_16 a0_17 a0_18 := runE_succ f41_at f41_in

noncomputable def f97_l0 (run : Run) (n : Nat) (k0 : Nat) (x8_1 : List AV) (x9_1 : Int) (x10_1 : Int) : Option Res :=
  iterK (evalK G run n f97_keep 0 (sub [1, 1, 0, 1, 0, 0] f97_body)) f97_t0 f97_o0 (blockK 0 (seqK (evalK G run n f97_keep 0 (sub [1, 1, 1] f97_body) (retE G f97_info)) (retE G f97_info))) k0
    ⟨[.any, .any, .any, .any, .any, .any, .any, .any, .val (.slice .str) none (.slice x8_1), .val (.int .i64) none (.int x9_1), .val (.int .i64) none (.int x10_1), .any, .any, .any, .any, .any, .any, .any], [⟨0, none⟩, ⟨0, none⟩, ⟨0, none⟩, ⟨0, none⟩, ⟨0, none⟩, ⟨0, none⟩, ⟨0, none⟩, ⟨0, none⟩, ⟨0, none⟩, ⟨0, none⟩, ⟨0, none⟩, ⟨0, none⟩, ⟨0, none⟩, ⟨0, none⟩, ⟨0, none⟩, ⟨0, none⟩, ⟨0, none⟩, ⟨0, none⟩], List.replicate 18 0⟩
theorem f97_l0_eq (run : Run) (n : Nat) (k0 : Nat) (x8_1 : List AV) (x9_1 : Int) (x10_1 : Int) : f97_l0 run n (k0 + 1) x8_1 x9_1 x10_1 =
  bif ltI x10_1 x9_1 then
    bif inR x10_1 x8_1.length then
    bif ltI 4096 (((nth x8_1 (Int.toNat x10_1)).toStr).length : Int) then
    some ⟨[.int 4], [], f97_fresh⟩
  else
    f97_l0 run n k0 x8_1 x9_1 (IntKind.wrap .i64 (x10_1 + 1))
  else none
  else
    some ⟨[.int 0], [], f97_fresh⟩ := by kernel_rfl
noncomputable def f97 (run : Run) (n : Nat) (a0_1 : List AV) : Option Res := evalK G run n f97_info.keep 0 f97_info.body (retE G f97_info) (f97_info.start [.slice a0_1])
theorem f97_eq (run : Run) (n : Nat) (a0_1 : List AV) : f97 run n a0_1 =
  bif ltI 1024 (a0_1.length : Int) then
    some ⟨[.int 4], [], f97_fresh⟩
  else
    f97_l0 run n n a0_1 (a0_1.length : Int) 0 := by kernel_rfl
theorem f97_run (ext : Run) (n : Nat) (a0_1 : List AV) : runE G ext (n + 1) 97 [.slice a0_1] = f97 (runE G ext n) n a0_1 := runE_succ f97_at f97_in

noncomputable def f119_l0 (run : Run) (n : Nat) (k0 : Nat) (x3_1 : List AV) (x6_1 : List AV) (x7_1 : Int) (x8_1 : Int) : Option Res :=
  iterK (evalK G run n f119_keep 0 (sub [1, 1, 0, 1, 0, 0] f119_body)) f119_t0 f119_o0 (blockK 0 (seqK (evalK G run n f119_keep 0 (sub [1, 1, 1] f119_body) (retE G f119_info)) (retE G f119_info))) k0
    ⟨[.any, .any, .any, .val (.slice .str) (some (3, 0)) (.slice x3_1), .any, .any, .val (.slice (.blob 32)) none (.slice x6_1), .val (.int .i64) none (.int x7_1), .val (.int .i64) none (.int x8_1), .any, .any, .any, .any, .any, .any, .any, .any, .any, .any], [⟨0, none⟩, ⟨0, none⟩, ⟨0, none⟩, ⟨0, none⟩, ⟨0, none⟩, ⟨0, none⟩, ⟨0, none⟩, ⟨0, none⟩, ⟨0, none⟩, ⟨0, none⟩, ⟨0, none⟩, ⟨0, none⟩, ⟨0, none⟩, ⟨0, none⟩, ⟨0, none⟩, ⟨0, none⟩, ⟨0, none⟩, ⟨0, none⟩, ⟨0, none⟩], List.replicate 19 0⟩
theorem f119_l0_eq (run : Run) (n : Nat) (k0 : Nat) (x3_1 : List AV) (x6_1 : List AV) (x7_1 : Int) (x8_1 : Int) : f119_l0 run n (k0 + 1) x3_1 x6_1 x7_1 x8_1 =
  bif ltI x8_1 x7_1 then
    bif inR x8_1 x6_1.length then
    (run 149 [.blob ((nth x6_1 (Int.toNat x8_1)).toBlob)]).bind fun r1 =>
    nilV r1.outs (consV r1.vals fun v1 vs1 =>
    nilV vs1 (bif Nat.ble ((x3_1.length + 1) * 16) 140737488355328 then
    f119_l0 run n k0 (x3_1 ++ [.str v1.toStr]) x6_1 x7_1 (IntKind.wrap .i64 (x8_1 + 1))
  else none))
  else none
  else
    some ⟨[.slice x3_1], [], f119_fresh⟩ := by kernel_rfl
noncomputable def f119 (run : Run) (n : Nat) (a0_1 : List AV) : Option Res := evalK G run n f119_info.keep 0 f119_info.body (retE G f119_info) (f119_info.start [.slice a0_1])
theorem f119_eq (run : Run) (n : Nat) (a0_1 : List AV) : f119 run n a0_1 =
  f119_l0 run n n [] a0_1 (a0_1.length : Int) 0 := by kernel_rfl
theorem f119_run (ext : Run) (n : Nat) (a0_1 : List AV) : runE G ext (n + 1) 119 [.slice a0_1] = f119 (runE G ext n) n a0_1 := runE_succ f119_at f119_in

noncomputable def f164_s165_l0 (run : Run) (n : Nat) (k0 : Nat) (x5_1 : List AV) (x8_1 : List AV) (x9_1 : Int) (x10_1 : Int) : Option Res :=
  iterK (evalK G run n f164_keep 0 (sub [1, 1, 0, 1, 0, 0] f164_body)) f164_t0 f164_o0 (blockK 0 (seqK (evalK G run n f164_keep 0 (sub [1, 1, 1] f164_body) (retE G f164_info)) (retE G f164_info))) k0
    ⟨[.any, .val .fn none (.fn 165), .any, .any, .any, .val (.slice (.blob 32)) (some (5, 0)) (.slice x5_1), .any, .any, .val (.slice .str) none (.slice x8_1), .val (.int .i64) none (.int x9_1), .val (.int .i64) none (.int x10_1), .any, .any, .any, .any, .any, .any, .any, .any, .any, .any, .any], [⟨0, none⟩, ⟨0, none⟩, ⟨0, none⟩, ⟨0, none⟩, ⟨0, none⟩, ⟨0, none⟩, ⟨0, none⟩, ⟨0, none⟩, ⟨0, none⟩, ⟨0, none⟩, ⟨0, none⟩, ⟨0, none⟩, ⟨0, none⟩, ⟨0, none⟩, ⟨0, none⟩, ⟨0, none⟩, ⟨0, none⟩, ⟨0, none⟩, ⟨0, none⟩, ⟨0, none⟩, ⟨0, none⟩, ⟨0, none⟩], List.replicate 22 0⟩
theorem f164_s165_l0_eq (run : Run) (n : Nat) (k0 : Nat) (x5_1 : List AV) (x8_1 : List AV) (x9_1 : Int) (x10_1 : Int) : f164_s165_l0 run n (k0 + 1) x5_1 x8_1 x9_1 x10_1 =
  bif ltI x10_1 x9_1 then
    bif inR x10_1 x8_1.length then
    (run 165 [.str ((nth x8_1 (Int.toNat x10_1)).toStr)]).bind fun r1 =>
    nilV r1.outs (consV r1.vals fun v1 vs1 =>
    nilV vs1 (bif Nat.ble ((x5_1.length + 1) * 32) 140737488355328 then
    f164_s165_l0 run n k0 (x5_1 ++ [.blob v1.toBlob]) x8_1 x9_1 (IntKind.wrap .i64 (x10_1 + 1))
  else none))
  else none
  else
    some ⟨[.slice x5_1], [], f164_fresh⟩ := by kernel_rfl
noncomputable def f164_s165 (run : Run) (n : Nat) (a0_1 : List AV) : Option Res := evalK G run n f164_info.keep 0 f164_info.body (retE G f164_info) (f164_info.start [.slice a0_1, .fn 165])
theorem f164_s165_eq (run : Run) (n : Nat) (a0_1 : List AV) : f164_s165 run n a0_1 =
  f164_s165_l0 run n n [] a0_1 (a0_1.length : Int) 0 := by kernel_rfl
theorem f164_s165_run (ext : Run) (n : Nat) (a0_1 : List AV) : runE G ext (n + 1) 164 [.slice a0_1, .fn 165] = f164_s165 (runE G ext n) n a0_1 := runE_succ f164_at f164_in

noncomputable def f134 (run : Run) (n : Nat) (a0_1 : List AV) : Option Res := evalK G run n f134_info.keep 0 f134_info.body (retE G f134_info) (f134_info.start [.slice a0_1])
theorem f134_eq (run : Run) (n : Nat) (a0_1 : List AV) : f134 run n a0_1 =
  (run 164 [.slice a0_1, .fn 165]).bind fun r1 =>
    bif r1.fresh then
    nilV r1.outs (consV r1.vals fun v1 vs1 =>
    nilV vs1 (some ⟨[.slice v1.toSlice], [], f134_fresh⟩))
  else none := by kernel_rfl
theorem f134_run (ext : Run) (n : Nat) (a0_1 : List AV) : runE G ext (n + 1) 134 [.slice a0_1] = f134 (runE G ext n) n a0_1 := runE_succ f134_at f134_in

noncomputable def f162_l0 (run : Run) (n : Nat) (k0 : Nat) (x0_1 : Int) (x3_1 : Int) : Option Res :=
  iterK (evalK G run n f162_keep 0 (sub [1, 1, 1, 0, 0, 0] f162_body)) f162_t0 f162_o0 (blockK 0 (seqK (evalK G run n f162_keep 0 (sub [1, 1, 1, 1] f162_body) (retE G f162_info)) (retE G f162_info))) k0
    ⟨[.val (.int .i64) none (.int x0_1), .any, .any, .val (.int .i64) none (.int x3_1), .any, .any, .any, .any, .any, .any, .any, .any, .any, .any], [⟨0, none⟩, ⟨0, none⟩, ⟨0, none⟩, ⟨0, none⟩, ⟨0, none⟩, ⟨0, none⟩, ⟨0, none⟩, ⟨0, none⟩, ⟨0, none⟩, ⟨0, none⟩, ⟨0, none⟩, ⟨0, none⟩, ⟨0, none⟩, ⟨0, none⟩], List.replicate 14 0⟩
theorem f162_l0_eq (run : Run) (n : Nat) (k0 : Nat) (x0_1 : Int) (x3_1 : Int) : f162_l0 run n (k0 + 1) x0_1 x3_1 =
  bif leI x3_1 (IntKind.wrap .i64 (Int.tdiv (IntKind.wrap .i64 (x0_1 - 1)) 2)) then
    f162_l0 run n k0 x0_1 (IntKind.wrap .i64 (x3_1 * 2))
  else
    some ⟨[.int x3_1], [], f162_fresh⟩ := by kernel_rfl
noncomputable def f162 (run : Run) (n : Nat) (a0_1 : Int) : Option Res := evalK G run n f162_info.keep 0 f162_info.body (retE G f162_info) (f162_info.start [.int a0_1])
theorem f162_eq (run : Run) (n : Nat) (a0_1 : Int) : f162 run n a0_1 =
  bif ltI a0_1 2 then
    some ⟨[.int 0], [], f162_fresh⟩
  else
    f162_l0 run n n a0_1 1 := by kernel_rfl
theorem f162_run (ext : Run) (n : Nat) (a0_1 : Int) : runE G ext (n + 1) 162 [.int a0_1] = f162 (runE G ext n) n a0_1 := runE_succ f162_at f162_in

noncomputable def f186 (run : Run) (n : Nat) (a0_1 : List AV) : Option Res := evalK G run n f186_info.keep 0 f186_info.body (retE G f186_info) (f186_info.start [.slice a0_1])
theorem f186_eq (run : Run) (n : Nat) (a0_1 : List AV) : f186 run n a0_1 =
  (run 162 [.int (a0_1.length : Int)]).bind fun r1 =>
    nilV r1.outs (consV r1.vals fun v1 vs1 =>
    nilV vs1 (bif boundsOk 0 v1.toInt (a0_1.length : Int) (a0_1.length : Int) && true then
    bif boundsOk v1.toInt (a0_1.length : Int) (a0_1.length : Int) (a0_1.length : Int) && true then
    some ⟨[.slice (List.drop 0 (List.take (Int.toNat v1.toInt) a0_1)), .slice (List.drop (Int.toNat v1.toInt) (List.take (Int.toNat (a0_1.length : Int)) a0_1))], [], f186_fresh⟩
  else none
  else none)) := by kernel_rfl
theorem f186_run (ext : Run) (n : Nat) (a0_1 : List AV) : runE G ext (n + 1) 186 [.slice a0_1] = f186 (runE G ext n) n a0_1 := runE_succ f186_at f186_in

noncomputable def f163 (run : Run) (n : Nat) (a0_1 : List AV) : Option Res := evalK G run n f163_info.keep 0 f163_info.body (retE G f163_info) (f163_info.start [.slice a0_1])
theorem f163_eq (run : Run) (n : Nat) (a0_1 : List AV) : f163 run n a0_1 =
  bif eqI (a0_1.length : Int) 0 then
    some ⟨[.blob [0, 0, 0, 0, 0, 0, 0, 0, 0, 0, 0, 0, 0, 0, 0, 0, 0, 0, 0, 0, 0, 0, 0, 0, 0, 0, 0, 0, 0, 0, 0, 0]], [], f163_fresh⟩
  else
    bif eqI (a0_1.length : Int) 1 then
    bif inR 0 a0_1.length then
    some ⟨[.blob ((nth a0_1 0).toBlob)], [], f163_fresh⟩
  else none
  else
    (run 186 [.slice a0_1]).bind fun r1 =>
    nilV r1.outs (consV r1.vals fun v1 vs1 =>
    consV vs1 fun v2 vs2 =>
    nilV vs2 ((run 163 [.slice v1.toSlice]).bind fun r2 =>
    nilV r2.outs (consV r2.vals fun v3 vs3 =>
    nilV vs3 ((run 163 [.slice v2.toSlice]).bind fun r3 =>
    nilV r3.outs (consV r3.vals fun v4 vs4 =>
    nilV vs4 ((run 187 [.blob v3.toBlob, .blob v4.toBlob]).bind fun r4 =>
    nilV r4.outs (consV r4.vals fun v5 vs5 =>
    nilV vs5 (some ⟨[.blob v5.toBlob], [], f163_fresh⟩)))))))) := by kernel_rfl
theorem f163_run (ext : Run) (n : Nat) (a0_1 : List AV) : runE G ext (n + 1) 163 [.slice a0_1] = f163 (runE G ext n) n a0_1 := runE_succ f163_at f163_in

noncomputable def f169 (run : Run) (n : Nat) (a0_1 : List AV) : Option Res := evalK G run n f169_info.keep 0 f169_info.body (retE G f169_info) (f169_info.start [.slice a0_1])
theorem f169_eq (run : Run) (n : Nat) (a0_1 : List AV) : f169 run n a0_1 =
  (run 134 [.slice a0_1]).bind fun r1 =>
    bif r1.fresh then
    nilV r1.outs (consV r1.vals fun v1 vs1 =>
    nilV vs1 ((run 163 [.slice v1.toSlice]).bind fun r2 =>
    nilV r2.outs (consV r2.vals fun v2 vs2 =>
    nilV vs2 ((run 168 [.int (IntKind.wrap .u64 (a0_1.length : Int)), .blob v2.toBlob]).bind fun r3 =>
    nilV r3.outs (consV r3.vals fun v3 vs3 =>
    nilV vs3 (some ⟨[.blob v3.toBlob], [], f169_fresh⟩))))))
  else none := by kernel_rfl
theorem f169_run (ext : Run) (n : Nat) (a0_1 : List AV) : runE G ext (n + 1) 169 [.slice a0_1] = f169 (runE G ext n) n a0_1 := runE_succ f169_at f169_in

noncomputable def f139 (run : Run) (n : Nat) (a0_1 : List AV) : Option Res := evalK G run n f139_info.keep 0 f139_info.body (retE G f139_info) (f139_info.start [.slice a0_1])
theorem f139_eq (run : Run) (n : Nat) (a0_1 : List AV) : f139 run n a0_1 =
  (run 119 [.slice a0_1]).bind fun r1 =>
    bif r1.fresh then
    nilV r1.outs (consV r1.vals fun v1 vs1 =>
    nilV vs1 ((run 169 [.slice v1.toSlice]).bind fun r2 =>
    nilV r2.outs (consV r2.vals fun v2 vs2 =>
    nilV vs2 (some ⟨[.blob v2.toBlob], [], f139_fresh⟩))))
  else none := by kernel_rfl
theorem f139_run (ext : Run) (n : Nat) (a0_1 : List AV) : runE G ext (n + 1) 139 [.slice a0_1] = f139 (runE G ext n) n a0_1 := runE_succ f139_at f139_in

noncomputable def f99_l0 (run : Run) (n : Nat) (k0 : Nat) (x3_1 : List AV) (x6_1 : List AV) (x7_1 : Int) (x8_1 : Int) : Option Res :=
  iterK (evalK G run n f99_keep 0 (sub [1, 1, 0, 1, 0, 0] f99_body)) f99_t0 f99_o0 (blockK 0 (seqK (evalK G run n f99_keep 0 (sub [1, 1, 1] f99_body) (retE G f99_info)) (retE G f99_info))) k0
    ⟨[.any, .any, .any, .val (.slice .str) (some (3, 0)) (.slice x3_1), .any, .any, .val (.slice .str) none (.slice x6_1), .val (.int .i64) none (.int x7_1), .val (.int .i64) none (.int x8_1), .any, .any, .any, .any, .any, .any, .any, .any, .any, .any], [⟨0, none⟩, ⟨0, none⟩, ⟨0, none⟩, ⟨0, none⟩, ⟨0, none⟩, ⟨0, none⟩, ⟨0, none⟩, ⟨0, none⟩, ⟨0, none⟩, ⟨0, none⟩, ⟨0, none⟩, ⟨0, none⟩, ⟨0, none⟩, ⟨0, none⟩, ⟨0, none⟩, ⟨0, none⟩, ⟨0, none⟩, ⟨0, none⟩, ⟨0, none⟩], List.replicate 19 0⟩
theorem f99_l0_eq (run : Run) (n : Nat) (k0 : Nat) (x3_1 : List AV) (x6_1 : List AV) (x7_1 : Int) (x8_1 : Int) : f99_l0 run n (k0 + 1) x3_1 x6_1 x7_1 x8_1 =
  bif ltI x8_1 x7_1 then
    bif inR x8_1 x6_1.length then
    (run 111 [.str ((nth x6_1 (Int.toNat x8_1)).toStr)]).bind fun r1 =>
    nilV r1.outs (consV r1.vals fun v1 vs1 =>
    nilV vs1 (bif Nat.ble ((x3_1.length + 1) * 16) 140737488355328 then
    f99_l0 run n k0 (x3_1 ++ [.str v1.toStr]) x6_1 x7_1 (IntKind.wrap .i64 (x8_1 + 1))
  else none))
  else none
  else
    some ⟨[.slice x3_1], [], f99_fresh⟩ := by kernel_rfl
noncomputable def f99 (run : Run) (n : Nat) (a0_1 : List AV) : Option Res := evalK G run n f99_info.keep 0 f99_info.body (retE G f99_info) (f99_info.start [.slice a0_1])
theorem f99_eq (run : Run) (n : Nat) (a0_1 : List AV) : f99 run n a0_1 =
  f99_l0 run n n [] a0_1 (a0_1.length : Int) 0 := by kernel_rfl
theorem f99_run (ext : Run) (n : Nat) (a0_1 : List AV) : runE G ext (n + 1) 99 [.slice a0_1] = f99 (runE G ext n) n a0_1 := runE_succ f99_at f99_in

noncomputable def f140 (run : Run) (n : Nat) (a0_1 : List AV) : Option Res := evalK G run n f140_info.keep 0 f140_info.body (retE G f140_info) (f140_info.start [.slice a0_1])
theorem f140_eq (run : Run) (n : Nat) (a0_1 : List AV) : f140 run n a0_1 =
  (run 99 [.slice a0_1]).bind fun r1 =>
    bif r1.fresh then
    nilV r1.outs (consV r1.vals fun v1 vs1 =>
    nilV vs1 ((run 169 [.slice v1.toSlice]).bind fun r2 =>
    nilV r2.outs (consV r2.vals fun v2 vs2 =>
    nilV vs2 (some ⟨[.blob v2.toBlob], [], f140_fresh⟩))))
  else none := by kernel_rfl
theorem f140_run (ext : Run) (n : Nat) (a0_1 : List AV) : runE G ext (n + 1) 140 [.slice a0_1] = f140 (runE G ext n) n a0_1 := runE_succ f140_at f140_in

noncomputable def f112 (run : Run) (n : Nat) (a0_1 : Int) (a1_1 : List AV) (a2_1 : List AV) (a3_1 : Int) : Option Res := evalK G run n f112_info.keep 0 f112_info.body (retE G f112_info) (f112_info.start [.int a0_1, .slice a1_1, .slice a2_1, .int a3_1])
theorem f112_eq (run : Run) (n : Nat) (a0_1 : Int) (a1_1 : List AV) (a2_1 : List AV) (a3_1 : Int) : f112 run n a0_1 a1_1 a2_1 a3_1 =
  (run 139 [.slice a1_1]).bind fun r1 =>
    nilV r1.outs (consV r1.vals fun v1 vs1 =>
    nilV vs1 ((run 140 [.slice a2_1]).bind fun r2 =>
    nilV r2.outs (consV r2.vals fun v2 vs2 =>
    nilV vs2 (bif Nat.ble ((a2_1.length) * 16) 140737488355328 then
    some ⟨[.agg [.agg [.int a0_1, .blob v1.toBlob, .blob v2.toBlob, .int a3_1], .slice a2_1]], [], f112_fresh⟩
  else none)))) := by kernel_rfl
theorem f112_run (ext : Run) (n : Nat) (a0_1 : Int) (a1_1 : List AV) (a2_1 : List AV) (a3_1 : Int) : runE G ext (n + 1) 112 [.int a0_1, .slice a1_1, .slice a2_1, .int a3_1] = f112 (runE G ext n) n a0_1 a1_1 a2_1 a3_1 := runE_succ f112_at f112_in

noncomputable def f72 (run : Run) (n : Nat) (a0_1 : Int) (a0_2 : List UInt8) (a0_3 : List UInt8) (a0_4 : Int) (a0_5 : List AV) (a1_1 : Int) (a2_1 : List AV) : Option Res := evalK G run n f72_info.keep 0 f72_info.body (retE G f72_info) (f72_info.start [.agg [.agg [.int a0_1, .blob a0_2, .blob a0_3, .int a0_4], .slice a0_5], .int a1_1, .slice a2_1])
theorem f72_eq (run : Run) (n : Nat) (a0_1 : Int) (a0_2 : List UInt8) (a0_3 : List UInt8) (a0_4 : Int) (a0_5 : List AV) (a1_1 : Int) (a2_1 : List AV) : f72 run n a0_1 a0_2 a0_3 a0_4 a0_5 a1_1 a2_1 =
  bif !(eqI a0_1 a1_1) then
    some ⟨[.int 8], [], f72_fresh⟩
  else
    (run 97 [.slice a0_5]).bind fun r1 =>
    nilV r1.outs (consV r1.vals fun v1 vs1 =>
    nilV vs1 (bif !(eqI v1.toInt 0) then
    some ⟨[.int v1.toInt], [], f72_fresh⟩
  else
    (run 112 [.int a1_1, .slice a2_1, .slice a0_5, .int a0_4]).bind fun r2 =>
    nilV r2.outs (consV r2.vals fun v2 vs2 =>
    nilV vs2 (bif !(eqI (((v2.fld 0).fld 0).toInt) a0_1 && (eqS (((v2.fld 0).fld 1).toBlob) a0_2 && (eqS (((v2.fld 0).fld 2).toBlob) a0_3 && (eqI (((v2.fld 0).fld 3).toInt) a0_4 && true)))) then
    some ⟨[.int 12], [], f72_fresh⟩
  else
    some ⟨[.int 0], [], f72_fresh⟩)))) := by kernel_rfl
theorem f72_run (ext : Run) (n : Nat) (a0_1 : Int) (a0_2 : List UInt8) (a0_3 : List UInt8) (a0_4 : Int) (a0_5 : List AV) (a1_1 : Int) (a2_1 : List AV) : runE G ext (n + 1) 72 [.agg [.agg [.int a0_1, .blob a0_2, .blob a0_3, .int a0_4], .slice a0_5], .int a1_1, .slice a2_1] = f72 (runE G ext n) n a0_1 a0_2 a0_3 a0_4 a0_5 a1_1 a2_1 := runE_succ f72_at f72_in

noncomputable def f40 (run : Run) (n : Nat) (a0_1 : Int) (a0_2 : List UInt8) (a0_3 : List UInt8) (a0_4 : Int) (a0_5 : List UInt8) (a0_6 : Int) (a0_7 : Int) (a0_8 : Int) (a0_9 : Int) (a0_10 : Int) (a0_11 : Int) (a0_12 : Int) (a0_13 : Int) (a0_14 : List UInt8) (a0_15 : List UInt8) (a0_16 : Int) (a0_17 : List AV) (a0_18 : List AV) : Option Res := evalK G run n f40_info.keep 0 f40_info.body (retE G f40_info) (f40_info.start [.agg [.agg [.agg [.int a0_1, .blob a0_2, .blob a0_3, .int a0_4], .blob a0_5, .int a0_6, .int a0_7, .int a0_8, .int a0_9, .int a0_10, .int a0_11], .int a0_12, .agg [.agg [.int a0_13, .blob a0_14, .blob a0_15, .int a0_16], .slice a0_17], .slice a0_18]])
theorem f40_eq (run : Run) (n : Nat) (a0_1 : Int) (a0_2 : List UInt8) (a0_3 : List UInt8) (a0_4 : Int) (a0_5 : List UInt8) (a0_6 : Int) (a0_7 : Int) (a0_8 : Int) (a0_9 : Int) (a0_10 : Int) (a0_11 : Int) (a0_12 : Int) (a0_13 : Int) (a0_14 : List UInt8) (a0_15 : List UInt8) (a0_16 : Int) (a0_17 : List AV) (a0_18 : List AV) : f40 run n a0_1 a0_2 a0_3 a0_4 a0_5 a0_6 a0_7 a0_8 a0_9 a0_10 a0_11 a0_12 a0_13 a0_14 a0_15 a0_16 a0_17 a0_18 =
  (run 72 [.agg [.agg [.int a0_13, .blob a0_14, .blob a0_15, .int a0_16], .slice a0_17], .int (IntKind.wrap .u32 a0_12), .slice a0_18]).bind fun r1 =>
    nilV r1.outs (consV r1.vals fun v1 vs1 =>
    nilV vs1 (some ⟨[.int v1.toInt], [], f40_fresh⟩)) := by kernel_rfl
theorem f40_run (ext : Run) (n : Nat) (a0_1 : Int) (a0_2 : List UInt8) (a0_3 : List UInt8) (a0_4 : Int) (a0_5 : List UInt8) (a0_6 : Int) (a0_7 : Int) (a0_8 : Int) (a0_9 : Int) (a0_10 : Int) (a0_11 : Int) (a0_12 : Int) (a0_13 : Int) (a0_14 : List UInt8) (a0_15 : List UInt8) (a0_16 : Int) (a0_17 : List AV) (a0_18 : List AV) : runE G ext (n + 1) 40 [.agg [.agg [.agg [.int a0_1, .blob a0_2, .blob a0_3, .int a0_4], .blob a0_5, .int a0_6, .int a0_7, .int a0_8, .int a0_9, .int a0_10, .int a0_11], .int a0_12, .agg [.agg [.int a0_13, .blob a0_14, .blob a0_15, .int a0_16], .slice a0_17], .slice a0_18]] = f40 (runE G ext n) n a0_1 a0_2 a0_3 a0_4 a0_5 a0_6 a0_7 a0_8 a0_9 a0_10 a0_11 a0_12 a0_13 a0_14 a0_15 a0_16 a0_17 a0_18 := runE_succ f40_at f40_in

noncomputable def f39 (run : Run) (n : Nat) (a0_1 : Int) (a0_2 : List UInt8) (a0_3 : List UInt8) (a0_4 : Int) (a0_5 : List UInt8) (a0_6 : Int) (a0_7 : Int) (a0_8 : Int) (a0_9 : Int) (a0_10 : Int) (a0_11 : Int) (a0_12 : Int) (a0_13 : Int) (a0_14 : List UInt8) (a0_15 : List UInt8) (a0_16 : Int) (a0_17 : List AV) (a0_18 : List AV) : Option Res := evalK G run n f39_info.keep 0 f39_info.body (retE G f39_info) (f39_info.start [.agg [.agg [.agg [.int a0_1, .blob a0_2, .blob a0_3, .int a0_4], .blob a0_5, .int a0_6, .int a0_7, .int a0_8, .int a0_9, .int a0_10, .int a0_11], .int a0_12, .agg [.agg [.int a0_13, .blob a0_14, .blob a0_15, .int a0_16], .slice a0_17], .slice a0_18]])
theorem f39_eq (run : Run) (n : Nat) (a0_1 : Int) (a0_2 : List UInt8) (a0_3 : List UInt8) (a0_4 : Int) (a0_5 : List UInt8) (a0_6 : Int) (a0_7 : Int) (a0_8 : Int) (a0_9 : Int) (a0_10 : Int) (a0_11 : Int) (a0_12 : Int) (a0_13 : Int) (a0_14 : List UInt8) (a0_15 : List UInt8) (a0_16 : Int) (a0_17 : List AV) (a0_18 : List AV) : f39 run n a0_1 a0_2 a0_3 a0_4 a0_5 a0_6 a0_7 a0_8 a0_9 a0_10 a0_11 a0_12 a0_13 a0_14 a0_15 a0_16 a0_17 a0_18 =
  bif eqI a0_12 0 then
    bif !(eqI a0_13 a0_1 && (eqS a0_14 a0_2 && (eqS a0_15 a0_3 && (eqI a0_16 a0_4 && true)))) then
    some ⟨[.int 7], [], f39_fresh⟩
  else
    some ⟨[.int 0], [], f39_fresh⟩
  else
    some ⟨[.int 0], [], f39_fresh⟩ := by kernel_rfl
theorem f39_run (ext : Run) (n : Nat) (a0_1 : Int) (a0_2 : List UInt8) (a0_3 : List UInt8) (a0_4 : Int) (a0_5 : List UInt8) (a0_6 : Int) (a0_7 : Int) (a0_8 : Int) (a0_9 : Int) (a0_10 : Int) (a0_11 : Int) (a0_12 : Int) (a0_13 : Int) (a0_14 : List UInt8) (a0_15 : List UInt8) (a0_16 : Int) (a0_17 : List AV) (a0_18 : List AV) : runE G ext (n + 1) 39 [.agg [.agg [.agg [.int a0_1, .blob a0_2, .blob a0_3, .int a0_4], .blob a0_5, .int a0_6, .int a0_7, .int a0_8, .int a0_9, .int a0_10, .int a0_11], .int a0_12, .agg [.agg [.int a0_13, .blob a0_14, .blob a0_15, .int a0_16], .slice a0_17], .slice a0_18]] = f39 (runE G ext n) n a0_1 a0_2 a0_3 a0_4 a0_5 a0_6 a0_7 a0_8 a0_9 a0_10 a0_11 a0_12 a0_13 a0_14 a0_15 a0_16 a0_17 a0_18 := runE_succ f39_at f39_in

noncomputable def f74 (run : Run) (n : Nat) (a0_1 : List UInt8) : Option Res := evalK G run n f74_info.keep 0 f74_info.body (retE G f74_info) (f74_info.start [.blob a0_1])
theorem f74_eq (run : Run) (n : Nat) (a0_1 : List UInt8) : f74 run n a0_1 =
  some ⟨[.slice [.blob a0_1]], [], f74_fresh⟩ := by kernel_rfl
theorem f74_run (ext : Run) (n : Nat) (a0_1 : List UInt8) : runE G ext (n + 1) 74 [.blob a0_1] = f74 (runE G ext n) n a0_1 := runE_succ f74_at f74_in

noncomputable def f78_l0 (run : Run) (n : Nat) (k0 : Nat) (x6_1 : Int) (x7_1 : Int) (x21_1 : Int) (x22_1 : Int) (o2_1 : List AV) (o4_1 : List AV) (o5_1 : List AV) : Option Res :=
  iterK (evalK G run n f78_keep 0 (sub [1, 1, 1, 1, 1, 0, 1, 0, 0] f78_body)) f78_t0 f78_o0 (blockK 0 (seqK (evalK G run n f78_keep 0 (sub [1, 1, 1, 1, 1, 1] f78_body) (retE G f78_info)) (retE G f78_info))) k0
    ⟨[.any, .any, .ptr ⟨(.arr 4 (.int .u64)), 2, 1, []⟩, .any, .ptr ⟨(.arr 4 (.int .u64)), 4, 1, []⟩, .ptr ⟨(.arr 4 (.int .u64)), 5, 1, []⟩, .val (.int .i64) none (.int x6_1), .val (.int .u64) none (.int x7_1), .any, .any, .any, .any, .any, .any, .any, .any, .any, .any, .any, .any, .any, .val (.int .i64) none (.int x21_1), .val (.int .i64) none (.int x22_1), .any, .any, .any, .any, .any, .any, .any, .any, .any, .any, .any, .any, .any, .any, .any, .any, .any, .any, .any, .any, .any, .any, .any, .any, .any, .any, .any, .any, .any, .any, .any, .any, .any, .any, .any, .any], [⟨0, none⟩, ⟨0, none⟩, ⟨1, some ⟨(.arr 4 (.int .u64)), .agg o2_1⟩⟩, ⟨0, none⟩, ⟨1, some ⟨(.arr 4 (.int .u64)), .agg o4_1⟩⟩, ⟨1, some ⟨(.arr 4 (.int .u64)), .agg o5_1⟩⟩, ⟨0, none⟩, ⟨0, none⟩, ⟨0, none⟩, ⟨0, none⟩, ⟨0, none⟩, ⟨0, none⟩, ⟨0, none⟩, ⟨0, none⟩, ⟨0, none⟩, ⟨0, none⟩, ⟨0, none⟩, ⟨0, none⟩, ⟨0, none⟩, ⟨0, none⟩, ⟨0, none⟩, ⟨0, none⟩, ⟨0, none⟩, ⟨0, none⟩, ⟨0, none⟩, ⟨0, none⟩, ⟨0, none⟩, ⟨0, none⟩, ⟨0, none⟩, ⟨0, none⟩, ⟨0, none⟩, ⟨0, none⟩, ⟨0, none⟩, ⟨0, none⟩, ⟨0, none⟩, ⟨0, none⟩, ⟨0, none⟩, ⟨0, none⟩, ⟨0, none⟩, ⟨0, none⟩, ⟨0, none⟩, ⟨0, none⟩, ⟨0, none⟩, ⟨0, none⟩, ⟨0, none⟩, ⟨0, none⟩, ⟨0, none⟩, ⟨0, none⟩, ⟨0, none⟩, ⟨0, none⟩, ⟨0, none⟩, ⟨0, none⟩, ⟨0, none⟩, ⟨0, none⟩, ⟨0, none⟩, ⟨0, none⟩, ⟨0, none⟩, ⟨0, none⟩, ⟨0, none⟩], List.replicate 59 0⟩
theorem f78_l0_eq (run : Run) (n : Nat) (k0 : Nat) (x6_1 : Int) (x7_1 : Int) (x21_1 : Int) (x22_1 : Int) (o2_1 : List AV) (o4_1 : List AV) (o5_1 : List AV) : f78_l0 run n (k0 + 1) x6_1 x7_1 x21_1 x22_1 o2_1 o4_1 o5_1 =
  bif ltI x22_1 x21_1 then
    bif inR (IntKind.wrap .i64 (x22_1 + x6_1)) 4 then
    bif leI 0 x7_1 then
    bif inR x22_1 4 then
    bif ltI 0 x7_1 then
    bif ltI (IntKind.wrap .i64 (IntKind.wrap .i64 (x22_1 + x6_1) + 1)) 4 then
    bif inR x22_1 4 then
    bif inR (IntKind.wrap .i64 (IntKind.wrap .i64 (x22_1 + x6_1) + 1)) 4 then
    bif leI 0 (IntKind.wrap .u64 (64 - x7_1)) then
    bif inR x22_1 4 then
    f78_l0 run n k0 x6_1 x7_1 x21_1 (IntKind.wrap .i64 (x22_1 + 1)) o2_1 o4_1 ((o5_1.set (Int.toNat x22_1) (.int (Int.fdiv ((AV.fld (.agg o2_1) (Int.toNat (IntKind.wrap .i64 (x22_1 + x6_1)))).toInt) (2 ^ (min (Int.toNat x7_1) 64))))).set (Int.toNat x22_1) (.int (IntKind.wrap .u64 (BitVec.toNat (BitVec.ofInt 64 ((AV.fld (.agg (o5_1.set (Int.toNat x22_1) (.int (Int.fdiv ((AV.fld (.agg o2_1) (Int.toNat (IntKind.wrap .i64 (x22_1 + x6_1)))).toInt) (2 ^ (min (Int.toNat x7_1) 64)))))) (Int.toNat x22_1)).toInt) ||| BitVec.ofInt 64 (IntKind.wrap .u64 ((AV.fld (.agg o2_1) (Int.toNat (IntKind.wrap .i64 (IntKind.wrap .i64 (x22_1 + x6_1) + 1)))).toInt * 2 ^ (min (Int.toNat (IntKind.wrap .u64 (64 - x7_1))) 64))))))))
  else none
  else none
  else none
  else none
  else
    f78_l0 run n k0 x6_1 x7_1 x21_1 (IntKind.wrap .i64 (x22_1 + 1)) o2_1 o4_1 (o5_1.set (Int.toNat x22_1) (.int (Int.fdiv ((AV.fld (.agg o2_1) (Int.toNat (IntKind.wrap .i64 (x22_1 + x6_1)))).toInt) (2 ^ (min (Int.toNat x7_1) 64)))))
  else
    f78_l0 run n k0 x6_1 x7_1 x21_1 (IntKind.wrap .i64 (x22_1 + 1)) o2_1 o4_1 (o5_1.set (Int.toNat x22_1) (.int (Int.fdiv ((AV.fld (.agg o2_1) (Int.toNat (IntKind.wrap .i64 (x22_1 + x6_1)))).toInt) (2 ^ (min (Int.toNat x7_1) 64)))))
  else none
  else none
  else none
  else
    some ⟨[.agg o5_1], [], f78_fresh⟩ := by kernel_rfl
noncomputable def f78 (run : Run) (n : Nat) (a0_1 : List AV) (a1_1 : Int) : Option Res := evalK G run n f78_info.keep 0 f78_info.body (retE G f78_info) (f78_info.start [.agg a0_1, .int a1_1])
theorem f78_eq (run : Run) (n : Nat) (a0_1 : List AV) (a1_1 : Int) : f78 run n a0_1 a1_1 =
  bif leI a1_1 0 then
    some ⟨[.agg a0_1], [], f78_fresh⟩
  else
    bif leI 256 a1_1 then
    some ⟨[.agg [.int 0, .int 0, .int 0, .int 0]], [], f78_fresh⟩
  else
    f78_l0 run n n (IntKind.wrap .i64 (Int.tdiv a1_1 64)) (IntKind.wrap .u64 (Int.tmod a1_1 64)) (IntKind.wrap .i64 (4 - IntKind.wrap .i64 (Int.tdiv a1_1 64))) 0 a0_1 (List.replicate 4 (.int 0)) (List.replicate 4 (.int 0)) := by kernel_rfl
theorem f78_run (ext : Run) (n : Nat) (a0_1 : List AV) (a1_1 : Int) : runE G ext (n + 1) 78 [.agg a0_1, .int a1_1] = f78 (runE G ext n) n a0_1 a1_1 := runE_succ f78_at f78_in

noncomputable def f43_l0 (run : Run) (n : Nat) (k0 : Nat) (x7_1 : Int) (x13_1 : Int) (o5_1 : List AV) (o6_1 : List AV) : Option Res :=
  iterK (evalK G run n f43_keep 0 (sub [1, 1, 1, 0, 1, 0, 0] f43_body)) f43_t0 f43_o0 (blockK 0 (seqK (evalK G run n f43_keep 0 (sub [1, 1, 1, 1] f43_body) (retE G f43_info)) (retE G f43_info))) k0
    ⟨[.any, .any, .any, .any, .any, .ptr ⟨(.arr 4 (.int .u64)), 5, 1, []⟩, .ptr ⟨(.arr 4 (.int .u64)), 6, 1, []⟩, .val (.int .i64) none (.int x7_1), .any, .any, .any, .any, .any, .val (.int .i64) none (.int x13_1), .any, .any, .any, .any, .any, .any, .any, .any, .any, .any, .any], [⟨0, none⟩, ⟨0, none⟩, ⟨0, none⟩, ⟨0, none⟩, ⟨0, none⟩, ⟨1, some ⟨(.arr 4 (.int .u64)), .agg o5_1⟩⟩, ⟨1, some ⟨(.arr 4 (.int .u64)), .agg o6_1⟩⟩, ⟨0, none⟩, ⟨0, none⟩, ⟨0, none⟩, ⟨0, none⟩, ⟨0, none⟩, ⟨0, none⟩, ⟨0, none⟩, ⟨0, none⟩, ⟨0, none⟩, ⟨0, none⟩, ⟨0, none⟩, ⟨0, none⟩, ⟨0, none⟩, ⟨0, none⟩, ⟨0, none⟩, ⟨0, none⟩, ⟨0, none⟩, ⟨0, none⟩], List.replicate 25 0⟩
theorem f43_l0_eq (run : Run) (n : Nat) (k0 : Nat) (x7_1 : Int) (x13_1 : Int) (o5_1 : List AV) (o6_1 : List AV) : f43_l0 run n (k0 + 1) x7_1 x13_1 o5_1 o6_1 =
  bif ltI x13_1 256 then
    (run 78 [.agg o6_1, .int x13_1]).bind fun r3 =>
    nilV r3.outs (consV r3.vals fun v3 vs3 =>
    nilV vs3 ((run 77 [.agg o5_1, .agg v3.toAgg]).bind fun r4 =>
    nilV r4.outs (consV r4.vals fun v4 vs4 =>
    nilV vs4 (bif ltI 0 v4.toInt then
    some ⟨[.int x7_1], [], f43_fresh⟩
  else
    f43_l0 run n k0 x13_1 (IntKind.wrap .i64 (x13_1 + 1)) o5_1 o6_1))))
  else
    some ⟨[.int x7_1], [], f43_fresh⟩ := by kernel_rfl
noncomputable def f43 (run : Run) (n : Nat) (a0_1 : List UInt8) (a1_1 : List UInt8) : Option Res := evalK G run n f43_info.keep 0 f43_info.body (retE G f43_info) (f43_info.start [.blob a0_1, .blob a1_1])
theorem f43_eq (run : Run) (n : Nat) (a0_1 : List UInt8) (a1_1 : List UInt8) : f43 run n a0_1 a1_1 =
  (run 76 [.blob a0_1]).bind fun r1 =>
    nilV r1.outs (consV r1.vals fun v1 vs1 =>
    nilV vs1 ((run 76 [.blob a1_1]).bind fun r2 =>
    nilV r2.outs (consV r2.vals fun v2 vs2 =>
    nilV vs2 (f43_l0 run n n (-1) 0 v1.toAgg v2.toAgg)))) := by kernel_rfl
theorem f43_run (ext : Run) (n : Nat) (a0_1 : List UInt8) (a1_1 : List UInt8) : runE G ext (n + 1) 43 [.blob a0_1, .blob a1_1] = f43 (runE G ext n) n a0_1 a1_1 := runE_succ f43_at f43_in

noncomputable def f75_l2 (run : Run) (n : Nat) (_k0 : Nat) (k2 : Nat) (m3 : Nat) (x48_1 : Int) (x49_1 : Int) (o4_3 : List UInt8) (o8_3 : List UInt8) (o22_3 : List AV) : Option Res :=
  iterK (evalK G run n f75_keep 2 (sub [1, 1, 1, 1, 1, 1, 1, 0, 1, 0, 0] f75_body)) f75_t2 f75_o2 (blockK 2 (seqK (evalK G run n f75_keep 0 (sub [1, 1, 1, 1, 1, 1, 1, 1] f75_body) (retE G f75_info)) (retE G f75_info))) k2
    ⟨[.any, .any, .any, .any, .ptr ⟨(.blob 32), 4, 1, []⟩, .any, .any, .ref ⟨(.arr m3 (.blob 32)), 22, 1, []⟩ 0 m3, .ptr ⟨(.blob 32), 8, 1, []⟩, .any, .any, .any, .any, .any, .any, .any, .any, .any, .any, .any, .any, .any, .any, .any, .any, .any, .any, .any, .any, .any, .any, .any, .any, .any, .any, .any, .any, .any, .any, .any, .any, .any, .any, .any, .any, .any, .any, .any, .val (.int .i64) none (.int x48_1), .val (.int .i64) none (.int x49_1), .any, .any, .any, .any, .any, .any, .any, .any, .any, .any, .any, .any, .any, .any], [⟨0, none⟩, ⟨0, none⟩, ⟨0, none⟩, ⟨0, none⟩, ⟨1, some ⟨(.blob 32), .blob o4_3⟩⟩, ⟨0, none⟩, ⟨0, none⟩, ⟨0, none⟩, ⟨1, some ⟨(.blob 32), .blob o8_3⟩⟩, ⟨0, none⟩, ⟨0, none⟩, ⟨0, none⟩, ⟨0, none⟩, ⟨0, none⟩, ⟨0, none⟩, ⟨0, none⟩, ⟨0, none⟩, ⟨0, none⟩, ⟨0, none⟩, ⟨0, none⟩, ⟨0, none⟩, ⟨0, none⟩, ⟨1, some ⟨(.arr m3 (.blob 32)), .agg o22_3⟩⟩, ⟨0, none⟩, ⟨0, none⟩, ⟨0, none⟩, ⟨0, none⟩, ⟨0, none⟩, ⟨0, none⟩, ⟨0, none⟩, ⟨0, none⟩, ⟨0, none⟩, ⟨0, none⟩, ⟨0, none⟩, ⟨0, none⟩, ⟨0, none⟩, ⟨0, none⟩, ⟨0, none⟩, ⟨0, none⟩, ⟨0, none⟩, ⟨0, none⟩, ⟨0, none⟩, ⟨0, none⟩, ⟨0, none⟩, ⟨0, none⟩, ⟨0, none⟩, ⟨0, none⟩, ⟨0, none⟩, ⟨0, none⟩, ⟨0, none⟩, ⟨0, none⟩, ⟨0, none⟩, ⟨0, none⟩, ⟨0, none⟩, ⟨0, none⟩, ⟨0, none⟩, ⟨0, none⟩, ⟨0, none⟩, ⟨0, none⟩, ⟨0, none⟩, ⟨0, none⟩, ⟨0, none⟩, ⟨0, none⟩, ⟨0, none⟩], List.replicate 64 0⟩
noncomputable def f75_l0 (run : Run) (n : Nat) (k0 : Nat) (x0_1 : List AV) (x2_1 : Int) (m1 : Nat) (x30_1 : Int) (x31_1 : Int) (o4_1 : List UInt8) (o8_1 : List UInt8) (o22_1 : List AV) : Option Res :=
  iterK (evalK G run n f75_keep 0 (sub [1, 1, 1, 1, 1, 0, 1, 0, 0] f75_body)) f75_t0 f75_o0 (blockK 0 (seqK (evalK G run n f75_keep 0 (sub [1, 1, 1, 1, 1, 1] f75_body) (retE G f75_info)) (retE G f75_info))) k0
    ⟨[.val (.slice (.blob 32)) none (.slice x0_1), .any, .val (.int .i64) none (.int x2_1), .any, .ptr ⟨(.blob 32), 4, 1, []⟩, .any, .any, .ref ⟨(.arr m1 (.blob 32)), 22, 1, []⟩ 0 m1, .ptr ⟨(.blob 32), 8, 1, []⟩, .any, .any, .any, .any, .any, .any, .any, .any, .any, .any, .any, .any, .any, .any, .any, .any, .any, .any, .any, .any, .any, .val (.int .i64) none (.int x30_1), .val (.int .i64) none (.int x31_1), .any, .any, .any, .any, .any, .any, .any, .any, .any, .any, .any, .any, .any, .any, .any, .any, .any, .any, .any, .any, .any, .any, .any, .any, .any, .any, .any, .any, .any, .any, .any, .any], [⟨0, none⟩, ⟨0, none⟩, ⟨0, none⟩, ⟨0, none⟩, ⟨1, some ⟨(.blob 32), .blob o4_1⟩⟩, ⟨0, none⟩, ⟨0, none⟩, ⟨0, none⟩, ⟨1, some ⟨(.blob 32), .blob o8_1⟩⟩, ⟨0, none⟩, ⟨0, none⟩, ⟨0, none⟩, ⟨0, none⟩, ⟨0, none⟩, ⟨0, none⟩, ⟨0, none⟩, ⟨0, none⟩, ⟨0, none⟩, ⟨0, none⟩, ⟨0, none⟩, ⟨0, none⟩, ⟨0, none⟩, ⟨1, some ⟨(.arr m1 (.blob 32)), .agg o22_1⟩⟩, ⟨0, none⟩, ⟨0, none⟩, ⟨0, none⟩, ⟨0, none⟩, ⟨0, none⟩, ⟨0, none⟩, ⟨0, none⟩, ⟨0, none⟩, ⟨0, none⟩, ⟨0, none⟩, ⟨0, none⟩, ⟨0, none⟩, ⟨0, none⟩, ⟨0, none⟩, ⟨0, none⟩, ⟨0, none⟩, ⟨0, none⟩, ⟨0, none⟩, ⟨0, none⟩, ⟨0, none⟩, ⟨0, none⟩, ⟨0, none⟩, ⟨0, none⟩, ⟨0, none⟩, ⟨0, none⟩, ⟨0, none⟩, ⟨0, none⟩, ⟨0, none⟩, ⟨0, none⟩, ⟨0, none⟩, ⟨0, none⟩, ⟨0, none⟩, ⟨0, none⟩, ⟨0, none⟩, ⟨0, none⟩, ⟨0, none⟩, ⟨0, none⟩, ⟨0, none⟩, ⟨0, none⟩, ⟨0, none⟩, ⟨0, none⟩], List.replicate 64 0⟩
theorem f75_l2_eq (run : Run) (n : Nat) (k0 : Nat) (k2 : Nat) (m3 : Nat) (x48_1 : Int) (x49_1 : Int) (o4_3 : List UInt8) (o8_3 : List UInt8) (o22_3 : List AV) : f75_l2 run n k0 (k2 + 1) m3 x48_1 x49_1 o4_3 o8_3 o22_3 =
  bif ltI x49_1 x48_1 then
    bif inR x49_1 m3 then
    f75_l2 run n k0 k2 m3 x48_1 (IntKind.wrap .i64 (x49_1 + 1)) o4_3 o8_3 (o22_3.set (0 + (Int.toNat x49_1)) (.blob o4_3))
  else none
  else
    bif inR (IntKind.wrap .i64 ((m3 : Int) - 1)) m3 then
    some ⟨[.slice (List.drop 0 (List.take m3 (o22_3.set (0 + (Int.toNat (IntKind.wrap .i64 ((m3 : Int) - 1)))) (.blob o8_3))))], [], f75_fresh⟩
  else none := by kernel_rfl
theorem f75_l0_eq (run : Run) (n : Nat) (k0 : Nat) (x0_1 : List AV) (x2_1 : Int) (m1 : Nat) (x30_1 : Int) (x31_1 : Int) (o4_1 : List UInt8) (o8_1 : List UInt8) (o22_1 : List AV) : f75_l0 run n (k0 + 1) x0_1 x2_1 m1 x30_1 x31_1 o4_1 o8_1 o22_1 =
  bif ltI x31_1 x30_1 then
    bif inR x31_1 m1 then
    f75_l0 run n k0 x0_1 x2_1 m1 x30_1 (IntKind.wrap .i64 (x31_1 + 1)) o4_1 o8_1 (o22_1.set (0 + (Int.toNat x31_1)) (.blob o8_1))
  else none
  else
    bif boundsOk 0 (x0_1.length : Int) (x0_1.length : Int) (x0_1.length : Int) && true then
    f75_l2 run n k0 n m1 (IntKind.wrap .i64 (x2_1 + 1)) 0 o4_1 o8_1 (splice o22_1 0 (List.take m1 (List.drop 0 (List.take (Int.toNat (x0_1.length : Int)) x0_1))))
  else none := by kernel_rfl
noncomputable def f75 (run : Run) (n : Nat) (a0_1 : List AV) (a1_1 : List UInt8) (a2_1 : Int) : Option Res := evalK G run n f75_info.keep 0 f75_info.body (retE G f75_info) (f75_info.start [.slice a0_1, .blob a1_1, .int a2_1])
theorem f75_eq (run : Run) (n : Nat) (a0_1 : List AV) (a1_1 : List UInt8) (a2_1 : Int) : f75 run n a0_1 a1_1 a2_1 =
  bif eqI (a0_1.length : Int) 0 then
    some ⟨[.slice []], [], f75_fresh⟩
  else
    bif eqI (mx2 (a0_1.length : Int) (IntKind.wrap .i64 (mn2 (mx2 a2_1 0) 255 + 2))) (mx2 (a0_1.length : Int) (IntKind.wrap .i64 (mn2 (mx2 a2_1 0) 255 + 2))) && leI 0 (mx2 (a0_1.length : Int) (IntKind.wrap .i64 (mn2 (mx2 a2_1 0) 255 + 2))) && Nat.ble (Int.toNat (mx2 (a0_1.length : Int) (IntKind.wrap .i64 (mn2 (mx2 a2_1 0) 255 + 2))) * 32) 140737488355328 then
    bif inR (IntKind.wrap .i64 ((a0_1.length : Int) - 1)) a0_1.length then
    f75_l0 run n n a0_1 (mn2 (mx2 a2_1 0) 255) (Int.toNat (mx2 (a0_1.length : Int) (IntKind.wrap .i64 (mn2 (mx2 a2_1 0) 255 + 2)))) (Int.toNat (mx2 (a0_1.length : Int) (IntKind.wrap .i64 (mn2 (mx2 a2_1 0) 255 + 2))) : Int) 0 a1_1 ((nth a0_1 (Int.toNat (IntKind.wrap .i64 ((a0_1.length : Int) - 1)))).toBlob) (List.replicate (Int.toNat (mx2 (a0_1.length : Int) (IntKind.wrap .i64 (mn2 (mx2 a2_1 0) 255 + 2)))) (.blob (List.replicate 32 0)))
  else none
  else none := by kernel_rfl
theorem f75_run (ext : Run) (n : Nat) (a0_1 : List AV) (a1_1 : List UInt8) (a2_1 : Int) : runE G ext (n + 1) 75 [.slice a0_1, .blob a1_1, .int a2_1] = f75 (runE G ext n) n a0_1 a1_1 a2_1 := runE_succ f75_at f75_in

noncomputable def f42 (run : Run) (n : Nat) (a0_1 : List UInt8) (a1_1 : List AV) (a2_1 : Int) (a2_2 : List UInt8) (a2_3 : List UInt8) (a2_4 : Int) (a2_5 : List AV) (a3_1 : Int) : Option Res := evalK G run n f42_info.keep 0 f42_info.body (retE G f42_info) (f42_info.start [.blob a0_1, .slice a1_1, .agg [.agg [.int a2_1, .blob a2_2, .blob a2_3, .int a2_4], .slice a2_5], .int a3_1])
theorem f42_eq (run : Run) (n : Nat) (a0_1 : List UInt8) (a1_1 : List AV) (a2_1 : Int) (a2_2 : List UInt8) (a2_3 : List UInt8) (a2_4 : Int) (a2_5 : List AV) (a3_1 : Int) : f42 run n a0_1 a1_1 a2_1 a2_2 a2_3 a2_4 a2_5 a3_1 =
  (run 44 [.agg [.agg [.int a2_1, .blob a2_2, .blob a2_3, .int a2_4], .slice a2_5]]).bind fun r1 =>
    nilV r1.outs (consV r1.vals fun v1 vs1 =>
    nilV vs1 (bif eqI a3_1 0 then
    (run 74 [.blob v1.toBlob]).bind fun r2 =>
    bif r2.fresh then
    nilV r2.outs (consV r2.vals fun v2 vs2 =>
    nilV vs2 (some ⟨[.slice v2.toSlice], [], f42_fresh⟩))
  else none
  else
    (run 43 [.blob v1.toBlob, .blob a0_1]).bind fun r3 =>
    nilV r3.outs (consV r3.vals fun v3 vs3 =>
    nilV vs3 ((run 75 [.slice a1_1, .blob v1.toBlob, .int v3.toInt]).bind fun r4 =>
    nilV r4.outs (consV r4.vals fun v4 vs4 =>
    nilV vs4 (some ⟨[.slice v4.toSlice], [], f42_fresh⟩)))))) := by kernel_rfl
theorem f42_run (ext : Run) (n : Nat) (a0_1 : List UInt8) (a1_1 : List AV) (a2_1 : Int) (a2_2 : List UInt8) (a2_3 : List UInt8) (a2_4 : Int) (a2_5 : List AV) (a3_1 : Int) : runE G ext (n + 1) 42 [.blob a0_1, .slice a1_1, .agg [.agg [.int a2_1, .blob a2_2, .blob a2_3, .int a2_4], .slice a2_5], .int a3_1] = f42 (runE G ext n) n a0_1 a1_1 a2_1 a2_2 a2_3 a2_4 a2_5 a3_1 := runE_succ f42_at f42_in

noncomputable def f11_l3 (run : Run) (n : Nat) (k1 : Nat) (k3 : Nat) (x2_12 : Int) (x2_13 : List UInt8) (x2_14 : List UInt8) (x2_15 : Int) (x2_16 : List UInt8) (x2_17 : Int) (x2_18 : Int) (x2_19 : Int) (x2_20 : Int) (x2_21 : Int) (x2_22 : Int) (x5_2 : List AV) (x6_1 : Int) (x22_2 : List AV) (x23_2 : Int) (x24_2 : Int) (x40_1 : List AV) (x41_1 : Int) (x42_1 : Int) (o4_3 : Int) (o4_4 : Int) (o7_1 : Int) (o7_2 : List UInt8) (o7_3 : List UInt8) (o7_4 : Int) (o7_5 : List AV) : Option Res :=
  iterK (evalK G run n f11_keep 3 (sub [1, 1, 1, 0, 1, 0, 0, 1, 1, 0, 0, 1, 1, 0, 1, 0, 0] f11_body)) f11_t3 f11_o3 (blockK 3 (seqK (evalK G run n f11_keep 2 (sub [1, 1, 1, 0, 1, 0, 0, 1, 1, 0, 0, 1, 1, 1] f11_body) (blockK 2 (seqK (evalK G run n f11_keep 1 (sub [1, 1, 1, 0, 1, 0, 0, 1, 1, 1] f11_body) (seqK (fun t => iterK (evalK G run n f11_keep 1 (sub [1, 1, 1, 0, 1, 0, 0] f11_body)) f11_t1 f11_o1 (blockK 1 (seqK (evalK G run n f11_keep 0 (sub [1, 1, 1, 1] f11_body) (retE G f11_info)) (retE G f11_info))) k1 (t.clear f11_t1 f11_o1)) (blockK 1 (seqK (evalK G run n f11_keep 0 (sub [1, 1, 1, 1] f11_body) (retE G f11_info)) (retE G f11_info))))) (seqK (fun t => iterK (evalK G run n f11_keep 1 (sub [1, 1, 1, 0, 1, 0, 0] f11_body)) f11_t1 f11_o1 (blockK 1 (seqK (evalK G run n f11_keep 0 (sub [1, 1, 1, 1] f11_body) (retE G f11_info)) (retE G f11_info))) k1 (t.clear f11_t1 f11_o1)) (blockK 1 (seqK (evalK G run n f11_keep 0 (sub [1, 1, 1, 1] f11_body) (retE G f11_info)) (retE G f11_info))))))) (blockK 2 (seqK (evalK G run n f11_keep 1 (sub [1, 1, 1, 0, 1, 0, 0, 1, 1, 1] f11_body) (seqK (fun t => iterK (evalK G run n f11_keep 1 (sub [1, 1, 1, 0, 1, 0, 0] f11_body)) f11_t1 f11_o1 (blockK 1 (seqK (evalK G run n f11_keep 0 (sub [1, 1, 1, 1] f11_body) (retE G f11_info)) (retE G f11_info))) k1 (t.clear f11_t1 f11_o1)) (blockK 1 (seqK (evalK G run n f11_keep 0 (sub [1, 1, 1, 1] f11_body) (retE G f11_info)) (retE G f11_info))))) (seqK (fun t => iterK (evalK G run n f11_keep 1 (sub [1, 1, 1, 0, 1, 0, 0] f11_body)) f11_t1 f11_o1 (blockK 1 (seqK (evalK G run n f11_keep 0 (sub [1, 1, 1, 1] f11_body) (retE G f11_info)) (retE G f11_info))) k1 (t.clear f11_t1 f11_o1)) (blockK 1 (seqK (evalK G run n f11_keep 0 (sub [1, 1, 1, 1] f11_body) (retE G f11_info)) (retE G f11_info)))))))) k3
    ⟨[.any, .any, .val (.pat (.struct [(.struct [(.int .u32), (.blob 32), (.blob 32), (.int .u64)]), (.blob 32), (.int .i64), (.int .i64), (.int .i64), (.int .i64), (.int .i64), (.int .i64)])) none (.agg [.agg [.int x2_12, .blob x2_13, .blob x2_14, .int x2_15], .blob x2_16, .int x2_17, .int x2_18, .int x2_19, .int x2_20, .int x2_21, .int x2_22]), .any, .ptr ⟨(.struct [(.int .i64), (.int .i64)]), 4, 1, []⟩, .val (.slice (.blob 32)) none (.slice x5_2), .val (.int .i64) none (.int x6_1), .ptr ⟨(.struct [(.struct [(.int .u32), (.blob 32), (.blob 32), (.int .u64)]), (.slice .str)]), 7, 1, []⟩, .any, .any, .any, .any, .any, .any, .any, .any, .any, .any, .any, .any, .any, .any, .val (.slice (.struct [(.struct [(.int .u32), (.blob 32), (.blob 32), (.int .u64)]), (.slice .str)])) none (.slice x22_2), .val (.int .i64) none (.int x23_2), .val (.int .i64) none (.int x24_2), .any, .any, .any, .any, .any, .any, .any, .any, .any, .any, .any, .any, .any, .any, .any, .val (.slice (.clos [(39, ([0], [])), (40, ([0], [])), (41, ([0], []))] [(.struct [(.struct [(.struct [(.int .u32), (.blob 32), (.blob 32), (.int .u64)]), (.blob 32), (.int .i64), (.int .i64), (.int .i64), (.int .i64), (.int .i64), (.int .i64)]), (.int .i64), (.struct [(.struct [(.int .u32), (.blob 32), (.blob 32), (.int .u64)]), (.slice .str)]), (.slice (.blob 32))])])) (some (40, 0)) (.slice x40_1), .val (.int .i64) none (.int x41_1), .val (.int .i64) none (.int x42_1), .any, .any, .any, .any, .any, .any, .any, .any, .any, .any, .any, .any, .any, .any, .any, .any, .any, .any, .any], [⟨0, none⟩, ⟨0, none⟩, ⟨0, none⟩, ⟨0, none⟩, ⟨1, some ⟨(.struct [(.int .i64), (.int .i64)]), .agg [.int o4_3, .int o4_4]⟩⟩, ⟨0, none⟩, ⟨0, none⟩, ⟨1, some ⟨(.struct [(.struct [(.int .u32), (.blob 32), (.blob 32), (.int .u64)]), (.slice .str)]), .agg [.agg [.int o7_1, .blob o7_2, .blob o7_3, .int o7_4], .slice o7_5]⟩⟩, ⟨0, none⟩, ⟨0, none⟩, ⟨0, none⟩, ⟨0, none⟩, ⟨0, none⟩, ⟨0, none⟩, ⟨0, none⟩, ⟨0, none⟩, ⟨0, none⟩, ⟨0, none⟩, ⟨0, none⟩, ⟨0, none⟩, ⟨0, none⟩, ⟨0, none⟩, ⟨0, none⟩, ⟨0, none⟩, ⟨0, none⟩, ⟨0, none⟩, ⟨0, none⟩, ⟨0, none⟩, ⟨0, none⟩, ⟨0, none⟩, ⟨0, none⟩, ⟨0, none⟩, ⟨0, none⟩, ⟨0, none⟩, ⟨0, none⟩, ⟨0, none⟩, ⟨0, none⟩, ⟨0, none⟩, ⟨0, none⟩, ⟨0, none⟩, ⟨0, none⟩, ⟨0, none⟩, ⟨0, none⟩, ⟨0, none⟩, ⟨0, none⟩, ⟨0, none⟩, ⟨0, none⟩, ⟨0, none⟩, ⟨0, none⟩, ⟨0, none⟩, ⟨0, none⟩, ⟨0, none⟩, ⟨0, none⟩, ⟨0, none⟩, ⟨0, none⟩, ⟨0, none⟩, ⟨0, none⟩, ⟨0, none⟩, ⟨0, none⟩, ⟨0, none⟩, ⟨0, none⟩, ⟨0, none⟩], List.replicate 62 0⟩
noncomputable def f11_l1 (run : Run) (n : Nat) (k1 : Nat) (x2_1 : Int) (x2_2 : List UInt8) (x2_3 : List UInt8) (x2_4 : Int) (x2_5 : List UInt8) (x2_6 : Int) (x2_7 : Int) (x2_8 : Int) (x2_9 : Int) (x2_10 : Int) (x2_11 : Int) (x5_1 : List AV) (x22_1 : List AV) (x23_1 : Int) (x24_1 : Int) (o4_1 : Int) (o4_2 : Int) : Option Res :=
  iterK (evalK G run n f11_keep 1 (sub [1, 1, 1, 0, 1, 0, 0] f11_body)) f11_t1 f11_o1 (blockK 1 (seqK (evalK G run n f11_keep 0 (sub [1, 1, 1, 1] f11_body) (retE G f11_info)) (retE G f11_info))) k1
    ⟨[.any, .any, .val (.pat (.struct [(.struct [(.int .u32), (.blob 32), (.blob 32), (.int .u64)]), (.blob 32), (.int .i64), (.int .i64), (.int .i64), (.int .i64), (.int .i64), (.int .i64)])) none (.agg [.agg [.int x2_1, .blob x2_2, .blob x2_3, .int x2_4], .blob x2_5, .int x2_6, .int x2_7, .int x2_8, .int x2_9, .int x2_10, .int x2_11]), .any, .ptr ⟨(.struct [(.int .i64), (.int .i64)]), 4, 1, []⟩, .val (.slice (.blob 32)) none (.slice x5_1), .any, .any, .any, .any, .any, .any, .any, .any, .any, .any, .any, .any, .any, .any, .any, .any, .val (.slice (.struct [(.struct [(.int .u32), (.blob 32), (.blob 32), (.int .u64)]), (.slice .str)])) none (.slice x22_1), .val (.int .i64) none (.int x23_1), .val (.int .i64) none (.int x24_1), .any, .any, .any, .any, .any, .any, .any, .any, .any, .any, .any, .any, .any, .any, .any, .any, .any, .any, .any, .any, .any, .any, .any, .any, .any, .any, .any, .any, .any, .any, .any, .any, .any, .any, .any, .any, .any], [⟨0, none⟩, ⟨0, none⟩, ⟨0, none⟩, ⟨0, none⟩, ⟨1, some ⟨(.struct [(.int .i64), (.int .i64)]), .agg [.int o4_1, .int o4_2]⟩⟩, ⟨0, none⟩, ⟨0, none⟩, ⟨0, none⟩, ⟨0, none⟩, ⟨0, none⟩, ⟨0, none⟩, ⟨0, none⟩, ⟨0, none⟩, ⟨0, none⟩, ⟨0, none⟩, ⟨0, none⟩, ⟨0, none⟩, ⟨0, none⟩, ⟨0, none⟩, ⟨0, none⟩, ⟨0, none⟩, ⟨0, none⟩, ⟨0, none⟩, ⟨0, none⟩, ⟨0, none⟩, ⟨0, none⟩, ⟨0, none⟩, ⟨0, none⟩, ⟨0, none⟩, ⟨0, none⟩, ⟨0, none⟩, ⟨0, none⟩, ⟨0, none⟩, ⟨0, none⟩, ⟨0, none⟩, ⟨0, none⟩, ⟨0, none⟩, ⟨0, none⟩, ⟨0, none⟩, ⟨0, none⟩, ⟨0, none⟩, ⟨0, none⟩, ⟨0, none⟩, ⟨0, none⟩, ⟨0, none⟩, ⟨0, none⟩, ⟨0, none⟩, ⟨0, none⟩, ⟨0, none⟩, ⟨0, none⟩, ⟨0, none⟩, ⟨0, none⟩, ⟨0, none⟩, ⟨0, none⟩, ⟨0, none⟩, ⟨0, none⟩, ⟨0, none⟩, ⟨0, none⟩, ⟨0, none⟩, ⟨0, none⟩, ⟨0, none⟩, ⟨0, none⟩], List.replicate 62 0⟩
theorem f11_l3_eq (run : Run) (n : Nat) (k1 : Nat) (k3 : Nat) (x2_12 : Int) (x2_13 : List UInt8) (x2_14 : List UInt8) (x2_15 : Int) (x2_16 : List UInt8) (x2_17 : Int) (x2_18 : Int) (x2_19 : Int) (x2_20 : Int) (x2_21 : Int) (x2_22 : Int) (x5_2 : List AV) (x6_1 : Int) (x22_2 : List AV) (x23_2 : Int) (x24_2 : Int) (x40_1 : List AV) (x41_1 : Int) (x42_1 : Int) (o4_3 : Int) (o4_4 : Int) (o7_1 : Int) (o7_2 : List UInt8) (o7_3 : List UInt8) (o7_4 : Int) (o7_5 : List AV) : f11_l3 run n k1 (k3 + 1) x2_12 x2_13 x2_14 x2_15 x2_16 x2_17 x2_18 x2_19 x2_20 x2_21 x2_22 x5_2 x6_1 x22_2 x23_2 x24_2 x40_1 x41_1 x42_1 o4_3 o4_4 o7_1 o7_2 o7_3 o7_4 o7_5 =
  bif ltI x42_1 x41_1 then
    bif inR x42_1 x40_1.length then
    bif Nat.beq ((nth x40_1 (Int.toNat x42_1)).cloF) 39 then
    (run 39 [nth ((nth x40_1 (Int.toNat x42_1)).cloXs) 0]).bind fun r3 =>
    nilV r3.outs (consV r3.vals fun v3 vs3 =>
    nilV vs3 (bif !(eqI v3.toInt 0) then
    some ⟨[.agg [.int v3.toInt, .int x6_1]], [], f11_fresh⟩
  else
    f11_l3 run n k1 k3 x2_12 x2_13 x2_14 x2_15 x2_16 x2_17 x2_18 x2_19 x2_20 x2_21 x2_22 x5_2 x6_1 x22_2 x23_2 x24_2 x40_1 x41_1 (IntKind.wrap .i64 (x42_1 + 1)) o4_3 o4_4 o7_1 o7_2 o7_3 o7_4 o7_5))
  else
    bif Nat.beq ((nth x40_1 (Int.toNat x42_1)).cloF) 40 then
    (run 40 [nth ((nth x40_1 (Int.toNat x42_1)).cloXs) 0]).bind fun r2 =>
    nilV r2.outs (consV r2.vals fun v2 vs2 =>
    nilV vs2 (bif !(eqI v2.toInt 0) then
    some ⟨[.agg [.int v2.toInt, .int x6_1]], [], f11_fresh⟩
  else
    f11_l3 run n k1 k3 x2_12 x2_13 x2_14 x2_15 x2_16 x2_17 x2_18 x2_19 x2_20 x2_21 x2_22 x5_2 x6_1 x22_2 x23_2 x24_2 x40_1 x41_1 (IntKind.wrap .i64 (x42_1 + 1)) o4_3 o4_4 o7_1 o7_2 o7_3 o7_4 o7_5))
  else
    bif Nat.beq ((nth x40_1 (Int.toNat x42_1)).cloF) 41 then
    (run 41 [nth ((nth x40_1 (Int.toNat x42_1)).cloXs) 0]).bind fun r1 =>
    nilV r1.outs (consV r1.vals fun v1 vs1 =>
    nilV vs1 (bif !(eqI v1.toInt 0) then
    some ⟨[.agg [.int v1.toInt, .int x6_1]], [], f11_fresh⟩
  else
    f11_l3 run n k1 k3 x2_12 x2_13 x2_14 x2_15 x2_16 x2_17 x2_18 x2_19 x2_20 x2_21 x2_22 x5_2 x6_1 x22_2 x23_2 x24_2 x40_1 x41_1 (IntKind.wrap .i64 (x42_1 + 1)) o4_3 o4_4 o7_1 o7_2 o7_3 o7_4 o7_5))
  else
    none
  else none
  else
    (run 42 [.blob x2_16, .slice x5_2, .agg [.agg [.int o7_1, .blob o7_2, .blob o7_3, .int o7_4], .slice o7_5], .int x6_1]).bind fun r4 =>
    nilV r4.outs (consV r4.vals fun v4 vs4 =>
    nilV vs4 (f11_l1 run n k1 x2_12 x2_13 x2_14 x2_15 x2_16 x2_17 x2_18 x2_19 x2_20 x2_21 x2_22 v4.toSlice x22_2 x23_2 (IntKind.wrap .i64 (x24_2 + 1)) o4_3 o4_4)) := by kernel_rfl
theorem f11_l1_eq (run : Run) (n : Nat) (k1 : Nat) (x2_1 : Int) (x2_2 : List UInt8) (x2_3 : List UInt8) (x2_4 : Int) (x2_5 : List UInt8) (x2_6 : Int) (x2_7 : Int) (x2_8 : Int) (x2_9 : Int) (x2_10 : Int) (x2_11 : Int) (x5_1 : List AV) (x22_1 : List AV) (x23_1 : Int) (x24_1 : Int) (o4_1 : Int) (o4_2 : Int) : f11_l1 run n (k1 + 1) x2_1 x2_2 x2_3 x2_4 x2_5 x2_6 x2_7 x2_8 x2_9 x2_10 x2_11 x5_1 x22_1 x23_1 x24_1 o4_1 o4_2 =
  bif ltI x24_1 x23_1 then
    bif inR x24_1 x22_1.length then
    f11_l3 run n k1 n x2_1 x2_2 x2_3 x2_4 x2_5 x2_6 x2_7 x2_8 x2_9 x2_10 x2_11 x5_1 x24_1 x22_1 x23_1 x24_1 [.clo 39 [.agg [.agg [.agg [.int x2_1, .blob x2_2, .blob x2_3, .int x2_4], .blob x2_5, .int x2_6, .int x2_7, .int x2_8, .int x2_9, .int x2_10, .int x2_11], .int x24_1, .agg [.agg [.int ((((nth x22_1 (Int.toNat x24_1)).fld 0).fld 0).toInt), .blob ((((nth x22_1 (Int.toNat x24_1)).fld 0).fld 1).toBlob), .blob ((((nth x22_1 (Int.toNat x24_1)).fld 0).fld 2).toBlob), .int ((((nth x22_1 (Int.toNat x24_1)).fld 0).fld 3).toInt)], .slice (((nth x22_1 (Int.toNat x24_1)).fld 1).toSlice)], .slice x5_1]], .clo 40 [.agg [.agg [.agg [.int x2_1, .blob x2_2, .blob x2_3, .int x2_4], .blob x2_5, .int x2_6, .int x2_7, .int x2_8, .int x2_9, .int x2_10, .int x2_11], .int x24_1, .agg [.agg [.int ((((nth x22_1 (Int.toNat x24_1)).fld 0).fld 0).toInt), .blob ((((nth x22_1 (Int.toNat x24_1)).fld 0).fld 1).toBlob), .blob ((((nth x22_1 (Int.toNat x24_1)).fld 0).fld 2).toBlob), .int ((((nth x22_1 (Int.toNat x24_1)).fld 0).fld 3).toInt)], .slice (((nth x22_1 (Int.toNat x24_1)).fld 1).toSlice)], .slice x5_1]], .clo 41 [.agg [.agg [.agg [.int x2_1, .blob x2_2, .blob x2_3, .int x2_4], .blob x2_5, .int x2_6, .int x2_7, .int x2_8, .int x2_9, .int x2_10, .int x2_11], .int x24_1, .agg [.agg [.int ((((nth x22_1 (Int.toNat x24_1)).fld 0).fld 0).toInt), .blob ((((nth x22_1 (Int.toNat x24_1)).fld 0).fld 1).toBlob), .blob ((((nth x22_1 (Int.toNat x24_1)).fld 0).fld 2).toBlob), .int ((((nth x22_1 (Int.toNat x24_1)).fld 0).fld 3).toInt)], .slice (((nth x22_1 (Int.toNat x24_1)).fld 1).toSlice)], .slice x5_1]]] 3 0 o4_1 o4_2 ((((nth x22_1 (Int.toNat x24_1)).fld 0).fld 0).toInt) ((((nth x22_1 (Int.toNat x24_1)).fld 0).fld 1).toBlob) ((((nth x22_1 (Int.toNat x24_1)).fld 0).fld 2).toBlob) ((((nth x22_1 (Int.toNat x24_1)).fld 0).fld 3).toInt) (((nth x22_1 (Int.toNat x24_1)).fld 1).toSlice)
  else none
  else
    some ⟨[.agg [.int 0, .int 0]], [], f11_fresh⟩ := by kernel_rfl
noncomputable def f11 (run : Run) (n : Nat) (a0_1 : Int) (a0_2 : List UInt8) (a0_3 : List UInt8) (a0_4 : Int) (a0_5 : List UInt8) (a0_6 : Int) (a0_7 : Int) (a0_8 : Int) (a0_9 : Int) (a0_10 : Int) (a0_11 : Int) (a1_1 : List AV) : Option Res := evalK G run n f11_info.keep 0 f11_info.body (retE G f11_info) (f11_info.start [.agg [.agg [.int a0_1, .blob a0_2, .blob a0_3, .int a0_4], .blob a0_5, .int a0_6, .int a0_7, .int a0_8, .int a0_9, .int a0_10, .int a0_11], .slice a1_1])
theorem f11_eq (run : Run) (n : Nat) (a0_1 : Int) (a0_2 : List UInt8) (a0_3 : List UInt8) (a0_4 : Int) (a0_5 : List UInt8) (a0_6 : Int) (a0_7 : Int) (a0_8 : Int) (a0_9 : Int) (a0_10 : Int) (a0_11 : Int) (a1_1 : List AV) : f11 run n a0_1 a0_2 a0_3 a0_4 a0_5 a0_6 a0_7 a0_8 a0_9 a0_10 a0_11 a1_1 =
  bif eqI (a1_1.length : Int) 0 then
    some ⟨[.agg [.int 6, .int 0]], [], f11_fresh⟩
  else
    bif ltI 1024 (a1_1.length : Int) then
    some ⟨[.agg [.int 4, .int 1024]], [], f11_fresh⟩
  else
    f11_l1 run n n a0_1 a0_2 a0_3 a0_4 a0_5 a0_6 a0_7 a0_8 a0_9 a0_10 a0_11 [] a1_1 (a1_1.length : Int) 0 0 0 := by kernel_rfl
theorem f11_run (ext : Run) (n : Nat) (a0_1 : Int) (a0_2 : List UInt8) (a0_3 : List UInt8) (a0_4 : Int) (a0_5 : List UInt8) (a0_6 : Int) (a0_7 : Int) (a0_8 : Int) (a0_9 : Int) (a0_10 : Int) (a0_11 : Int) (a1_1 : List AV) : runE G ext (n + 1) 11 [.agg [.agg [.int a0_1, .blob a0_2, .blob a0_3, .int a0_4], .blob a0_5, .int a0_6, .int a0_7, .int a0_8, .int a0_9, .int a0_10, .int a0_11], .slice a1_1] = f11 (runE G ext n) n a0_1 a0_2 a0_3 a0_4 a0_5 a0_6 a0_7 a0_8 a0_9 a0_10 a0_11 a1_1 := runE_succ f11_at f11_in

noncomputable def f24 (run : Run) (n : Nat) (a0_1 : Int) (a0_2 : List UInt8) (a0_3 : List UInt8) (a0_4 : Int) (a0_5 : List UInt8) (a0_6 : Int) (a0_7 : Int) (a0_8 : Int) (a0_9 : Int) (a0_10 : Int) (a0_11 : Int) (a1_1 : List AV) : Option Res := evalK G run n f24_info.keep 0 f24_info.body (retE G f24_info) (f24_info.start [.agg [.agg [.int a0_1, .blob a0_2, .blob a0_3, .int a0_4], .blob a0_5, .int a0_6, .int a0_7, .int a0_8, .int a0_9, .int a0_10, .int a0_11], .slice a1_1])
theorem f24_eq (run : Run) (n : Nat) (a0_1 : Int) (a0_2 : List UInt8) (a0_3 : List UInt8) (a0_4 : Int) (a0_5 : List UInt8) (a0_6 : Int) (a0_7 : Int) (a0_8 : Int) (a0_9 : Int) (a0_10 : Int) (a0_11 : Int) (a1_1 : List AV) : f24 run n a0_1 a0_2 a0_3 a0_4 a0_5 a0_6 a0_7 a0_8 a0_9 a0_10 a0_11 a1_1 =
  (run 11 [.agg [.agg [.int a0_1, .blob a0_2, .blob a0_3, .int a0_4], .blob a0_5, .int a0_6, .int a0_7, .int a0_8, .int a0_9, .int a0_10, .int a0_11], .slice a1_1]).bind fun r1 =>
    nilV r1.outs (consV r1.vals fun v1 vs1 =>
    nilV vs1 (bif !(eqI ((v1.fld 0).toInt) 0) then
    some ⟨[.int ((v1.fld 0).toInt)], [], f24_fresh⟩
  else
    (run 10 [.int a0_6, .int a0_7, .int a0_8, .int a0_9]).bind fun r2 =>
    nilV r2.outs (consV r2.vals fun v2 vs2 =>
    nilV vs2 (bif !v2.toBool then
    some ⟨[.int 13], [], f24_fresh⟩
  else
    bif leI (a1_1.length : Int) a0_7 then
    some ⟨[.int 11], [], f24_fresh⟩
  else
    some ⟨[.int 0], [], f24_fresh⟩)))) := by kernel_rfl
theorem f24_run (ext : Run) (n : Nat) (a0_1 : Int) (a0_2 : List UInt8) (a0_3 : List UInt8) (a0_4 : Int) (a0_5 : List UInt8) (a0_6 : Int) (a0_7 : Int) (a0_8 : Int) (a0_9 : Int) (a0_10 : Int) (a0_11 : Int) (a1_1 : List AV) : runE G ext (n + 1) 24 [.agg [.agg [.int a0_1, .blob a0_2, .blob a0_3, .int a0_4], .blob a0_5, .int a0_6, .int a0_7, .int a0_8, .int a0_9, .int a0_10, .int a0_11], .slice a1_1] = f24 (runE G ext n) n a0_1 a0_2 a0_3 a0_4 a0_5 a0_6 a0_7 a0_8 a0_9 a0_10 a0_11 a1_1 := runE_succ f24_at f24_in

noncomputable def f13_l0 (run : Run) (n : Nat) (k0 : Nat) (x5_1 : List AV) (x9_1 : List AV) (x10_1 : Int) (x11_1 : Int) (o2_1 : List UInt8) : Option Res :=
  iterK (evalK G run n f13_keep 0 (sub [1, 1, 0, 1, 0, 0] f13_body)) f13_t0 f13_o0 (blockK 0 (seqK (evalK G run n f13_keep 0 (sub [1, 1, 1] f13_body) (retE G f13_info)) (retE G f13_info))) k0
    ⟨[.any, .any, .ptr ⟨(.blob 32), 2, 1, []⟩, .any, .any, .val (.slice (.int .i64)) (some (5, 0)) (.slice x5_1), .any, .any, .any, .val (.slice (.struct [(.struct [(.int .u32), (.blob 32), (.blob 32), (.int .u64)]), (.slice .str)])) none (.slice x9_1), .val (.int .i64) none (.int x10_1), .val (.int .i64) none (.int x11_1), .any, .any, .any, .any, .any, .any, .any, .any, .any, .any, .any, .any, .any, .any, .any, .any], [⟨0, none⟩, ⟨0, none⟩, ⟨1, some ⟨(.blob 32), .blob o2_1⟩⟩, ⟨0, none⟩, ⟨0, none⟩, ⟨0, none⟩, ⟨0, none⟩, ⟨0, none⟩, ⟨0, none⟩, ⟨0, none⟩, ⟨0, none⟩, ⟨0, none⟩, ⟨0, none⟩, ⟨0, none⟩, ⟨0, none⟩, ⟨0, none⟩, ⟨0, none⟩, ⟨0, none⟩, ⟨0, none⟩, ⟨0, none⟩, ⟨0, none⟩, ⟨0, none⟩, ⟨0, none⟩, ⟨0, none⟩, ⟨0, none⟩, ⟨0, none⟩, ⟨0, none⟩, ⟨0, none⟩], List.replicate 28 0⟩
theorem f13_l0_eq (run : Run) (n : Nat) (k0 : Nat) (x5_1 : List AV) (x9_1 : List AV) (x10_1 : Int) (x11_1 : Int) (o2_1 : List UInt8) : f13_l0 run n (k0 + 1) x5_1 x9_1 x10_1 x11_1 o2_1 =
  bif ltI x11_1 x10_1 then
    bif inR x11_1 x9_1.length then
    (run 44 [.agg [.agg [.int ((((nth x9_1 (Int.toNat x11_1)).fld 0).fld 0).toInt), .blob ((((nth x9_1 (Int.toNat x11_1)).fld 0).fld 1).toBlob), .blob ((((nth x9_1 (Int.toNat x11_1)).fld 0).fld 2).toBlob), .int ((((nth x9_1 (Int.toNat x11_1)).fld 0).fld 3).toInt)], .slice (((nth x9_1 (Int.toNat x11_1)).fld 1).toSlice)]]).bind fun r1 =>
    nilV r1.outs (consV r1.vals fun v1 vs1 =>
    nilV vs1 ((run 43 [.blob v1.toBlob, .blob o2_1]).bind fun r2 =>
    nilV r2.outs (consV r2.vals fun v2 vs2 =>
    nilV vs2 (bif eqI x11_1 0 then
    bif Nat.ble ((x5_1.length + 1) * 8) 140737488355328 then
    f13_l0 run n k0 (x5_1 ++ [.int 256]) x9_1 x10_1 (IntKind.wrap .i64 (x11_1 + 1)) o2_1
  else none
  else
    bif Nat.ble ((x5_1.length + 1) * 8) 140737488355328 then
    f13_l0 run n k0 (x5_1 ++ [.int v2.toInt]) x9_1 x10_1 (IntKind.wrap .i64 (x11_1 + 1)) o2_1
  else none))))
  else none
  else
    some ⟨[.slice x5_1], [], f13_fresh⟩ := by kernel_rfl
noncomputable def f13 (run : Run) (n : Nat) (a0_1 : List UInt8) (a1_1 : List AV) : Option Res := evalK G run n f13_info.keep 0 f13_info.body (retE G f13_info) (f13_info.start [.blob a0_1, .slice a1_1])
theorem f13_eq (run : Run) (n : Nat) (a0_1 : List UInt8) (a1_1 : List AV) : f13 run n a0_1 a1_1 =
  f13_l0 run n n [] a1_1 (a1_1.length : Int) 0 a0_1 := by kernel_rfl
theorem f13_run (ext : Run) (n : Nat) (a0_1 : List UInt8) (a1_1 : List AV) : runE G ext (n + 1) 13 [.blob a0_1, .slice a1_1] = f13 (runE G ext n) n a0_1 a1_1 := runE_succ f13_at f13_in

noncomputable def f45_l0 (run : Run) (n : Nat) (k0 : Nat) (x3_1 : Int) (x6_1 : List AV) (x7_1 : Int) (x8_1 : Int) : Option Res :=
  iterK (evalK G run n f45_keep 0 (sub [1, 1, 0, 1, 0, 0] f45_body)) f45_t0 f45_o0 (blockK 0 (seqK (evalK G run n f45_keep 0 (sub [1, 1, 1] f45_body) (retE G f45_info)) (retE G f45_info))) k0
    ⟨[.any, .any, .any, .val (.int .i64) none (.int x3_1), .any, .any, .val (.slice (.int .i64)) none (.slice x6_1), .val (.int .i64) none (.int x7_1), .val (.int .i64) none (.int x8_1), .any, .any, .any, .any, .any, .any, .any, .any, .any, .any, .any, .any], [⟨0, none⟩, ⟨0, none⟩, ⟨0, none⟩, ⟨0, none⟩, ⟨0, none⟩, ⟨0, none⟩, ⟨0, none⟩, ⟨0, none⟩, ⟨0, none⟩, ⟨0, none⟩, ⟨0, none⟩, ⟨0, none⟩, ⟨0, none⟩, ⟨0, none⟩, ⟨0, none⟩, ⟨0, none⟩, ⟨0, none⟩, ⟨0, none⟩, ⟨0, none⟩, ⟨0, none⟩, ⟨0, none⟩], List.replicate 21 0⟩
theorem f45_l0_eq (run : Run) (n : Nat) (k0 : Nat) (x3_1 : Int) (x6_1 : List AV) (x7_1 : Int) (x8_1 : Int) : f45_l0 run n (k0 + 1) x3_1 x6_1 x7_1 x8_1 =
  bif ltI x8_1 x7_1 then
    bif inR x8_1 x6_1.length then
    bif ltI 0 x8_1 then
    f45_l0 run n k0 (mx2 x3_1 ((nth x6_1 (Int.toNat x8_1)).toInt)) x6_1 x7_1 (IntKind.wrap .i64 (x8_1 + 1))
  else
    f45_l0 run n k0 x3_1 x6_1 x7_1 (IntKind.wrap .i64 (x8_1 + 1))
  else none
  else
    some ⟨[.int (mn2 x3_1 255)], [], f45_fresh⟩ := by kernel_rfl
noncomputable def f45 (run : Run) (n : Nat) (a0_1 : List AV) : Option Res := evalK G run n f45_info.keep 0 f45_info.body (retE G f45_info) (f45_info.start [.slice a0_1])
theorem f45_eq (run : Run) (n : Nat) (a0_1 : List AV) : f45 run n a0_1 =
  f45_l0 run n n 0 a0_1 (a0_1.length : Int) 0 := by kernel_rfl
theorem f45_run (ext : Run) (n : Nat) (a0_1 : List AV) : runE G ext (n + 1) 45 [.slice a0_1] = f45 (runE G ext n) n a0_1 := runE_succ f45_at f45_in

noncomputable def f225 (run : Run) (n : Nat) (a0_1 : Int) : Option Res := evalK G run n f225_info.keep 0 f225_info.body (retE G f225_info) (f225_info.start [.int a0_1])
theorem f225_eq (run : Run) (n : Nat) (a0_1 : Int) : f225 run n a0_1 =
  some ⟨[.agg [.int a0_1, .int 0, .int 0, .int 0, .int 0]], [], f225_fresh⟩ := by kernel_rfl
theorem f225_run (ext : Run) (n : Nat) (a0_1 : Int) : runE G ext (n + 1) 225 [.int a0_1] = f225 (runE G ext n) n a0_1 := runE_succ f225_at f225_in

noncomputable def f232_l0 (run : Run) (n : Nat) (k0 : Nat) (x1_1 : Int) (x7_1 : Int) (x11_1 : Int) (o2_1 : List AV) (o4_1 : List AV) (o6_1 : List AV) : Option Res :=
  iterK (evalK G run n f232_keep 0 (sub [1, 1, 1, 0, 1, 0, 0] f232_body)) f232_t0 f232_o0 (blockK 0 (seqK (evalK G run n f232_keep 0 (sub [1, 1, 1, 1] f232_body) (retE G f232_info)) (retE G f232_info))) k0
    ⟨[.any, .val (.int .u64) none (.int x1_1), .ptr ⟨(.arr 5 (.int .u64)), 2, 1, []⟩, .any, .ptr ⟨(.arr 5 (.int .u64)), 4, 1, []⟩, .any, .ptr ⟨(.arr 5 (.int .u64)), 6, 1, []⟩, .val (.int .u64) none (.int x7_1), .any, .any, .any, .val (.int .i64) none (.int x11_1), .any, .any, .any, .any, .any, .any, .any, .any, .any, .any, .any, .any, .any, .any, .any, .any, .any, .any, .any, .any, .any, .any, .any, .any, .any, .any, .any, .any, .any, .any, .any, .any], [⟨0, none⟩, ⟨0, none⟩, ⟨1, some ⟨(.arr 5 (.int .u64)), .agg o2_1⟩⟩, ⟨0, none⟩, ⟨1, some ⟨(.arr 5 (.int .u64)), .agg o4_1⟩⟩, ⟨0, none⟩, ⟨1, some ⟨(.arr 5 (.int .u64)), .agg o6_1⟩⟩, ⟨0, none⟩, ⟨0, none⟩, ⟨0, none⟩, ⟨0, none⟩, ⟨0, none⟩, ⟨0, none⟩, ⟨0, none⟩, ⟨0, none⟩, ⟨0, none⟩, ⟨0, none⟩, ⟨0, none⟩, ⟨0, none⟩, ⟨0, none⟩, ⟨0, none⟩, ⟨0, none⟩, ⟨0, none⟩, ⟨0, none⟩, ⟨0, none⟩, ⟨0, none⟩, ⟨0, none⟩, ⟨0, none⟩, ⟨0, none⟩, ⟨0, none⟩, ⟨0, none⟩, ⟨0, none⟩, ⟨0, none⟩, ⟨0, none⟩, ⟨0, none⟩, ⟨0, none⟩, ⟨0, none⟩, ⟨0, none⟩, ⟨0, none⟩, ⟨0, none⟩, ⟨0, none⟩, ⟨0, none⟩, ⟨0, none⟩, ⟨0, none⟩], List.replicate 44 0⟩
theorem f232_l0_eq (run : Run) (n : Nat) (k0 : Nat) (x1_1 : Int) (x7_1 : Int) (x11_1 : Int) (o2_1 : List AV) (o4_1 : List AV) (o6_1 : List AV) : f232_l0 run n (k0 + 1) x1_1 x7_1 x11_1 o2_1 o4_1 o6_1 =
  bif ltI x11_1 5 then
    bif inR x11_1 5 then
    bif inR x11_1 5 then
    bif inR x11_1 5 then
    f232_l0 run n k0 x1_1 (Int.fdiv (IntKind.wrap .u64 (IntKind.wrap .u64 (Int.fdiv ((AV.fld (.agg o2_1) (Int.toNat x11_1)).toInt) (2 ^ 32) * x1_1) + Int.fdiv (IntKind.wrap .u64 (IntKind.wrap .u64 (IntKind.wrap .u64 (BitVec.toNat (BitVec.ofInt 64 ((AV.fld (.agg o2_1) (Int.toNat x11_1)).toInt) &&& BitVec.ofInt 64 4294967295)) * x1_1) + x7_1)) (2 ^ 32))) (2 ^ 32)) (IntKind.wrap .i64 (x11_1 + 1)) o2_1 o4_1 (o6_1.set (Int.toNat x11_1) (.int (IntKind.wrap .u64 (BitVec.toNat (BitVec.ofInt 64 (IntKind.wrap .u64 (IntKind.wrap .u64 (IntKind.wrap .u64 (Int.fdiv ((AV.fld (.agg o2_1) (Int.toNat x11_1)).toInt) (2 ^ 32) * x1_1) + Int.fdiv (IntKind.wrap .u64 (IntKind.wrap .u64 (IntKind.wrap .u64 (BitVec.toNat (BitVec.ofInt 64 ((AV.fld (.agg o2_1) (Int.toNat x11_1)).toInt) &&& BitVec.ofInt 64 4294967295)) * x1_1) + x7_1)) (2 ^ 32)) * 2 ^ 32)) ||| BitVec.ofInt 64 (IntKind.wrap .u64 (BitVec.toNat (BitVec.ofInt 64 (IntKind.wrap .u64 (IntKind.wrap .u64 (IntKind.wrap .u64 (BitVec.toNat (BitVec.ofInt 64 ((AV.fld (.agg o2_1) (Int.toNat x11_1)).toInt) &&& BitVec.ofInt 64 4294967295)) * x1_1) + x7_1)) &&& BitVec.ofInt 64 4294967295))))))))
  else none
  else none
  else none
  else
    some ⟨[.agg o6_1, .bool (eqI x7_1 0)], [], f232_fresh⟩ := by kernel_rfl
noncomputable def f232 (run : Run) (n : Nat) (a0_1 : List AV) (a1_1 : Int) : Option Res := evalK G run n f232_info.keep 0 f232_info.body (retE G f232_info) (f232_info.start [.agg a0_1, .int a1_1])
theorem f232_eq (run : Run) (n : Nat) (a0_1 : List AV) (a1_1 : Int) : f232 run n a0_1 a1_1 =
  f232_l0 run n n a1_1 0 0 a0_1 (List.replicate 5 (.int 0)) (List.replicate 5 (.int 0)) := by kernel_rfl
theorem f232_run (ext : Run) (n : Nat) (a0_1 : List AV) (a1_1 : Int) : runE G ext (n + 1) 232 [.agg a0_1, .int a1_1] = f232 (runE G ext n) n a0_1 a1_1 := runE_succ f232_at f232_in

noncomputable def f235_l0 (run : Run) (n : Nat) (k0 : Nat) (x0_1 : Int) (x3_1 : Int) (x5_1 : Int) : Option Res :=
  iterK (evalK G run n f235_keep 0 (sub [1, 1, 0, 1, 0, 0] f235_body)) f235_t0 f235_o0 (blockK 0 (seqK (evalK G run n f235_keep 0 (sub [1, 1, 1] f235_body) (retE G f235_info)) (retE G f235_info))) k0
    ⟨[.val (.int .u64) none (.int x0_1), .any, .any, .val (.int .i64) none (.int x3_1), .any, .val (.int .i64) none (.int x5_1), .any, .any, .any, .any, .any, .any, .any, .any, .any, .any, .any, .any], [⟨0, none⟩, ⟨0, none⟩, ⟨0, none⟩, ⟨0, none⟩, ⟨0, none⟩, ⟨0, none⟩, ⟨0, none⟩, ⟨0, none⟩, ⟨0, none⟩, ⟨0, none⟩, ⟨0, none⟩, ⟨0, none⟩, ⟨0, none⟩, ⟨0, none⟩, ⟨0, none⟩, ⟨0, none⟩, ⟨0, none⟩, ⟨0, none⟩], List.replicate 18 0⟩
theorem f235_l0_eq (run : Run) (n : Nat) (k0 : Nat) (x0_1 : Int) (x3_1 : Int) (x5_1 : Int) : f235_l0 run n (k0 + 1) x0_1 x3_1 x5_1 =
  bif ltI x5_1 64 then
    bif leI 0 (IntKind.wrap .u64 (IntKind.wrap .i64 (63 - x5_1))) then
    bif !(eqI (Int.fdiv x0_1 (2 ^ (min (Int.toNat (IntKind.wrap .u64 (IntKind.wrap .i64 (63 - x5_1)))) 64))) 0) then
    some ⟨[.int x3_1], [], f235_fresh⟩
  else
    f235_l0 run n k0 x0_1 (IntKind.wrap .i64 (x3_1 + 1)) (IntKind.wrap .i64 (x5_1 + 1))
  else none
  else
    some ⟨[.int x3_1], [], f235_fresh⟩ := by kernel_rfl
noncomputable def f235 (run : Run) (n : Nat) (a0_1 : Int) : Option Res := evalK G run n f235_info.keep 0 f235_info.body (retE G f235_info) (f235_info.start [.int a0_1])
theorem f235_eq (run : Run) (n : Nat) (a0_1 : Int) : f235 run n a0_1 =
  f235_l0 run n n a0_1 0 0 := by kernel_rfl
theorem f235_run (ext : Run) (n : Nat) (a0_1 : Int) : runE G ext (n + 1) 235 [.int a0_1] = f235 (runE G ext n) n a0_1 := runE_succ f235_at f235_in

noncomputable def f234_l0 (run : Run) (n : Nat) (k0 : Nat) (x5_1 : Int) (o1_1 : List AV) : Option Res :=
  iterK (evalK G run n f234_keep 0 (sub [1, 0, 1, 0, 0] f234_body)) f234_t0 f234_o0 (blockK 0 (seqK (evalK G run n f234_keep 0 (sub [1, 1] f234_body) (retE G f234_info)) (retE G f234_info))) k0
    ⟨[.any, .ptr ⟨(.arr 5 (.int .u64)), 1, 1, []⟩, .any, .any, .any, .val (.int .i64) none (.int x5_1), .any, .any, .any, .any, .any, .any, .any, .any, .any, .any, .any, .any, .any, .any, .any], [⟨0, none⟩, ⟨1, some ⟨(.arr 5 (.int .u64)), .agg o1_1⟩⟩, ⟨0, none⟩, ⟨0, none⟩, ⟨0, none⟩, ⟨0, none⟩, ⟨0, none⟩, ⟨0, none⟩, ⟨0, none⟩, ⟨0, none⟩, ⟨0, none⟩, ⟨0, none⟩, ⟨0, none⟩, ⟨0, none⟩, ⟨0, none⟩, ⟨0, none⟩, ⟨0, none⟩, ⟨0, none⟩, ⟨0, none⟩, ⟨0, none⟩, ⟨0, none⟩], List.replicate 21 0⟩
theorem f234_l0_eq (run : Run) (n : Nat) (k0 : Nat) (x5_1 : Int) (o1_1 : List AV) : f234_l0 run n (k0 + 1) x5_1 o1_1 =
  bif ltI x5_1 5 then
    bif inR (IntKind.wrap .i64 (4 - x5_1)) 5 then
    bif !(eqI ((AV.fld (.agg o1_1) (Int.toNat (IntKind.wrap .i64 (4 - x5_1)))).toInt) 0) then
    (run 235 [.int ((AV.fld (.agg o1_1) (Int.toNat (IntKind.wrap .i64 (4 - x5_1)))).toInt)]).bind fun r1 =>
    nilV r1.outs (consV r1.vals fun v1 vs1 =>
    nilV vs1 (some ⟨[.int (IntKind.wrap .i64 (IntKind.wrap .i64 (320 - IntKind.wrap .i64 (64 * x5_1)) - v1.toInt))], [], f234_fresh⟩))
  else
    f234_l0 run n k0 (IntKind.wrap .i64 (x5_1 + 1)) o1_1
  else none
  else
    some ⟨[.int 0], [], f234_fresh⟩ := by kernel_rfl
noncomputable def f234 (run : Run) (n : Nat) (a0_1 : List AV) : Option Res := evalK G run n f234_info.keep 0 f234_info.body (retE G f234_info) (f234_info.start [.agg a0_1])
theorem f234_eq (run : Run) (n : Nat) (a0_1 : List AV) : f234 run n a0_1 =
  f234_l0 run n n 0 a0_1 := by kernel_rfl
theorem f234_run (ext : Run) (n : Nat) (a0_1 : List AV) : runE G ext (n + 1) 234 [.agg a0_1] = f234 (runE G ext n) n a0_1 := runE_succ f234_at f234_in

end Go.Proofs.YtogehijjhibdkaaGreat.Ev
