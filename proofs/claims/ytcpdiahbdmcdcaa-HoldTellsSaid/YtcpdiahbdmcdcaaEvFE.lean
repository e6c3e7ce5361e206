/- What the evaluator does with the functions, as programs over plain values: printed by gen.py, checked by the kernel. -/
import Derived.Test.YtcpdiahbdmcdcaaEvFA
namespace Go.Proofs.Ytcpdiahbdmcdcaa.Ev
open Go Go.RowKit
set_option maxRecDepth 100000


noncomputable def f13_l0 (run : Run) (n : Nat) (k0 : Nat) (x6_1 : List AV) (x7_1 : List AV) (x10_1 : Int) (x11_1 : Int) (o5_1 : List AV) (o9_1 : Int) (o9_2 : List UInt8) (o9_3 : List UInt8) (o9_4 : Int) (o9_5 : List AV) : Option Res :=
  iterK (evalK G run n f13_keep 0 (sub [1, 1, 1, 1, 1, 1, 0, 1, 0, 0] f13_body)) f13_t0 f13_o0 (blockK 0 (seqK (evalK G run n f13_keep 0 (sub [1, 1, 1, 1, 1, 1, 1] f13_body) (retE G f13_info)) (retE G f13_info))) k0
    ⟨[.any, .any, .any, .any, .any, .ptr ⟨(.arr 2 (.int .u32)), 5, 1, []⟩, .val (.slice (.blob 32)) none (.slice x6_1), .val (.slice .str) none (.slice x7_1), .any, .ptr ⟨(.struct [(.struct [(.int .u32), (.blob 32), (.blob 32), (.int .u64)]), (.slice .str)]), 9, 1, []⟩, .val (.int .i64) none (.int x10_1), .val (.int .i64) none (.int x11_1), .any, .any, .any, .any, .any, .any, .any, .any, .any, .any, .any, .any, .any, .any, .any, .any, .any, .any, .any, .any, .any, .any, .any, .any, .any, .any, .any, .any, .any, .any, .any, .any, .any, .any, .any, .any, .any, .any, .any, .any, .any, .any, .any, .any, .any, .any, .any, .any, .any, .any, .any, .any, .any, .any, .any, .any, .any, .any, .any, .any, .any, .any, .any, .any], [⟨0, none⟩, ⟨0, none⟩, ⟨0, none⟩, ⟨0, none⟩, ⟨0, none⟩, ⟨1, some ⟨(.arr 2 (.int .u32)), .agg o5_1⟩⟩, ⟨0, none⟩, ⟨0, none⟩, ⟨0, none⟩, ⟨1, some ⟨(.struct [(.struct [(.int .u32), (.blob 32), (.blob 32), (.int .u64)]), (.slice .str)]), .agg [.agg [.int o9_1, .blob o9_2, .blob o9_3, .int o9_4], .slice o9_5]⟩⟩, ⟨0, none⟩, ⟨0, none⟩, ⟨0, none⟩, ⟨0, none⟩, ⟨0, none⟩, ⟨0, none⟩, ⟨0, none⟩, ⟨0, none⟩, ⟨0, none⟩, ⟨0, none⟩, ⟨0, none⟩, ⟨0, none⟩, ⟨0, none⟩, ⟨0, none⟩, ⟨0, none⟩, ⟨0, none⟩, ⟨0, none⟩, ⟨0, none⟩, ⟨0, none⟩, ⟨0, none⟩, ⟨0, none⟩, ⟨0, none⟩, ⟨0, none⟩, ⟨0, none⟩, ⟨0, none⟩, ⟨0, none⟩, ⟨0, none⟩, ⟨0, none⟩, ⟨0, none⟩, ⟨0, none⟩, ⟨0, none⟩, ⟨0, none⟩, ⟨0, none⟩, ⟨0, none⟩, ⟨0, none⟩, ⟨0, none⟩, ⟨0, none⟩, ⟨0, none⟩, ⟨0, none⟩, ⟨0, none⟩, ⟨0, none⟩, ⟨0, none⟩, ⟨0, none⟩, ⟨0, none⟩, ⟨0, none⟩, ⟨0, none⟩, ⟨0, none⟩, ⟨0, none⟩, ⟨0, none⟩, ⟨0, none⟩, ⟨0, none⟩, ⟨0, none⟩, ⟨0, none⟩, ⟨0, none⟩, ⟨0, none⟩, ⟨0, none⟩, ⟨0, none⟩, ⟨0, none⟩, ⟨0, none⟩, ⟨0, none⟩, ⟨0, none⟩, ⟨0, none⟩, ⟨0, none⟩, ⟨0, none⟩, ⟨0, none⟩, ⟨0, none⟩], List.replicate 76 0⟩
theorem f13_l0_eq (run : Run) (n : Nat) (k0 : Nat) (x6_1 : List AV) (x7_1 : List AV) (x10_1 : Int) (x11_1 : Int) (o5_1 : List AV) (o9_1 : Int) (o9_2 : List UInt8) (o9_3 : List UInt8) (o9_4 : Int) (o9_5 : List AV) : f13_l0 run n (k0 + 1) x6_1 x7_1 x10_1 x11_1 o5_1 o9_1 o9_2 o9_3 o9_4 o9_5 =
  bif ltI x11_1 (x7_1.length : Int) then
    bif inR x11_1 x7_1.length then
    bif ltI 4096 (((nth x7_1 (Int.toNat x11_1)).toStr).length : Int) then
    f13_l0 run n k0 x6_1 x7_1 4 (IntKind.wrap .i64 (x11_1 + 1)) o5_1 o9_1 o9_2 o9_3 o9_4 o9_5
  else
    f13_l0 run n k0 x6_1 x7_1 x10_1 (IntKind.wrap .i64 (x11_1 + 1)) o5_1 o9_1 o9_2 o9_3 o9_4 o9_5
  else none
  else
    (run 55 [.agg [.agg [.int o9_1, .blob o9_2, .blob o9_3, .int o9_4], .slice o9_5], .int ((AV.fld (.agg o5_1) 0).toInt), .slice x6_1]).bind fun r7 =>
    nilV r7.outs (consV r7.vals fun v7 vs7 =>
    nilV vs7 (bif eqI v7.toInt x10_1 then
    (run 51 []).bind fun r8 =>
    nilV r8.outs (consV r8.vals fun v8 vs8 =>
    nilV vs8 (some ⟨[.bool v8.toBool], [], f13_fresh⟩))
  else
    some ⟨[.bool false], [], f13_fresh⟩)) := by kernel_rfl
noncomputable def f13 (run : Run) (n : Nat) (a0_1 : Int) (a0_2 : List AV) (a0_3 : List AV) (a0_4 : Int) (a1_1 : Int) : Option Res := evalK G run n f13_info.keep 0 f13_info.body (retE G f13_info) (f13_info.start [.agg [.int a0_1, .slice a0_2, .slice a0_3, .int a0_4], .int a1_1])
theorem f13_eq (run : Run) (n : Nat) (a0_1 : Int) (a0_2 : List AV) (a0_3 : List AV) (a0_4 : Int) (a1_1 : Int) : f13 run n a0_1 a0_2 a0_3 a0_4 a1_1 =
  bif ltI 60 (a0_2.length : Int) then
    (run 51 []).bind fun r1 =>
    nilV r1.outs (consV r1.vals fun v1 vs1 =>
    nilV vs1 (some ⟨[.bool v1.toBool], [], f13_fresh⟩))
  else
    bif ltI 60 (a0_3.length : Int) then
    (run 51 []).bind fun r2 =>
    nilV r2.outs (consV r2.vals fun v2 vs2 =>
    nilV vs2 (some ⟨[.bool v2.toBool], [], f13_fresh⟩))
  else
    (run 50 [.slice a0_3]).bind fun r3 =>
    nilV r3.outs (consV r3.vals fun v3 vs3 =>
    nilV vs3 (bif v3.toBool then
    (run 51 []).bind fun r4 =>
    nilV r4.outs (consV r4.vals fun v4 vs4 =>
    nilV vs4 (some ⟨[.bool v4.toBool], [], f13_fresh⟩))
  else
    (run 52 [.int ((AV.fld (.agg [.int a0_1, .int a1_1]) 0).toInt), .slice a0_2, .slice a0_3, .int a0_4]).bind fun r5 =>
    nilV r5.outs (consV r5.vals fun v5 vs5 =>
    nilV vs5 (bif !(eqI ((AV.fld (.agg [.int a0_1, .int a1_1]) 0).toInt) ((AV.fld (.agg [.int a0_1, .int a1_1]) 1).toInt)) then
    (run 55 [.agg [.agg [.int (((v5.fld 0).fld 0).toInt), .blob (((v5.fld 0).fld 1).toBlob), .blob (((v5.fld 0).fld 2).toBlob), .int (((v5.fld 0).fld 3).toInt)], .slice ((v5.fld 1).toSlice)], .int ((AV.fld (.agg [.int a0_1, .int a1_1]) 1).toInt), .slice a0_2]).bind fun r6 =>
    nilV r6.outs (consV r6.vals fun v6 vs6 =>
    nilV vs6 (bif !(eqI v6.toInt 8) then
    some ⟨[.bool false], [], f13_fresh⟩
  else
    f13_l0 run n n a0_2 a0_3 0 0 [.int a0_1, .int a1_1] (((v5.fld 0).fld 0).toInt) (((v5.fld 0).fld 1).toBlob) (((v5.fld 0).fld 2).toBlob) (((v5.fld 0).fld 3).toInt) ((v5.fld 1).toSlice)))
  else
    f13_l0 run n n a0_2 a0_3 0 0 [.int a0_1, .int a1_1] (((v5.fld 0).fld 0).toInt) (((v5.fld 0).fld 1).toBlob) (((v5.fld 0).fld 2).toBlob) (((v5.fld 0).fld 3).toInt) ((v5.fld 1).toSlice))))) := by kernel_rfl
theorem f13_run (ext : Run) (n : Nat) (a0_1 : Int) (a0_2 : List AV) (a0_3 : List AV) (a0_4 : Int) (a1_1 : Int) : runE G ext (n + 1) 13 [.agg [.int a0_1, .slice a0_2, .slice a0_3, .int a0_4], .int a1_1] = f13 (runE G ext n) n a0_1 a0_2 a0_3 a0_4 a1_1 := runE_succ f13_at f13_in

noncomputable def f123 (run : Run) (n : Nat) (a0_1 : Int) (a1_1 : Bool) (a2_1 : Int) (a2_2 : Int) (a2_3 : List AV) (a3_1 : List AV) : Option Res := evalK G run n f123_info.keep 0 f123_info.body (retE G f123_info) (f123_info.start [.int a0_1, .bool a1_1, .agg [.int a2_1, .int a2_2, .slice a2_3], .slice a3_1])
theorem f123_eq (run : Run) (n : Nat) (a0_1 : Int) (a1_1 : Bool) (a2_1 : Int) (a2_2 : Int) (a2_3 : List AV) (a3_1 : List AV) : f123 run n a0_1 a1_1 a2_1 a2_2 a2_3 a3_1 =
  bif a1_1 then
    bif inR a0_1 a2_3.length then
    bif inR a0_1 a3_1.length then
    (run 100 [.blob ((nth a2_3 (Int.toNat a0_1)).toBlob), .blob ((nth a3_1 (Int.toNat a0_1)).toBlob)]).bind fun r1 =>
    nilV r1.outs (consV r1.vals fun v1 vs1 =>
    nilV vs1 (some ⟨[.str v1.toStr], [.agg [.int a2_1, .int a2_2, .slice a2_3], .slice a3_1], f123_fresh⟩))
  else none
  else none
  else
    bif inR a0_1 a3_1.length then
    bif inR a0_1 a2_3.length then
    (run 100 [.blob ((nth a3_1 (Int.toNat a0_1)).toBlob), .blob ((nth a2_3 (Int.toNat a0_1)).toBlob)]).bind fun r2 =>
    nilV r2.outs (consV r2.vals fun v2 vs2 =>
    nilV vs2 (some ⟨[.str v2.toStr], [.agg [.int a2_1, .int a2_2, .slice a2_3], .slice a3_1], f123_fresh⟩))
  else none
  else none := by kernel_rfl
theorem f123_run (ext : Run) (n : Nat) (a0_1 : Int) (a1_1 : Bool) (a2_1 : Int) (a2_2 : Int) (a2_3 : List AV) (a3_1 : List AV) : runE G ext (n + 1) 123 [.int a0_1, .bool a1_1, .agg [.int a2_1, .int a2_2, .slice a2_3], .slice a3_1] = f123 (runE G ext n) n a0_1 a1_1 a2_1 a2_2 a2_3 a3_1 := runE_succ f123_at f123_in

noncomputable def f111_l0 (run : Run) (n : Nat) (k0 : Nat) (x5_1 : List AV) (x24_1 : List AV) (x25_1 : Int) (x26_1 : Int) (o3_1 : Int) (o3_2 : Int) (o3_3 : List AV) (o4_1 : List AV) : Option Res :=
  iterK (evalK G run n f111_keep 0 (sub [1, 1, 1, 1, 1, 0, 1, 0, 0] f111_body)) f111_t0 f111_o0 (blockK 0 (seqK (evalK G run n f111_keep 0 (sub [1, 1, 1, 1, 1, 1] f111_body) (retE G f111_info)) (retE G f111_info))) k0
    ⟨[.any, .any, .any, .ptr ⟨(.struct [(.int .i64), (.int .i64), (.slice (.blob 32))]), 3, 1, []⟩, .ptr ⟨(.slice (.blob 32)), 4, 1, []⟩, .val (.slice .str) (some (5, 0)) (.slice x5_1), .clo 123 [⟨(.struct [(.int .i64), (.int .i64), (.slice (.blob 32))]), 3, 1, []⟩, ⟨(.slice (.blob 32)), 4, 1, []⟩], .any, .any, .any, .any, .any, .any, .any, .any, .any, .any, .any, .any, .any, .any, .any, .any, .any, .val (.slice .bool) (some (24, 0)) (.slice x24_1), .val (.int .i64) none (.int x25_1), .val (.int .i64) none (.int x26_1), .any, .any, .any, .any, .any, .any, .any, .any, .any, .any, .any, .any, .any, .any, .any, .any, .any, .any, .any, .any, .any, .any, .any, .any, .any], [⟨0, none⟩, ⟨0, none⟩, ⟨0, none⟩, ⟨1, some ⟨(.struct [(.int .i64), (.int .i64), (.slice (.blob 32))]), .agg [.int o3_1, .int o3_2, .slice o3_3]⟩⟩, ⟨1, some ⟨(.slice (.blob 32)), .slice o4_1⟩⟩, ⟨0, none⟩, ⟨0, none⟩, ⟨0, none⟩, ⟨0, none⟩, ⟨0, none⟩, ⟨0, none⟩, ⟨0, none⟩, ⟨0, none⟩, ⟨0, none⟩, ⟨0, none⟩, ⟨0, none⟩, ⟨0, none⟩, ⟨0, none⟩, ⟨0, none⟩, ⟨0, none⟩, ⟨0, none⟩, ⟨0, none⟩, ⟨0, none⟩, ⟨0, none⟩, ⟨0, none⟩, ⟨0, none⟩, ⟨0, none⟩, ⟨0, none⟩, ⟨0, none⟩, ⟨0, none⟩, ⟨0, none⟩, ⟨0, none⟩, ⟨0, none⟩, ⟨0, none⟩, ⟨0, none⟩, ⟨0, none⟩, ⟨0, none⟩, ⟨0, none⟩, ⟨0, none⟩, ⟨0, none⟩, ⟨0, none⟩, ⟨0, none⟩, ⟨0, none⟩, ⟨0, none⟩, ⟨0, none⟩, ⟨0, none⟩, ⟨0, none⟩, ⟨0, none⟩, ⟨0, none⟩, ⟨0, none⟩, ⟨0, none⟩, ⟨0, none⟩], List.replicate 52 0⟩
theorem f111_l0_eq (run : Run) (n : Nat) (k0 : Nat) (x5_1 : List AV) (x24_1 : List AV) (x25_1 : Int) (x26_1 : Int) (o3_1 : Int) (o3_2 : Int) (o3_3 : List AV) (o4_1 : List AV) : f111_l0 run n (k0 + 1) x5_1 x24_1 x25_1 x26_1 o3_1 o3_2 o3_3 o4_1 =
  bif ltI x26_1 x25_1 then
    bif inR x26_1 x24_1.length then
    (run 123 [.int x26_1, .bool ((nth x24_1 (Int.toNat x26_1)).toBool), .agg [.int o3_1, .int o3_2, .slice o3_3], .slice o4_1]).bind fun r4 =>
    consV r4.outs fun y1 ys1 =>
    consV ys1 fun y2 ys2 =>
    nilV ys2 (consV r4.vals fun v4 vs4 =>
    nilV vs4 (bif Nat.ble ((x5_1.length + 1) * 16) 140737488355328 then
    f111_l0 run n k0 (x5_1 ++ [.str v4.toStr]) x24_1 x25_1 (IntKind.wrap .i64 (x26_1 + 1)) ((y1.fld 0).toInt) ((y1.fld 1).toInt) ((y1.fld 2).toSlice) y2.toSlice
  else none))
  else none
  else
    bif inR (IntKind.wrap .i64 ((o4_1.length : Int) - 1)) o4_1.length then
    (run 98 [.int (IntKind.wrap .u64 o3_2), .blob ((nth o4_1 (Int.toNat (IntKind.wrap .i64 ((o4_1.length : Int) - 1)))).toBlob)]).bind fun r5 =>
    nilV r5.outs (consV r5.vals fun v5 vs5 =>
    nilV vs5 (bif Nat.ble ((x5_1.length + 1) * 16) 140737488355328 then
    some ⟨[.slice (x5_1 ++ [.str v5.toStr])], [], f111_fresh⟩
  else none))
  else none := by kernel_rfl
noncomputable def f111 (run : Run) (n : Nat) (a0_1 : List UInt8) (a0_2 : Int) (a0_3 : Int) (a0_4 : List AV) : Option Res := evalK G run n f111_info.keep 0 f111_info.body (retE G f111_info) (f111_info.start [.agg [.str a0_1, .agg [.int a0_2, .int a0_3, .slice a0_4]]])
theorem f111_eq (run : Run) (n : Nat) (a0_1 : List UInt8) (a0_2 : Int) (a0_3 : Int) (a0_4 : List AV) : f111 run n a0_1 a0_2 a0_3 a0_4 =
  (run 35 [.str a0_1, .agg [.int a0_2, .int a0_3, .slice a0_4]]).bind fun r1 =>
    bif r1.fresh then
    nilV r1.outs (consV r1.vals fun v1 vs1 =>
    nilV vs1 ((run 96 [.str a0_1]).bind fun r2 =>
    nilV r2.outs (consV r2.vals fun v2 vs2 =>
    nilV vs2 ((run 75 [.int a0_3, .int a0_2]).bind fun r3 =>
    bif r3.fresh then
    nilV r3.outs (consV r3.vals fun v3 vs3 =>
    nilV vs3 (f111_l0 run n n [.str v2.toStr] v3.toSlice (v3.toSlice.length : Int) 0 a0_2 a0_3 a0_4 v1.toSlice))
  else none))))
  else none := by kernel_rfl
theorem f111_run (ext : Run) (n : Nat) (a0_1 : List UInt8) (a0_2 : Int) (a0_3 : Int) (a0_4 : List AV) : runE G ext (n + 1) 111 [.agg [.str a0_1, .agg [.int a0_2, .int a0_3, .slice a0_4]]] = f111 (runE G ext n) n a0_1 a0_2 a0_3 a0_4 := runE_succ f111_at f111_in

noncomputable def f89_l0 (run : Run) (n : Nat) (k0 : Nat) (x9_1 : List AV) (x10_1 : List AV) (x11_1 : Int) : Option Res :=
  iterK (evalK G run n f89_keep 0 (sub [1, 1, 1, 0, 1, 0, 0] f89_body)) f89_t0 f89_o0 (blockK 0 (seqK (evalK G run n f89_keep 0 (sub [1, 1, 1, 1] f89_body) (retE G f89_info)) (retE G f89_info))) k0
    ⟨[.any, .any, .any, .any, .any, .any, .any, .any, .any, .val (.slice .str) (some (9, 0)) (.slice x9_1), .val (.slice .str) (some (10, 0)) (.slice x10_1), .val (.int .i64) none (.int x11_1), .any, .any, .any, .any, .any, .any, .any, .any, .any, .any, .any, .any, .any, .any, .any, .any, .any, .any, .any, .any, .any, .any, .any, .any, .any, .any, .any, .any, .any, .any, .any, .any, .any, .any, .any, .any, .any, .any, .any, .any, .any, .any, .any, .any, .any, .any, .any, .any, .any, .any, .any, .any, .any, .any, .any, .any, .any, .any, .any, .any, .any, .any, .any, .any, .any, .any, .any, .any, .any], [⟨0, none⟩, ⟨0, none⟩, ⟨0, none⟩, ⟨0, none⟩, ⟨0, none⟩, ⟨0, none⟩, ⟨0, none⟩, ⟨0, none⟩, ⟨0, none⟩, ⟨0, none⟩, ⟨0, none⟩, ⟨0, none⟩, ⟨0, none⟩, ⟨0, none⟩, ⟨0, none⟩, ⟨0, none⟩, ⟨0, none⟩, ⟨0, none⟩, ⟨0, none⟩, ⟨0, none⟩, ⟨0, none⟩, ⟨0, none⟩, ⟨0, none⟩, ⟨0, none⟩, ⟨0, none⟩, ⟨0, none⟩, ⟨0, none⟩, ⟨0, none⟩, ⟨0, none⟩, ⟨0, none⟩, ⟨0, none⟩, ⟨0, none⟩, ⟨0, none⟩, ⟨0, none⟩, ⟨0, none⟩, ⟨0, none⟩, ⟨0, none⟩, ⟨0, none⟩, ⟨0, none⟩, ⟨0, none⟩, ⟨0, none⟩, ⟨0, none⟩, ⟨0, none⟩, ⟨0, none⟩, ⟨0, none⟩, ⟨0, none⟩, ⟨0, none⟩, ⟨0, none⟩, ⟨0, none⟩, ⟨0, none⟩, ⟨0, none⟩, ⟨0, none⟩, ⟨0, none⟩, ⟨0, none⟩, ⟨0, none⟩, ⟨0, none⟩, ⟨0, none⟩, ⟨0, none⟩, ⟨0, none⟩, ⟨0, none⟩, ⟨0, none⟩, ⟨0, none⟩, ⟨0, none⟩, ⟨0, none⟩, ⟨0, none⟩, ⟨0, none⟩, ⟨0, none⟩, ⟨0, none⟩, ⟨0, none⟩, ⟨0, none⟩, ⟨0, none⟩, ⟨0, none⟩, ⟨0, none⟩, ⟨0, none⟩, ⟨0, none⟩, ⟨0, none⟩, ⟨0, none⟩, ⟨0, none⟩, ⟨0, none⟩, ⟨0, none⟩, ⟨0, none⟩], List.replicate 81 0⟩
theorem f89_l0_eq (run : Run) (n : Nat) (k0 : Nat) (x9_1 : List AV) (x10_1 : List AV) (x11_1 : Int) : f89_l0 run n (k0 + 1) x9_1 x10_1 x11_1 =
  bif leI x11_1 (x9_1.length : Int) then
    bif leI x11_1 (x10_1.length : Int) then
    bif inR (IntKind.wrap .i64 ((x9_1.length : Int) - x11_1)) x9_1.length then
    bif inR (IntKind.wrap .i64 ((x10_1.length : Int) - x11_1)) x10_1.length then
    bif !(eqS ((nth x9_1 (Int.toNat (IntKind.wrap .i64 ((x9_1.length : Int) - x11_1)))).toStr) ((nth x10_1 (Int.toNat (IntKind.wrap .i64 ((x10_1.length : Int) - x11_1)))).toStr)) then
    some ⟨[.str ((nth x9_1 (Int.toNat (IntKind.wrap .i64 ((x9_1.length : Int) - x11_1)))).toStr), .str ((nth x10_1 (Int.toNat (IntKind.wrap .i64 ((x10_1.length : Int) - x11_1)))).toStr), .bool true], [], f89_fresh⟩
  else
    f89_l0 run n k0 x9_1 x10_1 (IntKind.wrap .i64 (x11_1 + 1))
  else none
  else none
  else
    some ⟨[.str [], .str [], .bool false], [], f89_fresh⟩
  else
    some ⟨[.str [], .str [], .bool false], [], f89_fresh⟩ := by kernel_rfl
noncomputable def f89 (run : Run) (n : Nat) (a0_1 : List UInt8) (a1_1 : List UInt8) (a1_2 : Int) (a1_3 : Int) (a1_4 : List AV) (a2_1 : List UInt8) (a2_2 : Int) (a2_3 : Int) (a2_4 : List AV) : Option Res := evalK G run n f89_info.keep 0 f89_info.body (retE G f89_info) (f89_info.start [.blob a0_1, .agg [.str a1_1, .agg [.int a1_2, .int a1_3, .slice a1_4]], .agg [.str a2_1, .agg [.int a2_2, .int a2_3, .slice a2_4]]])
theorem f89_eq (run : Run) (n : Nat) (a0_1 : List UInt8) (a1_1 : List UInt8) (a1_2 : Int) (a1_3 : Int) (a1_4 : List AV) (a2_1 : List UInt8) (a2_2 : Int) (a2_3 : Int) (a2_4 : List AV) : f89 run n a0_1 a1_1 a1_2 a1_3 a1_4 a2_1 a2_2 a2_3 a2_4 =
  (run 38 [.blob a0_1, .str a1_1, .agg [.int a1_2, .int a1_3, .slice a1_4]]).bind fun r1 =>
    nilV r1.outs (consV r1.vals fun v1 vs1 =>
    nilV vs1 (bif !v1.toBool then
    some ⟨[.str [], .str [], .bool false], [], f89_fresh⟩
  else
    (run 38 [.blob a0_1, .str a2_1, .agg [.int a2_2, .int a2_3, .slice a2_4]]).bind fun r2 =>
    nilV r2.outs (consV r2.vals fun v2 vs2 =>
    nilV vs2 (bif !v2.toBool then
    some ⟨[.str [], .str [], .bool false], [], f89_fresh⟩
  else
    bif !(eqI a1_2 a2_2) then
    some ⟨[.str [], .str [], .bool false], [], f89_fresh⟩
  else
    bif eqS a1_1 a2_1 then
    some ⟨[.str [], .str [], .bool false], [], f89_fresh⟩
  else
    (run 111 [.agg [.str a1_1, .agg [.int a1_2, .int a1_3, .slice a1_4]]]).bind fun r3 =>
    bif r3.fresh then
    nilV r3.outs (consV r3.vals fun v3 vs3 =>
    nilV vs3 ((run 111 [.agg [.str a2_1, .agg [.int a2_2, .int a2_3, .slice a2_4]]]).bind fun r4 =>
    bif r4.fresh then
    nilV r4.outs (consV r4.vals fun v4 vs4 =>
    nilV vs4 (f89_l0 run n n v3.toSlice v4.toSlice 1))
  else none))
  else none)))) := by kernel_rfl
theorem f89_run (ext : Run) (n : Nat) (a0_1 : List UInt8) (a1_1 : List UInt8) (a1_2 : Int) (a1_3 : Int) (a1_4 : List AV) (a2_1 : List UInt8) (a2_2 : Int) (a2_3 : Int) (a2_4 : List AV) : runE G ext (n + 1) 89 [.blob a0_1, .agg [.str a1_1, .agg [.int a1_2, .int a1_3, .slice a1_4]], .agg [.str a2_1, .agg [.int a2_2, .int a2_3, .slice a2_4]]] = f89 (runE G ext n) n a0_1 a1_1 a1_2 a1_3 a1_4 a2_1 a2_2 a2_3 a2_4 := runE_succ f89_at f89_in

noncomputable def f90 (run : Run) (n : Nat) (a0_1 : List UInt8) : Option Res := evalK G run n f90_info.keep 0 f90_info.body (retE G f90_info) (f90_info.start [.str a0_1])
theorem f90_eq (run : Run) (n : Nat) (a0_1 : List UInt8) : f90 run n a0_1 =
  (run 95 [.str a0_1]).bind fun r1 =>
    nilV r1.outs (consV r1.vals fun v1 vs1 =>
    nilV vs1 (some ⟨[.blob v1.toBlob], [], f90_fresh⟩)) := by kernel_rfl
theorem f90_run (ext : Run) (n : Nat) (a0_1 : List UInt8) : runE G ext (n + 1) 90 [.str a0_1] = f90 (runE G ext n) n a0_1 := runE_succ f90_at f90_in

noncomputable def f59 (run : Run) (n : Nat) (a0_1 : List UInt8) (a1_1 : List UInt8) : Option Res := evalK G run n f59_info.keep 0 f59_info.body (retE G f59_info) (f59_info.start [.str a0_1, .str a1_1])
theorem f59_eq (run : Run) (n : Nat) (a0_1 : List UInt8) (a1_1 : List UInt8) : f59 run n a0_1 a1_1 =
  bif !(eqS a0_1 a1_1) then
    (run 90 [.str a0_1]).bind fun r1 =>
    nilV r1.outs (consV r1.vals fun v1 vs1 =>
    nilV vs1 ((run 90 [.str a1_1]).bind fun r2 =>
    nilV r2.outs (consV r2.vals fun v2 vs2 =>
    nilV vs2 (some ⟨[.bool (eqS v1.toBlob v2.toBlob)], [], f59_fresh⟩))))
  else
    some ⟨[.bool false], [], f59_fresh⟩ := by kernel_rfl
theorem f59_run (ext : Run) (n : Nat) (a0_1 : List UInt8) (a1_1 : List UInt8) : runE G ext (n + 1) 59 [.str a0_1, .str a1_1] = f59 (runE G ext n) n a0_1 a1_1 := runE_succ f59_at f59_in

noncomputable def f58 (run : Run) (n : Nat) : Option Res := evalK G run n f58_info.keep 0 f58_info.body (retE G f58_info) (f58_info.start [])
theorem f58_eq (run : Run) (n : Nat) : f58 run n  =
  (run 21 [.slice [.str [97]]]).bind fun r1 =>
    nilV r1.outs (consV r1.vals fun v1 vs1 =>
    nilV vs1 ((run 89 [.blob v1.toBlob, .agg [.str [97], .agg [.int 0, .int 1, .slice []]], .agg [.str [97], .agg [.int 0, .int 1, .slice []]]]).bind fun r2 =>
    nilV r2.outs (consV r2.vals fun _v2 vs2 =>
    consV vs2 fun _v3 vs3 =>
    consV vs3 fun v4 vs4 =>
    nilV vs4 (bif !v4.toBool then
    (run 38 [.blob v1.toBlob, .str [97], .agg [.int 0, .int 1, .slice []]]).bind fun r3 =>
    nilV r3.outs (consV r3.vals fun v5 vs5 =>
    nilV vs5 (bif v5.toBool then
    (run 59 [.str [97], .str [97]]).bind fun r4 =>
    nilV r4.outs (consV r4.vals fun v6 vs6 =>
    nilV vs6 (some ⟨[.bool (!v6.toBool)], [], f58_fresh⟩))
  else
    some ⟨[.bool false], [], f58_fresh⟩))
  else
    some ⟨[.bool false], [], f58_fresh⟩)))) := by kernel_rfl
theorem f58_run (ext : Run) (n : Nat) : runE G ext (n + 1) 58 [] = f58 (runE G ext n) n  := runE_succ f58_at f58_in

noncomputable def f14 (run : Run) (n : Nat) (a0_1 : List UInt8) (a1_1 : List UInt8) : Option Res := evalK G run n f14_info.keep 0 f14_info.body (retE G f14_info) (f14_info.start [.str a0_1, .str a1_1])
theorem f14_eq (run : Run) (n : Nat) (a0_1 : List UInt8) (a1_1 : List UInt8) : f14 run n a0_1 a1_1 =
  bif ltI 2000 (a0_1.length : Int) then
    (run 58 []).bind fun r1 =>
    nilV r1.outs (consV r1.vals fun v1 vs1 =>
    nilV vs1 (some ⟨[.bool v1.toBool], [], f14_fresh⟩))
  else
    bif ltI 2000 (a1_1.length : Int) then
    (run 58 []).bind fun r2 =>
    nilV r2.outs (consV r2.vals fun v2 vs2 =>
    nilV vs2 (some ⟨[.bool v2.toBool], [], f14_fresh⟩))
  else
    (run 59 [.str a0_1, .str a1_1]).bind fun r3 =>
    nilV r3.outs (consV r3.vals fun v3 vs3 =>
    nilV vs3 (bif !(eqS a0_1 a1_1) then
    (run 60 [.str a0_1]).bind fun r4 =>
    nilV r4.outs (consV r4.vals fun v4 vs4 =>
    nilV vs4 ((run 60 [.str a1_1]).bind fun r5 =>
    nilV r5.outs (consV r5.vals fun v5 vs5 =>
    nilV vs5 (bif eqO v3.toBool (eqS v4.toBlob v5.toBlob) then
    (run 58 []).bind fun r6 =>
    nilV r6.outs (consV r6.vals fun v6 vs6 =>
    nilV vs6 (some ⟨[.bool v6.toBool], [], f14_fresh⟩))
  else
    some ⟨[.bool false], [], f14_fresh⟩))))
  else
    bif eqO v3.toBool false then
    (run 58 []).bind fun r7 =>
    nilV r7.outs (consV r7.vals fun v7 vs7 =>
    nilV vs7 (some ⟨[.bool v7.toBool], [], f14_fresh⟩))
  else
    some ⟨[.bool false], [], f14_fresh⟩)) := by kernel_rfl
theorem f14_run (ext : Run) (n : Nat) (a0_1 : List UInt8) (a1_1 : List UInt8) : runE G ext (n + 1) 14 [.str a0_1, .str a1_1] = f14 (runE G ext n) n a0_1 a1_1 := runE_succ f14_at f14_in

end Go.Proofs.Ytcpdiahbdmcdcaa.Ev
