/- What the evaluator does with the functions, as programs over plain values: printed by gen.py, checked by the kernel. -/
import Derived.Test.YtbpllpdmkhojoaaEvFA
namespace Go.Proofs.Ytbpllpdmkhojoaa.Ev
open Go Go.RowKit
set_option maxRecDepth 100000


noncomputable def f107_l0 (run : Run) (n : Nat) (k0 : Nat) (x18_1 : List AV) (x19_1 : Int) (o0_1 : List AV) (o0_2 : List UInt8) (o0_3 : Int) (o0_4 : Bool) (o2_1 : List UInt8) (o4_1 : List UInt8) : Option Res :=
  iterK (evalK G run n f107_keep 0 (sub [1, 1, 1, 1, 1, 0, 1, 0, 0] f107_body)) f107_t0 f107_o0 (blockK 0 (seqK (evalK G run n f107_keep 0 (sub [1, 1, 1, 1, 1, 1] f107_body) (retE G f107_info)) (retE G f107_info))) k0
    ⟨[.ptr ⟨(.struct [(.arr 8 (.int .u32)), .str, (.int .u64), .bool]), 0, 0, []⟩, .any, .ptr ⟨(.blob 32), 2, 1, []⟩, .any, .ptr ⟨(.blob 32), 4, 1, []⟩, .any, .any, .any, .any, .any, .any, .any, .any, .any, .any, .any, .any, .any, .val (.arr 8 (.int .u32)) none (.agg x18_1), .val (.int .i64) none (.int x19_1), .any, .any, .any, .any, .any, .any, .any, .any, .any, .any, .any, .any, .any, .any, .any, .any, .any], [⟨0, some ⟨(.struct [(.arr 8 (.int .u32)), .str, (.int .u64), .bool]), .agg [.agg o0_1, .str o0_2, .int o0_3, .bool o0_4]⟩⟩, ⟨0, none⟩, ⟨1, some ⟨(.blob 32), .blob o2_1⟩⟩, ⟨0, none⟩, ⟨1, some ⟨(.blob 32), .blob o4_1⟩⟩, ⟨0, none⟩, ⟨0, none⟩, ⟨0, none⟩, ⟨0, none⟩, ⟨0, none⟩, ⟨0, none⟩, ⟨0, none⟩, ⟨0, none⟩, ⟨0, none⟩, ⟨0, none⟩, ⟨0, none⟩, ⟨0, none⟩, ⟨0, none⟩, ⟨0, none⟩, ⟨0, none⟩, ⟨0, none⟩, ⟨0, none⟩, ⟨0, none⟩, ⟨0, none⟩, ⟨0, none⟩, ⟨0, none⟩, ⟨0, none⟩, ⟨0, none⟩, ⟨0, none⟩, ⟨0, none⟩, ⟨0, none⟩, ⟨0, none⟩, ⟨0, none⟩, ⟨0, none⟩, ⟨0, none⟩, ⟨0, none⟩, ⟨0, none⟩], List.replicate 37 0⟩
theorem f107_l0_eq (run : Run) (n : Nat) (k0 : Nat) (x18_1 : List AV) (x19_1 : Int) (o0_1 : List AV) (o0_2 : List UInt8) (o0_3 : Int) (o0_4 : Bool) (o2_1 : List UInt8) (o4_1 : List UInt8) : f107_l0 run n (k0 + 1) x18_1 x19_1 o0_1 o0_2 o0_3 o0_4 o2_1 o4_1 =
  bif ltI x19_1 8 then
    bif inR x19_1 8 then
    bif boundsOk (IntKind.wrap .i64 (4 * x19_1)) (IntKind.wrap .i64 (IntKind.wrap .i64 (4 * x19_1) + 4)) (IntKind.wrap .i64 (IntKind.wrap .i64 (4 * x19_1) + 4)) 32 && true then
    (run 115 [.int ((AV.fld (.agg x18_1) (Int.toNat x19_1)).toInt)]).bind fun r3 =>
    nilV r3.outs (consV r3.vals fun v2 vs2 =>
    nilV vs2 (f107_l0 run n k0 x18_1 (IntKind.wrap .i64 (x19_1 + 1)) o0_1 o0_2 o0_3 o0_4 o2_1 (bytesOf (splice (ofBytes o4_1) (Int.toNat (IntKind.wrap .i64 (4 * x19_1))) (List.take ((Int.toNat (IntKind.wrap .i64 (IntKind.wrap .i64 (4 * x19_1) + 4))) - (Int.toNat (IntKind.wrap .i64 (4 * x19_1)))) (ofBytes v2.toStr))))))
  else none
  else none
  else
    some ⟨[.blob o4_1], [.agg [.agg o0_1, .str o0_2, .int o0_3, .bool o0_4]], f107_fresh⟩ := by kernel_rfl
noncomputable def f107 (run : Run) (n : Nat) (a0_1 : List AV) (a0_2 : List UInt8) (a0_3 : Int) (a0_4 : Bool) : Option Res := evalK G run n f107_info.keep 0 f107_info.body (retE G f107_info) (f107_info.start [.agg [.agg a0_1, .str a0_2, .int a0_3, .bool a0_4]])
theorem f107_eq (run : Run) (n : Nat) (a0_1 : List AV) (a0_2 : List UInt8) (a0_3 : Int) (a0_4 : Bool) : f107 run n a0_1 a0_2 a0_3 a0_4 =
  (run 121 [.int a0_3]).bind fun r1 =>
    nilV r1.outs (consV r1.vals fun v1 vs1 =>
    nilV vs1 ((run 106 [.agg [.agg a0_1, .str a0_2, .int a0_3, .bool a0_4], .str v1.toStr]).bind fun r2 =>
    consV r2.outs fun y1 ys1 =>
    nilV ys1 (nilV r2.vals (f107_l0 run n n ((y1.fld 0).toAgg) 0 a0_1 a0_2 a0_3 a0_4 (List.replicate 32 0) (List.replicate 32 0))))) := by kernel_rfl
theorem f107_run (ext : Run) (n : Nat) (a0_1 : List AV) (a0_2 : List UInt8) (a0_3 : Int) (a0_4 : Bool) : runE G ext (n + 1) 107 [.agg [.agg a0_1, .str a0_2, .int a0_3, .bool a0_4]] = f107 (runE G ext n) n a0_1 a0_2 a0_3 a0_4 := runE_succ f107_at f107_in

noncomputable def f89 (run : Run) (n : Nat) (a0_1 : List UInt8) : Option Res := evalK G run n f89_info.keep 0 f89_info.body (retE G f89_info) (f89_info.start [.str a0_1])
theorem f89_eq (run : Run) (n : Nat) (a0_1 : List UInt8) : f89 run n a0_1 =
  (run 105 []).bind fun r1 =>
    nilV r1.outs (consV r1.vals fun v1 vs1 =>
    nilV vs1 ((run 106 [.agg [.agg ((v1.fld 0).toAgg), .str ((v1.fld 1).toStr), .int ((v1.fld 2).toInt), .bool ((v1.fld 3).toBool)], .str a0_1]).bind fun r2 =>
    consV r2.outs fun y1 ys1 =>
    nilV ys1 (nilV r2.vals ((run 107 [.agg [.agg ((y1.fld 0).toAgg), .str ((y1.fld 1).toStr), .int ((y1.fld 2).toInt), .bool ((y1.fld 3).toBool)]]).bind fun r3 =>
    consV r3.outs fun _y2 ys2 =>
    nilV ys2 (consV r3.vals fun v2 vs2 =>
    nilV vs2 (some ⟨[.blob v2.toBlob], [], f89_fresh⟩)))))) := by kernel_rfl
theorem f89_run (ext : Run) (n : Nat) (a0_1 : List UInt8) : runE G ext (n + 1) 89 [.str a0_1] = f89 (runE G ext n) n a0_1 := runE_succ f89_at f89_in

noncomputable def f70 (run : Run) (n : Nat) (a0_1 : List UInt8) : Option Res := evalK G run n f70_info.keep 0 f70_info.body (retE G f70_info) (f70_info.start [.str a0_1])
theorem f70_eq (run : Run) (n : Nat) (a0_1 : List UInt8) : f70 run n a0_1 =
  (run 82 [.str a0_1]).bind fun r1 =>
    nilV r1.outs (consV r1.vals fun v1 vs1 =>
    nilV vs1 ((run 89 [.str v1.toStr]).bind fun r2 =>
    nilV r2.outs (consV r2.vals fun v2 vs2 =>
    nilV vs2 (some ⟨[.blob v2.toBlob], [], f70_fresh⟩)))) := by kernel_rfl
theorem f70_run (ext : Run) (n : Nat) (a0_1 : List UInt8) : runE G ext (n + 1) 70 [.str a0_1] = f70 (runE G ext n) n a0_1 := runE_succ f70_at f70_in

noncomputable def f84 (run : Run) (n : Nat) (a0_1 : List UInt8) (a1_1 : List UInt8) : Option Res := evalK G run n f84_info.keep 0 f84_info.body (retE G f84_info) (f84_info.start [.blob a0_1, .blob a1_1])
theorem f84_eq (run : Run) (n : Nat) (a0_1 : List UInt8) (a1_1 : List UInt8) : f84 run n a0_1 a1_1 =
  (run 101 [.int 1, .slice [.str (bytesOf (List.drop 0 (List.take 32 (ofBytes a0_1)))), .str (bytesOf (List.drop 0 (List.take 32 (ofBytes a1_1))))]]).bind fun r1 =>
    nilV r1.outs (consV r1.vals fun v1 vs1 =>
    nilV vs1 (some ⟨[.str v1.toStr], [], f84_fresh⟩)) := by kernel_rfl
theorem f84_run (ext : Run) (n : Nat) (a0_1 : List UInt8) (a1_1 : List UInt8) : runE G ext (n + 1) 84 [.blob a0_1, .blob a1_1] = f84 (runE G ext n) n a0_1 a1_1 := runE_succ f84_at f84_in

noncomputable def f72 (run : Run) (n : Nat) (a0_1 : List UInt8) (a1_1 : List UInt8) : Option Res := evalK G run n f72_info.keep 0 f72_info.body (retE G f72_info) (f72_info.start [.blob a0_1, .blob a1_1])
theorem f72_eq (run : Run) (n : Nat) (a0_1 : List UInt8) (a1_1 : List UInt8) : f72 run n a0_1 a1_1 =
  (run 84 [.blob a0_1, .blob a1_1]).bind fun r1 =>
    nilV r1.outs (consV r1.vals fun v1 vs1 =>
    nilV vs1 ((run 89 [.str v1.toStr]).bind fun r2 =>
    nilV r2.outs (consV r2.vals fun v2 vs2 =>
    nilV vs2 (some ⟨[.blob v2.toBlob], [], f72_fresh⟩)))) := by kernel_rfl
theorem f72_run (ext : Run) (n : Nat) (a0_1 : List UInt8) (a1_1 : List UInt8) : runE G ext (n + 1) 72 [.blob a0_1, .blob a1_1] = f72 (runE G ext n) n a0_1 a1_1 := runE_succ f72_at f72_in

noncomputable def f32_l0 (run : Run) (n : Nat) (k0 : Nat) (x6_1 : List AV) (x20_1 : List AV) (x21_1 : Int) (x22_1 : Int) (o3_1 : Int) (o3_2 : Int) (o3_3 : List AV) (o5_1 : List UInt8) : Option Res :=
  iterK (evalK G run n f32_keep 0 (sub [1, 1, 1, 1, 0, 1, 0, 0] f32_body)) f32_t0 f32_o0 (blockK 0 (seqK (evalK G run n f32_keep 0 (sub [1, 1, 1, 1, 1] f32_body) (retE G f32_info)) (retE G f32_info))) k0
    ⟨[.any, .any, .any, .ptr ⟨(.struct [(.int .i64), (.int .i64), (.slice (.blob 32))]), 3, 1, []⟩, .any, .ptr ⟨(.blob 32), 5, 1, []⟩, .val (.slice (.blob 32)) (some (6, 0)) (.slice x6_1), .any, .any, .any, .any, .any, .any, .any, .any, .any, .any, .any, .any, .any, .val (.slice .bool) (some (20, 0)) (.slice x20_1), .val (.int .i64) none (.int x21_1), .val (.int .i64) none (.int x22_1), .any, .any, .any, .any, .any, .any, .any, .any, .any, .any, .any, .any, .any, .any, .any, .any, .any, .any, .any, .any, .any, .any, .any, .any, .any], [⟨0, none⟩, ⟨0, none⟩, ⟨0, none⟩, ⟨1, some ⟨(.struct [(.int .i64), (.int .i64), (.slice (.blob 32))]), .agg [.int o3_1, .int o3_2, .slice o3_3]⟩⟩, ⟨0, none⟩, ⟨1, some ⟨(.blob 32), .blob o5_1⟩⟩, ⟨0, none⟩, ⟨0, none⟩, ⟨0, none⟩, ⟨0, none⟩, ⟨0, none⟩, ⟨0, none⟩, ⟨0, none⟩, ⟨0, none⟩, ⟨0, none⟩, ⟨0, none⟩, ⟨0, none⟩, ⟨0, none⟩, ⟨0, none⟩, ⟨0, none⟩, ⟨0, none⟩, ⟨0, none⟩, ⟨0, none⟩, ⟨0, none⟩, ⟨0, none⟩, ⟨0, none⟩, ⟨0, none⟩, ⟨0, none⟩, ⟨0, none⟩, ⟨0, none⟩, ⟨0, none⟩, ⟨0, none⟩, ⟨0, none⟩, ⟨0, none⟩, ⟨0, none⟩, ⟨0, none⟩, ⟨0, none⟩, ⟨0, none⟩, ⟨0, none⟩, ⟨0, none⟩, ⟨0, none⟩, ⟨0, none⟩, ⟨0, none⟩, ⟨0, none⟩, ⟨0, none⟩, ⟨0, none⟩, ⟨0, none⟩, ⟨0, none⟩], List.replicate 48 0⟩
theorem f32_l0_eq (run : Run) (n : Nat) (k0 : Nat) (x6_1 : List AV) (x20_1 : List AV) (x21_1 : Int) (x22_1 : Int) (o3_1 : Int) (o3_2 : Int) (o3_3 : List AV) (o5_1 : List UInt8) : f32_l0 run n (k0 + 1) x6_1 x20_1 x21_1 x22_1 o3_1 o3_2 o3_3 o5_1 =
  bif ltI x22_1 x21_1 then
    bif inR x22_1 x20_1.length then
    bif (nth x20_1 (Int.toNat x22_1)).toBool then
    bif inR x22_1 o3_3.length then
    (run 72 [.blob ((nth o3_3 (Int.toNat x22_1)).toBlob), .blob o5_1]).bind fun r4 =>
    nilV r4.outs (consV r4.vals fun v4 vs4 =>
    nilV vs4 (bif Nat.ble ((x6_1.length + 1) * 32) 140737488355328 then
    f32_l0 run n k0 (x6_1 ++ [.blob v4.toBlob]) x20_1 x21_1 (IntKind.wrap .i64 (x22_1 + 1)) o3_1 o3_2 o3_3 v4.toBlob
  else none))
  else none
  else
    bif inR x22_1 o3_3.length then
    (run 72 [.blob o5_1, .blob ((nth o3_3 (Int.toNat x22_1)).toBlob)]).bind fun r5 =>
    nilV r5.outs (consV r5.vals fun v5 vs5 =>
    nilV vs5 (bif Nat.ble ((x6_1.length + 1) * 32) 140737488355328 then
    f32_l0 run n k0 (x6_1 ++ [.blob v5.toBlob]) x20_1 x21_1 (IntKind.wrap .i64 (x22_1 + 1)) o3_1 o3_2 o3_3 v5.toBlob
  else none))
  else none
  else none
  else
    some ⟨[.slice x6_1], [], f32_fresh⟩ := by kernel_rfl
noncomputable def f32 (run : Run) (n : Nat) (a0_1 : List UInt8) (a1_1 : Int) (a1_2 : Int) (a1_3 : List AV) : Option Res := evalK G run n f32_info.keep 0 f32_info.body (retE G f32_info) (f32_info.start [.str a0_1, .agg [.int a1_1, .int a1_2, .slice a1_3]])
theorem f32_eq (run : Run) (n : Nat) (a0_1 : List UInt8) (a1_1 : Int) (a1_2 : Int) (a1_3 : List AV) : f32 run n a0_1 a1_1 a1_2 a1_3 =
  (run 33 [.agg [.int a1_1, .int a1_2, .slice a1_3]]).bind fun r1 =>
    nilV r1.outs (consV r1.vals fun v1 vs1 =>
    nilV vs1 (bif !(eqI v1.toInt 0) then
    some ⟨[.slice []], [], f32_fresh⟩
  else
    (run 70 [.str a0_1]).bind fun r2 =>
    nilV r2.outs (consV r2.vals fun v2 vs2 =>
    nilV vs2 ((run 71 [.int a1_2, .int a1_1]).bind fun r3 =>
    bif r3.fresh then
    nilV r3.outs (consV r3.vals fun v3 vs3 =>
    nilV vs3 (f32_l0 run n n [.blob v2.toBlob] v3.toSlice (v3.toSlice.length : Int) 0 a1_1 a1_2 a1_3 v2.toBlob))
  else none)))) := by kernel_rfl
theorem f32_run (ext : Run) (n : Nat) (a0_1 : List UInt8) (a1_1 : Int) (a1_2 : Int) (a1_3 : List AV) : runE G ext (n + 1) 32 [.str a0_1, .agg [.int a1_1, .int a1_2, .slice a1_3]] = f32 (runE G ext n) n a0_1 a1_1 a1_2 a1_3 := runE_succ f32_at f32_in

noncomputable def f85 (run : Run) (n : Nat) (a0_1 : Int) (a1_1 : List UInt8) : Option Res := evalK G run n f85_info.keep 0 f85_info.body (retE G f85_info) (f85_info.start [.int a0_1, .blob a1_1])
theorem f85_eq (run : Run) (n : Nat) (a0_1 : Int) (a1_1 : List UInt8) : f85 run n a0_1 a1_1 =
  (run 102 [.int a0_1]).bind fun r1 =>
    nilV r1.outs (consV r1.vals fun v1 vs1 =>
    nilV vs1 ((run 101 [.int 2, .slice [.str v1.toStr, .str (bytesOf (List.drop 0 (List.take 32 (ofBytes a1_1))))]]).bind fun r2 =>
    nilV r2.outs (consV r2.vals fun v2 vs2 =>
    nilV vs2 (some ⟨[.str v2.toStr], [], f85_fresh⟩)))) := by kernel_rfl
theorem f85_run (ext : Run) (n : Nat) (a0_1 : Int) (a1_1 : List UInt8) : runE G ext (n + 1) 85 [.int a0_1, .blob a1_1] = f85 (runE G ext n) n a0_1 a1_1 := runE_succ f85_at f85_in

noncomputable def f75 (run : Run) (n : Nat) (a0_1 : Int) (a1_1 : List UInt8) : Option Res := evalK G run n f75_info.keep 0 f75_info.body (retE G f75_info) (f75_info.start [.int a0_1, .blob a1_1])
theorem f75_eq (run : Run) (n : Nat) (a0_1 : Int) (a1_1 : List UInt8) : f75 run n a0_1 a1_1 =
  (run 85 [.int a0_1, .blob a1_1]).bind fun r1 =>
    nilV r1.outs (consV r1.vals fun v1 vs1 =>
    nilV vs1 ((run 89 [.str v1.toStr]).bind fun r2 =>
    nilV r2.outs (consV r2.vals fun v2 vs2 =>
    nilV vs2 (some ⟨[.blob v2.toBlob], [], f75_fresh⟩)))) := by kernel_rfl
theorem f75_run (ext : Run) (n : Nat) (a0_1 : Int) (a1_1 : List UInt8) : runE G ext (n + 1) 75 [.int a0_1, .blob a1_1] = f75 (runE G ext n) n a0_1 a1_1 := runE_succ f75_at f75_in

noncomputable def f74 (run : Run) (n : Nat) (a0_1 : List UInt8) (a1_1 : Int) (a1_2 : Int) (a1_3 : List AV) : Option Res := evalK G run n f74_info.keep 0 f74_info.body (retE G f74_info) (f74_info.start [.str a0_1, .agg [.int a1_1, .int a1_2, .slice a1_3]])
theorem f74_eq (run : Run) (n : Nat) (a0_1 : List UInt8) (a1_1 : Int) (a1_2 : Int) (a1_3 : List AV) : f74 run n a0_1 a1_1 a1_2 a1_3 =
  (run 33 [.agg [.int a1_1, .int a1_2, .slice a1_3]]).bind fun r1 =>
    nilV r1.outs (consV r1.vals fun v1 vs1 =>
    nilV vs1 (bif !(eqI v1.toInt 0) then
    some ⟨[.blob [0, 0, 0, 0, 0, 0, 0, 0, 0, 0, 0, 0, 0, 0, 0, 0, 0, 0, 0, 0, 0, 0, 0, 0, 0, 0, 0, 0, 0, 0, 0, 0], .int v1.toInt], [], f74_fresh⟩
  else
    (run 32 [.str a0_1, .agg [.int a1_1, .int a1_2, .slice a1_3]]).bind fun r2 =>
    bif r2.fresh then
    nilV r2.outs (consV r2.vals fun v2 vs2 =>
    nilV vs2 (bif inR (IntKind.wrap .i64 ((v2.toSlice.length : Int) - 1)) v2.toSlice.length then
    (run 75 [.int (IntKind.wrap .u64 a1_2), .blob ((nth v2.toSlice (Int.toNat (IntKind.wrap .i64 ((v2.toSlice.length : Int) - 1)))).toBlob)]).bind fun r3 =>
    nilV r3.outs (consV r3.vals fun v3 vs3 =>
    nilV vs3 (some ⟨[.blob v3.toBlob, .int 0], [], f74_fresh⟩))
  else none))
  else none)) := by kernel_rfl
theorem f74_run (ext : Run) (n : Nat) (a0_1 : List UInt8) (a1_1 : Int) (a1_2 : Int) (a1_3 : List AV) : runE G ext (n + 1) 74 [.str a0_1, .agg [.int a1_1, .int a1_2, .slice a1_3]] = f74 (runE G ext n) n a0_1 a1_1 a1_2 a1_3 := runE_succ f74_at f74_in

noncomputable def f34 (run : Run) (n : Nat) (a0_1 : List UInt8) (a1_1 : List UInt8) (a2_1 : Int) (a2_2 : Int) (a2_3 : List AV) : Option Res := evalK G run n f34_info.keep 0 f34_info.body (retE G f34_info) (f34_info.start [.blob a0_1, .str a1_1, .agg [.int a2_1, .int a2_2, .slice a2_3]])
theorem f34_eq (run : Run) (n : Nat) (a0_1 : List UInt8) (a1_1 : List UInt8) (a2_1 : Int) (a2_2 : Int) (a2_3 : List AV) : f34 run n a0_1 a1_1 a2_1 a2_2 a2_3 =
  (run 74 [.str a1_1, .agg [.int a2_1, .int a2_2, .slice a2_3]]).bind fun r1 =>
    nilV r1.outs (consV r1.vals fun v1 vs1 =>
    consV vs1 fun v2 vs2 =>
    nilV vs2 (bif eqI v2.toInt 0 then
    some ⟨[.bool (eqS v1.toBlob a0_1)], [], f34_fresh⟩
  else
    some ⟨[.bool false], [], f34_fresh⟩)) := by kernel_rfl
theorem f34_run (ext : Run) (n : Nat) (a0_1 : List UInt8) (a1_1 : List UInt8) (a2_1 : Int) (a2_2 : Int) (a2_3 : List AV) : runE G ext (n + 1) 34 [.blob a0_1, .str a1_1, .agg [.int a2_1, .int a2_2, .slice a2_3]] = f34 (runE G ext n) n a0_1 a1_1 a2_1 a2_2 a2_3 := runE_succ f34_at f34_in

noncomputable def f83 (run : Run) (n : Nat) (a0_1 : Int) (a1_1 : Bool) (a2_1 : Int) (a2_2 : Int) (a2_3 : List AV) (a3_1 : List AV) : Option Res := evalK G run n f83_info.keep 0 f83_info.body (retE G f83_info) (f83_info.start [.int a0_1, .bool a1_1, .agg [.int a2_1, .int a2_2, .slice a2_3], .slice a3_1])
theorem f83_eq (run : Run) (n : Nat) (a0_1 : Int) (a1_1 : Bool) (a2_1 : Int) (a2_2 : Int) (a2_3 : List AV) (a3_1 : List AV) : f83 run n a0_1 a1_1 a2_1 a2_2 a2_3 a3_1 =
  bif a1_1 then
    bif inR a0_1 a2_3.length then
    bif inR a0_1 a3_1.length then
    (run 84 [.blob ((nth a2_3 (Int.toNat a0_1)).toBlob), .blob ((nth a3_1 (Int.toNat a0_1)).toBlob)]).bind fun r1 =>
    nilV r1.outs (consV r1.vals fun v1 vs1 =>
    nilV vs1 (some ⟨[.str v1.toStr], [.agg [.int a2_1, .int a2_2, .slice a2_3], .slice a3_1], f83_fresh⟩))
  else none
  else none
  else
    bif inR a0_1 a3_1.length then
    bif inR a0_1 a2_3.length then
    (run 84 [.blob ((nth a3_1 (Int.toNat a0_1)).toBlob), .blob ((nth a2_3 (Int.toNat a0_1)).toBlob)]).bind fun r2 =>
    nilV r2.outs (consV r2.vals fun v2 vs2 =>
    nilV vs2 (some ⟨[.str v2.toStr], [.agg [.int a2_1, .int a2_2, .slice a2_3], .slice a3_1], f83_fresh⟩))
  else none
  else none := by kernel_rfl
theorem f83_run (ext : Run) (n : Nat) (a0_1 : Int) (a1_1 : Bool) (a2_1 : Int) (a2_2 : Int) (a2_3 : List AV) (a3_1 : List AV) : runE G ext (n + 1) 83 [.int a0_1, .bool a1_1, .agg [.int a2_1, .int a2_2, .slice a2_3], .slice a3_1] = f83 (runE G ext n) n a0_1 a1_1 a2_1 a2_2 a2_3 a3_1 := runE_succ f83_at f83_in

noncomputable def f59_l0 (run : Run) (n : Nat) (k0 : Nat) (x5_1 : List AV) (x24_1 : List AV) (x25_1 : Int) (x26_1 : Int) (o3_1 : Int) (o3_2 : Int) (o3_3 : List AV) (o4_1 : List AV) : Option Res :=
  iterK (evalK G run n f59_keep 0 (sub [1, 1, 1, 1, 1, 0, 1, 0, 0] f59_body)) f59_t0 f59_o0 (blockK 0 (seqK (evalK G run n f59_keep 0 (sub [1, 1, 1, 1, 1, 1] f59_body) (retE G f59_info)) (retE G f59_info))) k0
    ⟨[.any, .any, .any, .ptr ⟨(.struct [(.int .i64), (.int .i64), (.slice (.blob 32))]), 3, 1, []⟩, .ptr ⟨(.slice (.blob 32)), 4, 1, []⟩, .val (.slice .str) (some (5, 0)) (.slice x5_1), .clo 83 [⟨(.struct [(.int .i64), (.int .i64), (.slice (.blob 32))]), 3, 1, []⟩, ⟨(.slice (.blob 32)), 4, 1, []⟩], .any, .any, .any, .any, .any, .any, .any, .any, .any, .any, .any, .any, .any, .any, .any, .any, .any, .val (.slice .bool) (some (24, 0)) (.slice x24_1), .val (.int .i64) none (.int x25_1), .val (.int .i64) none (.int x26_1), .any, .any, .any, .any, .any, .any, .any, .any, .any, .any, .any, .any, .any, .any, .any, .any, .any, .any, .any, .any, .any, .any, .any, .any, .any], [⟨0, none⟩, ⟨0, none⟩, ⟨0, none⟩, ⟨1, some ⟨(.struct [(.int .i64), (.int .i64), (.slice (.blob 32))]), .agg [.int o3_1, .int o3_2, .slice o3_3]⟩⟩, ⟨1, some ⟨(.slice (.blob 32)), .slice o4_1⟩⟩, ⟨0, none⟩, ⟨0, none⟩, ⟨0, none⟩, ⟨0, none⟩, ⟨0, none⟩, ⟨0, none⟩, ⟨0, none⟩, ⟨0, none⟩, ⟨0, none⟩, ⟨0, none⟩, ⟨0, none⟩, ⟨0, none⟩, ⟨0, none⟩, ⟨0, none⟩, ⟨0, none⟩, ⟨0, none⟩, ⟨0, none⟩, ⟨0, none⟩, ⟨0, none⟩, ⟨0, none⟩, ⟨0, none⟩, ⟨0, none⟩, ⟨0, none⟩, ⟨0, none⟩, ⟨0, none⟩, ⟨0, none⟩, ⟨0, none⟩, ⟨0, none⟩, ⟨0, none⟩, ⟨0, none⟩, ⟨0, none⟩, ⟨0, none⟩, ⟨0, none⟩, ⟨0, none⟩, ⟨0, none⟩, ⟨0, none⟩, ⟨0, none⟩, ⟨0, none⟩, ⟨0, none⟩, ⟨0, none⟩, ⟨0, none⟩, ⟨0, none⟩, ⟨0, none⟩, ⟨0, none⟩, ⟨0, none⟩, ⟨0, none⟩, ⟨0, none⟩], List.replicate 52 0⟩
theorem f59_l0_eq (run : Run) (n : Nat) (k0 : Nat) (x5_1 : List AV) (x24_1 : List AV) (x25_1 : Int) (x26_1 : Int) (o3_1 : Int) (o3_2 : Int) (o3_3 : List AV) (o4_1 : List AV) : f59_l0 run n (k0 + 1) x5_1 x24_1 x25_1 x26_1 o3_1 o3_2 o3_3 o4_1 =
  bif ltI x26_1 x25_1 then
    bif inR x26_1 x24_1.length then
    (run 83 [.int x26_1, .bool ((nth x24_1 (Int.toNat x26_1)).toBool), .agg [.int o3_1, .int o3_2, .slice o3_3], .slice o4_1]).bind fun r4 =>
    consV r4.outs fun y1 ys1 =>
    consV ys1 fun y2 ys2 =>
    nilV ys2 (consV r4.vals fun v4 vs4 =>
    nilV vs4 (bif Nat.ble ((x5_1.length + 1) * 16) 140737488355328 then
    f59_l0 run n k0 (x5_1 ++ [.str v4.toStr]) x24_1 x25_1 (IntKind.wrap .i64 (x26_1 + 1)) ((y1.fld 0).toInt) ((y1.fld 1).toInt) ((y1.fld 2).toSlice) y2.toSlice
  else none))
  else none
  else
    bif inR (IntKind.wrap .i64 ((o4_1.length : Int) - 1)) o4_1.length then
    (run 85 [.int (IntKind.wrap .u64 o3_2), .blob ((nth o4_1 (Int.toNat (IntKind.wrap .i64 ((o4_1.length : Int) - 1)))).toBlob)]).bind fun r5 =>
    nilV r5.outs (consV r5.vals fun v5 vs5 =>
    nilV vs5 (bif Nat.ble ((x5_1.length + 1) * 16) 140737488355328 then
    some ⟨[.slice (x5_1 ++ [.str v5.toStr])], [], f59_fresh⟩
  else none))
  else none := by kernel_rfl
noncomputable def f59 (run : Run) (n : Nat) (a0_1 : List UInt8) (a0_2 : Int) (a0_3 : Int) (a0_4 : List AV) : Option Res := evalK G run n f59_info.keep 0 f59_info.body (retE G f59_info) (f59_info.start [.agg [.str a0_1, .agg [.int a0_2, .int a0_3, .slice a0_4]]])
theorem f59_eq (run : Run) (n : Nat) (a0_1 : List UInt8) (a0_2 : Int) (a0_3 : Int) (a0_4 : List AV) : f59 run n a0_1 a0_2 a0_3 a0_4 =
  (run 32 [.str a0_1, .agg [.int a0_2, .int a0_3, .slice a0_4]]).bind fun r1 =>
    bif r1.fresh then
    nilV r1.outs (consV r1.vals fun v1 vs1 =>
    nilV vs1 ((run 82 [.str a0_1]).bind fun r2 =>
    nilV r2.outs (consV r2.vals fun v2 vs2 =>
    nilV vs2 ((run 71 [.int a0_3, .int a0_2]).bind fun r3 =>
    bif r3.fresh then
    nilV r3.outs (consV r3.vals fun v3 vs3 =>
    nilV vs3 (f59_l0 run n n [.str v2.toStr] v3.toSlice (v3.toSlice.length : Int) 0 a0_2 a0_3 a0_4 v1.toSlice))
  else none))))
  else none := by kernel_rfl
theorem f59_run (ext : Run) (n : Nat) (a0_1 : List UInt8) (a0_2 : Int) (a0_3 : Int) (a0_4 : List AV) : runE G ext (n + 1) 59 [.agg [.str a0_1, .agg [.int a0_2, .int a0_3, .slice a0_4]]] = f59 (runE G ext n) n a0_1 a0_2 a0_3 a0_4 := runE_succ f59_at f59_in

noncomputable def f16_l0 (run : Run) (n : Nat) (k0 : Nat) (x9_1 : List AV) (x10_1 : List AV) (x11_1 : Int) : Option Res :=
  iterK (evalK G run n f16_keep 0 (sub [1, 1, 1, 0, 1, 0, 0] f16_body)) f16_t0 f16_o0 (blockK 0 (seqK (evalK G run n f16_keep 0 (sub [1, 1, 1, 1] f16_body) (retE G f16_info)) (retE G f16_info))) k0
    ⟨[.any, .any, .any, .any, .any, .any, .any, .any, .any, .val (.slice .str) (some (9, 0)) (.slice x9_1), .val (.slice .str) (some (10, 0)) (.slice x10_1), .val (.int .i64) none (.int x11_1), .any, .any, .any, .any, .any, .any, .any, .any, .any, .any, .any, .any, .any, .any, .any, .any, .any, .any, .any, .any, .any, .any, .any, .any, .any, .any, .any, .any, .any, .any, .any, .any, .any, .any, .any, .any, .any, .any, .any, .any, .any, .any, .any, .any, .any, .any, .any, .any, .any, .any, .any, .any, .any, .any, .any, .any, .any, .any, .any, .any, .any, .any, .any, .any, .any, .any, .any, .any, .any], [⟨0, none⟩, ⟨0, none⟩, ⟨0, none⟩, ⟨0, none⟩, ⟨0, none⟩, ⟨0, none⟩, ⟨0, none⟩, ⟨0, none⟩, ⟨0, none⟩, ⟨0, none⟩, ⟨0, none⟩, ⟨0, none⟩, ⟨0, none⟩, ⟨0, none⟩, ⟨0, none⟩, ⟨0, none⟩, ⟨0, none⟩, ⟨0, none⟩, ⟨0, none⟩, ⟨0, none⟩, ⟨0, none⟩, ⟨0, none⟩, ⟨0, none⟩, ⟨0, none⟩, ⟨0, none⟩, ⟨0, none⟩, ⟨0, none⟩, ⟨0, none⟩, ⟨0, none⟩, ⟨0, none⟩, ⟨0, none⟩, ⟨0, none⟩, ⟨0, none⟩, ⟨0, none⟩, ⟨0, none⟩, ⟨0, none⟩, ⟨0, none⟩, ⟨0, none⟩, ⟨0, none⟩, ⟨0, none⟩, ⟨0, none⟩, ⟨0, none⟩, ⟨0, none⟩, ⟨0, none⟩, ⟨0, none⟩, ⟨0, none⟩, ⟨0, none⟩, ⟨0, none⟩, ⟨0, none⟩, ⟨0, none⟩, ⟨0, none⟩, ⟨0, none⟩, ⟨0, none⟩, ⟨0, none⟩, ⟨0, none⟩, ⟨0, none⟩, ⟨0, none⟩, ⟨0, none⟩, ⟨0, none⟩, ⟨0, none⟩, ⟨0, none⟩, ⟨0, none⟩, ⟨0, none⟩, ⟨0, none⟩, ⟨0, none⟩, ⟨0, none⟩, ⟨0, none⟩, ⟨0, none⟩, ⟨0, none⟩, ⟨0, none⟩, ⟨0, none⟩, ⟨0, none⟩, ⟨0, none⟩, ⟨0, none⟩, ⟨0, none⟩, ⟨0, none⟩, ⟨0, none⟩, ⟨0, none⟩, ⟨0, none⟩, ⟨0, none⟩, ⟨0, none⟩], List.replicate 81 0⟩
theorem f16_l0_eq (run : Run) (n : Nat) (k0 : Nat) (x9_1 : List AV) (x10_1 : List AV) (x11_1 : Int) : f16_l0 run n (k0 + 1) x9_1 x10_1 x11_1 =
  bif leI x11_1 (x9_1.length : Int) then
    bif leI x11_1 (x10_1.length : Int) then
    bif inR (IntKind.wrap .i64 ((x9_1.length : Int) - x11_1)) x9_1.length then
    bif inR (IntKind.wrap .i64 ((x10_1.length : Int) - x11_1)) x10_1.length then
    bif !(eqS ((nth x9_1 (Int.toNat (IntKind.wrap .i64 ((x9_1.length : Int) - x11_1)))).toStr) ((nth x10_1 (Int.toNat (IntKind.wrap .i64 ((x10_1.length : Int) - x11_1)))).toStr)) then
    some ⟨[.str ((nth x9_1 (Int.toNat (IntKind.wrap .i64 ((x9_1.length : Int) - x11_1)))).toStr), .str ((nth x10_1 (Int.toNat (IntKind.wrap .i64 ((x10_1.length : Int) - x11_1)))).toStr), .bool true], [], f16_fresh⟩
  else
    f16_l0 run n k0 x9_1 x10_1 (IntKind.wrap .i64 (x11_1 + 1))
  else none
  else none
  else
    some ⟨[.str [], .str [], .bool false], [], f16_fresh⟩
  else
    some ⟨[.str [], .str [], .bool false], [], f16_fresh⟩ := by kernel_rfl
noncomputable def f16 (run : Run) (n : Nat) (a0_1 : List UInt8) (a1_1 : List UInt8) (a1_2 : Int) (a1_3 : Int) (a1_4 : List AV) (a2_1 : List UInt8) (a2_2 : Int) (a2_3 : Int) (a2_4 : List AV) : Option Res := evalK G run n f16_info.keep 0 f16_info.body (retE G f16_info) (f16_info.start [.blob a0_1, .agg [.str a1_1, .agg [.int a1_2, .int a1_3, .slice a1_4]], .agg [.str a2_1, .agg [.int a2_2, .int a2_3, .slice a2_4]]])
theorem f16_eq (run : Run) (n : Nat) (a0_1 : List UInt8) (a1_1 : List UInt8) (a1_2 : Int) (a1_3 : Int) (a1_4 : List AV) (a2_1 : List UInt8) (a2_2 : Int) (a2_3 : Int) (a2_4 : List AV) : f16 run n a0_1 a1_1 a1_2 a1_3 a1_4 a2_1 a2_2 a2_3 a2_4 =
  (run 34 [.blob a0_1, .str a1_1, .agg [.int a1_2, .int a1_3, .slice a1_4]]).bind fun r1 =>
    nilV r1.outs (consV r1.vals fun v1 vs1 =>
    nilV vs1 (bif !v1.toBool then
    some ⟨[.str [], .str [], .bool false], [], f16_fresh⟩
  else
    (run 34 [.blob a0_1, .str a2_1, .agg [.int a2_2, .int a2_3, .slice a2_4]]).bind fun r2 =>
    nilV r2.outs (consV r2.vals fun v2 vs2 =>
    nilV vs2 (bif !v2.toBool then
    some ⟨[.str [], .str [], .bool false], [], f16_fresh⟩
  else
    bif !(eqI a1_2 a2_2) then
    some ⟨[.str [], .str [], .bool false], [], f16_fresh⟩
  else
    bif eqS a1_1 a2_1 then
    some ⟨[.str [], .str [], .bool false], [], f16_fresh⟩
  else
    (run 59 [.agg [.str a1_1, .agg [.int a1_2, .int a1_3, .slice a1_4]]]).bind fun r3 =>
    bif r3.fresh then
    nilV r3.outs (consV r3.vals fun v3 vs3 =>
    nilV vs3 ((run 59 [.agg [.str a2_1, .agg [.int a2_2, .int a2_3, .slice a2_4]]]).bind fun r4 =>
    bif r4.fresh then
    nilV r4.outs (consV r4.vals fun v4 vs4 =>
    nilV vs4 (f16_l0 run n n v3.toSlice v4.toSlice 1))
  else none))
  else none)))) := by kernel_rfl
theorem f16_run (ext : Run) (n : Nat) (a0_1 : List UInt8) (a1_1 : List UInt8) (a1_2 : Int) (a1_3 : Int) (a1_4 : List AV) (a2_1 : List UInt8) (a2_2 : Int) (a2_3 : Int) (a2_4 : List AV) : runE G ext (n + 1) 16 [.blob a0_1, .agg [.str a1_1, .agg [.int a1_2, .int a1_3, .slice a1_4]], .agg [.str a2_1, .agg [.int a2_2, .int a2_3, .slice a2_4]]] = f16 (runE G ext n) n a0_1 a1_1 a1_2 a1_3 a1_4 a2_1 a2_2 a2_3 a2_4 := runE_succ f16_at f16_in

noncomputable def f61 (run : Run) (n : Nat) (a0_1 : List UInt8) : Option Res := evalK G run n f61_info.keep 0 f61_info.body (retE G f61_info) (f61_info.start [.str a0_1])
theorem f61_eq (run : Run) (n : Nat) (a0_1 : List UInt8) : f61 run n a0_1 =
  (run 89 [.str a0_1]).bind fun r1 =>
    nilV r1.outs (consV r1.vals fun v1 vs1 =>
    nilV vs1 (some ⟨[.blob v1.toBlob], [], f61_fresh⟩)) := by kernel_rfl
theorem f61_run (ext : Run) (n : Nat) (a0_1 : List UInt8) : runE G ext (n + 1) 61 [.str a0_1] = f61 (runE G ext n) n a0_1 := runE_succ f61_at f61_in

noncomputable def f18 (run : Run) (n : Nat) (a0_1 : List UInt8) (a1_1 : List UInt8) : Option Res := evalK G run n f18_info.keep 0 f18_info.body (retE G f18_info) (f18_info.start [.str a0_1, .str a1_1])
theorem f18_eq (run : Run) (n : Nat) (a0_1 : List UInt8) (a1_1 : List UInt8) : f18 run n a0_1 a1_1 =
  bif !(eqS a0_1 a1_1) then
    (run 61 [.str a0_1]).bind fun r1 =>
    nilV r1.outs (consV r1.vals fun v1 vs1 =>
    nilV vs1 ((run 61 [.str a1_1]).bind fun r2 =>
    nilV r2.outs (consV r2.vals fun v2 vs2 =>
    nilV vs2 (some ⟨[.bool (eqS v1.toBlob v2.toBlob)], [], f18_fresh⟩))))
  else
    some ⟨[.bool false], [], f18_fresh⟩ := by kernel_rfl
theorem f18_run (ext : Run) (n : Nat) (a0_1 : List UInt8) (a1_1 : List UInt8) : runE G ext (n + 1) 18 [.str a0_1, .str a1_1] = f18 (runE G ext n) n a0_1 a1_1 := runE_succ f18_at f18_in

noncomputable def f15 (run : Run) (n : Nat) : Option Res := evalK G run n f15_info.keep 0 f15_info.body (retE G f15_info) (f15_info.start [])
theorem f15_eq (run : Run) (n : Nat) : f15 run n  =
  (run 21 [.slice [.str [97]]]).bind fun r1 =>
    nilV r1.outs (consV r1.vals fun v1 vs1 =>
    nilV vs1 ((run 16 [.blob v1.toBlob, .agg [.str [97], .agg [.int 0, .int 1, .slice []]], .agg [.str [97], .agg [.int 0, .int 1, .slice []]]]).bind fun r2 =>
    nilV r2.outs (consV r2.vals fun _v2 vs2 =>
    consV vs2 fun _v3 vs3 =>
    consV vs3 fun v4 vs4 =>
    nilV vs4 (bif !v4.toBool then
    (run 34 [.blob v1.toBlob, .str [97], .agg [.int 0, .int 1, .slice []]]).bind fun r3 =>
    nilV r3.outs (consV r3.vals fun v5 vs5 =>
    nilV vs5 (bif v5.toBool then
    (run 18 [.str [97], .str [97]]).bind fun r4 =>
    nilV r4.outs (consV r4.vals fun v6 vs6 =>
    nilV vs6 (some ⟨[.bool (!v6.toBool)], [], f15_fresh⟩))
  else
    some ⟨[.bool false], [], f15_fresh⟩))
  else
    some ⟨[.bool false], [], f15_fresh⟩)))) := by kernel_rfl
theorem f15_run (ext : Run) (n : Nat) : runE G ext (n + 1) 15 [] = f15 (runE G ext n) n  := runE_succ f15_at f15_in

noncomputable def f118 (run : Run) (n : Nat) (a0_1 : Int) (a1_1 : Int) : Option Res := evalK G run n f118_info.keep 0 f118_info.body (retE G f118_info) (f118_info.start [.int a0_1, .int a1_1])
theorem f118_eq (run : Run) (n : Nat) (a0_1 : Int) (a1_1 : Int) : f118 run n a0_1 a1_1 =
  bif ltI a1_1 0 then
    some ⟨[.slice []], [], f118_fresh⟩
  else
    bif leI a0_1 a1_1 then
    some ⟨[.slice []], [], f118_fresh⟩
  else
    bif eqI a0_1 1 then
    some ⟨[.slice []], [], f118_fresh⟩
  else
    (run 90 [.int a0_1]).bind fun r1 =>
    nilV r1.outs (consV r1.vals fun v1 vs1 =>
    nilV vs1 (bif ltI a1_1 v1.toInt then
    (run 118 [.int v1.toInt, .int a1_1]).bind fun r2 =>
    bif r2.fresh then
    nilV r2.outs (consV r2.vals fun v2 vs2 =>
    nilV vs2 (bif Nat.ble ((v2.toSlice.length + 1) * 1) 140737488355328 then
    some ⟨[.slice (v2.toSlice ++ [.bool false])], [], f118_fresh⟩
  else none))
  else none
  else
    (run 118 [.int (IntKind.wrap .i64 (a0_1 - v1.toInt)), .int (IntKind.wrap .i64 (a1_1 - v1.toInt))]).bind fun r3 =>
    bif r3.fresh then
    nilV r3.outs (consV r3.vals fun v3 vs3 =>
    nilV vs3 (bif Nat.ble ((v3.toSlice.length + 1) * 1) 140737488355328 then
    some ⟨[.slice (v3.toSlice ++ [.bool true])], [], f118_fresh⟩
  else none))
  else none)) := by kernel_rfl
theorem f118_run (ext : Run) (n : Nat) (a0_1 : Int) (a1_1 : Int) : runE G ext (n + 1) 118 [.int a0_1, .int a1_1] = f118 (runE G ext n) n a0_1 a1_1 := runE_succ f118_at f118_in

noncomputable def f103 (run : Run) (n : Nat) (a0_1 : Int) (a1_1 : Int) : Option Res := evalK G run n f103_info.keep 0 f103_info.body (retE G f103_info) (f103_info.start [.int a0_1, .int a1_1])
theorem f103_eq (run : Run) (n : Nat) (a0_1 : Int) (a1_1 : Int) : f103 run n a0_1 a1_1 =
  bif ltI a1_1 0 then
    some ⟨[.int (-1)], [], f103_fresh⟩
  else
    bif leI a0_1 a1_1 then
    some ⟨[.int (-1)], [], f103_fresh⟩
  else
    (run 118 [.int a0_1, .int a1_1]).bind fun r1 =>
    bif r1.fresh then
    nilV r1.outs (consV r1.vals fun v1 vs1 =>
    nilV vs1 (some ⟨[.int (v1.toSlice.length : Int)], [], f103_fresh⟩))
  else none := by kernel_rfl
theorem f103_run (ext : Run) (n : Nat) (a0_1 : Int) (a1_1 : Int) : runE G ext (n + 1) 103 [.int a0_1, .int a1_1] = f103 (runE G ext n) n a0_1 a1_1 := runE_succ f103_at f103_in

noncomputable def f86 (run : Run) (n : Nat) (a0_1 : Int) (a0_2 : Int) (a0_3 : List AV) : Option Res := evalK G run n f86_info.keep 0 f86_info.body (retE G f86_info) (f86_info.start [.agg [.int a0_1, .int a0_2, .slice a0_3]])
theorem f86_eq (run : Run) (n : Nat) (a0_1 : Int) (a0_2 : Int) (a0_3 : List AV) : f86 run n a0_1 a0_2 a0_3 =
  bif ltI a0_2 1 then
    some ⟨[.int 3], [], f86_fresh⟩
  else
    bif ltI 1048576 a0_2 then
    some ⟨[.int 3], [], f86_fresh⟩
  else
    bif ltI a0_1 0 then
    some ⟨[.int 3], [], f86_fresh⟩
  else
    bif leI a0_2 a0_1 then
    some ⟨[.int 3], [], f86_fresh⟩
  else
    (run 103 [.int a0_2, .int a0_1]).bind fun r1 =>
    nilV r1.outs (consV r1.vals fun v1 vs1 =>
    nilV vs1 (bif !(eqI (a0_3.length : Int) v1.toInt) then
    some ⟨[.int 2], [], f86_fresh⟩
  else
    some ⟨[.int 0], [], f86_fresh⟩)) := by kernel_rfl
theorem f86_run (ext : Run) (n : Nat) (a0_1 : Int) (a0_2 : Int) (a0_3 : List AV) : runE G ext (n + 1) 86 [.agg [.int a0_1, .int a0_2, .slice a0_3]] = f86 (runE G ext n) n a0_1 a0_2 a0_3 := runE_succ f86_at f86_in

noncomputable def f87 (run : Run) (n : Nat) (a0_1 : Int) (a1_1 : Int) (a2_1 : List UInt8) (a3_1 : List AV) : Option Res := evalK G run n f87_info.keep 0 f87_info.body (retE G f87_info) (f87_info.start [.int a0_1, .int a1_1, .blob a2_1, .slice a3_1])
theorem f87_eq (run : Run) (n : Nat) (a0_1 : Int) (a1_1 : Int) (a2_1 : List UInt8) (a3_1 : List AV) : f87 run n a0_1 a1_1 a2_1 a3_1 =
  bif eqI a0_1 1 then
    some ⟨[.blob a2_1], [], f87_fresh⟩
  else
    (run 90 [.int a0_1]).bind fun r1 =>
    nilV r1.outs (consV r1.vals fun v1 vs1 =>
    nilV vs1 (bif ltI a1_1 v1.toInt then
    bif boundsOk 0 (IntKind.wrap .i64 ((a3_1.length : Int) - 1)) (a3_1.length : Int) (a3_1.length : Int) && true then
    (run 87 [.int v1.toInt, .int a1_1, .blob a2_1, .slice (List.drop 0 (List.take (Int.toNat (IntKind.wrap .i64 ((a3_1.length : Int) - 1))) a3_1))]).bind fun r2 =>
    nilV r2.outs (consV r2.vals fun v2 vs2 =>
    nilV vs2 (bif inR (IntKind.wrap .i64 ((a3_1.length : Int) - 1)) a3_1.length then
    (run 93 [.blob v2.toBlob, .blob ((nth a3_1 (Int.toNat (IntKind.wrap .i64 ((a3_1.length : Int) - 1)))).toBlob)]).bind fun r3 =>
    nilV r3.outs (consV r3.vals fun v3 vs3 =>
    nilV vs3 (some ⟨[.blob v3.toBlob], [], f87_fresh⟩))
  else none))
  else none
  else
    bif inR (IntKind.wrap .i64 ((a3_1.length : Int) - 1)) a3_1.length then
    bif boundsOk 0 (IntKind.wrap .i64 ((a3_1.length : Int) - 1)) (a3_1.length : Int) (a3_1.length : Int) && true then
    (run 87 [.int (IntKind.wrap .i64 (a0_1 - v1.toInt)), .int (IntKind.wrap .i64 (a1_1 - v1.toInt)), .blob a2_1, .slice (List.drop 0 (List.take (Int.toNat (IntKind.wrap .i64 ((a3_1.length : Int) - 1))) a3_1))]).bind fun r4 =>
    nilV r4.outs (consV r4.vals fun v4 vs4 =>
    nilV vs4 ((run 93 [.blob ((nth a3_1 (Int.toNat (IntKind.wrap .i64 ((a3_1.length : Int) - 1)))).toBlob), .blob v4.toBlob]).bind fun r5 =>
    nilV r5.outs (consV r5.vals fun v5 vs5 =>
    nilV vs5 (some ⟨[.blob v5.toBlob], [], f87_fresh⟩))))
  else none
  else none)) := by kernel_rfl
theorem f87_run (ext : Run) (n : Nat) (a0_1 : Int) (a1_1 : Int) (a2_1 : List UInt8) (a3_1 : List AV) : runE G ext (n + 1) 87 [.int a0_1, .int a1_1, .blob a2_1, .slice a3_1] = f87 (runE G ext n) n a0_1 a1_1 a2_1 a3_1 := runE_succ f87_at f87_in

noncomputable def f60 (run : Run) (n : Nat) (a0_1 : List UInt8) (a1_1 : Int) (a1_2 : Int) (a1_3 : List AV) : Option Res := evalK G run n f60_info.keep 0 f60_info.body (retE G f60_info) (f60_info.start [.str a0_1, .agg [.int a1_1, .int a1_2, .slice a1_3]])
theorem f60_eq (run : Run) (n : Nat) (a0_1 : List UInt8) (a1_1 : Int) (a1_2 : Int) (a1_3 : List AV) : f60 run n a0_1 a1_1 a1_2 a1_3 =
  (run 86 [.agg [.int a1_1, .int a1_2, .slice a1_3]]).bind fun r1 =>
    nilV r1.outs (consV r1.vals fun v1 vs1 =>
    nilV vs1 (bif !(eqI v1.toInt 0) then
    some ⟨[.blob [0, 0, 0, 0, 0, 0, 0, 0, 0, 0, 0, 0, 0, 0, 0, 0, 0, 0, 0, 0, 0, 0, 0, 0, 0, 0, 0, 0, 0, 0, 0, 0], .int v1.toInt], [], f60_fresh⟩
  else
    (run 88 [.str a0_1]).bind fun r2 =>
    nilV r2.outs (consV r2.vals fun v2 vs2 =>
    nilV vs2 ((run 87 [.int a1_2, .int a1_1, .blob v2.toBlob, .slice a1_3]).bind fun r3 =>
    nilV r3.outs (consV r3.vals fun v3 vs3 =>
    nilV vs3 ((run 64 [.int (IntKind.wrap .u64 a1_2), .blob v3.toBlob]).bind fun r4 =>
    nilV r4.outs (consV r4.vals fun v4 vs4 =>
    nilV vs4 (some ⟨[.blob v4.toBlob, .int 0], [], f60_fresh⟩)))))))) := by kernel_rfl
theorem f60_run (ext : Run) (n : Nat) (a0_1 : List UInt8) (a1_1 : Int) (a1_2 : Int) (a1_3 : List AV) : runE G ext (n + 1) 60 [.str a0_1, .agg [.int a1_1, .int a1_2, .slice a1_3]] = f60 (runE G ext n) n a0_1 a1_1 a1_2 a1_3 := runE_succ f60_at f60_in

noncomputable def f17 (run : Run) (n : Nat) (a0_1 : List UInt8) (a1_1 : List UInt8) (a2_1 : Int) (a2_2 : Int) (a2_3 : List AV) : Option Res := evalK G run n f17_info.keep 0 f17_info.body (retE G f17_info) (f17_info.start [.blob a0_1, .str a1_1, .agg [.int a2_1, .int a2_2, .slice a2_3]])
theorem f17_eq (run : Run) (n : Nat) (a0_1 : List UInt8) (a1_1 : List UInt8) (a2_1 : Int) (a2_2 : Int) (a2_3 : List AV) : f17 run n a0_1 a1_1 a2_1 a2_2 a2_3 =
  (run 60 [.str a1_1, .agg [.int a2_1, .int a2_2, .slice a2_3]]).bind fun r1 =>
    nilV r1.outs (consV r1.vals fun v1 vs1 =>
    consV vs1 fun v2 vs2 =>
    nilV vs2 (bif eqI v2.toInt 0 then
    some ⟨[.bool (eqS v1.toBlob a0_1)], [], f17_fresh⟩
  else
    some ⟨[.bool false], [], f17_fresh⟩)) := by kernel_rfl
theorem f17_run (ext : Run) (n : Nat) (a0_1 : List UInt8) (a1_1 : List UInt8) (a2_1 : Int) (a2_2 : Int) (a2_3 : List AV) : runE G ext (n + 1) 17 [.blob a0_1, .str a1_1, .agg [.int a2_1, .int a2_2, .slice a2_3]] = f17 (runE G ext n) n a0_1 a1_1 a2_1 a2_2 a2_3 := runE_succ f17_at f17_in

noncomputable def f3 (run : Run) (n : Nat) (a0_1 : List UInt8) (a1_1 : List UInt8) (a1_2 : Int) (a1_3 : Int) (a1_4 : List AV) (a2_1 : List UInt8) (a2_2 : Int) (a2_3 : Int) (a2_4 : List AV) : Option Res := evalK G run n f3_info.keep 0 f3_info.body (retE G f3_info) (f3_info.start [.blob a0_1, .agg [.str a1_1, .agg [.int a1_2, .int a1_3, .slice a1_4]], .agg [.str a2_1, .agg [.int a2_2, .int a2_3, .slice a2_4]]])
theorem f3_eq (run : Run) (n : Nat) (a0_1 : List UInt8) (a1_1 : List UInt8) (a1_2 : Int) (a1_3 : Int) (a1_4 : List AV) (a2_1 : List UInt8) (a2_2 : Int) (a2_3 : Int) (a2_4 : List AV) : f3 run n a0_1 a1_1 a1_2 a1_3 a1_4 a2_1 a2_2 a2_3 a2_4 =
  bif ltI 2000 (a1_1.length : Int) then
    (run 15 []).bind fun r1 =>
    nilV r1.outs (consV r1.vals fun v1 vs1 =>
    nilV vs1 (some ⟨[.bool v1.toBool], [], f3_fresh⟩))
  else
    bif ltI 2000 (a2_1.length : Int) then
    (run 15 []).bind fun r2 =>
    nilV r2.outs (consV r2.vals fun v2 vs2 =>
    nilV vs2 (some ⟨[.bool v2.toBool], [], f3_fresh⟩))
  else
    (run 16 [.blob a0_1, .agg [.str a1_1, .agg [.int a1_2, .int a1_3, .slice a1_4]], .agg [.str a2_1, .agg [.int a2_2, .int a2_3, .slice a2_4]]]).bind fun r3 =>
    nilV r3.outs (consV r3.vals fun v3 vs3 =>
    consV vs3 fun v4 vs4 =>
    consV vs4 fun v5 vs5 =>
    nilV vs5 ((run 17 [.blob a0_1, .str a1_1, .agg [.int a1_2, .int a1_3, .slice a1_4]]).bind fun r4 =>
    nilV r4.outs (consV r4.vals fun v6 vs6 =>
    nilV vs6 (bif v6.toBool then
    (run 17 [.blob a0_1, .str a2_1, .agg [.int a2_2, .int a2_3, .slice a2_4]]).bind fun r5 =>
    nilV r5.outs (consV r5.vals fun v7 vs7 =>
    nilV vs7 (bif v7.toBool then
    bif eqI a1_2 a2_2 then
    bif !(eqO v5.toBool (!(eqS a1_1 a2_1))) then
    some ⟨[.bool false], [], f3_fresh⟩
  else
    bif !v5.toBool then
    bif eqS v3.toStr [] then
    bif eqS v4.toStr [] then
    (run 15 []).bind fun r6 =>
    nilV r6.outs (consV r6.vals fun v8 vs8 =>
    nilV vs8 (some ⟨[.bool v8.toBool], [], f3_fresh⟩))
  else
    some ⟨[.bool false], [], f3_fresh⟩
  else
    some ⟨[.bool false], [], f3_fresh⟩
  else
    (run 18 [.str v3.toStr, .str v4.toStr]).bind fun r7 =>
    nilV r7.outs (consV r7.vals fun v9 vs9 =>
    nilV vs9 (bif v9.toBool then
    (run 15 []).bind fun r8 =>
    nilV r8.outs (consV r8.vals fun v10 vs10 =>
    nilV vs10 (some ⟨[.bool v10.toBool], [], f3_fresh⟩))
  else
    some ⟨[.bool false], [], f3_fresh⟩))
  else
    bif !(eqO v5.toBool false) then
    some ⟨[.bool false], [], f3_fresh⟩
  else
    bif !v5.toBool then
    bif eqS v3.toStr [] then
    bif eqS v4.toStr [] then
    (run 15 []).bind fun r9 =>
    nilV r9.outs (consV r9.vals fun v11 vs11 =>
    nilV vs11 (some ⟨[.bool v11.toBool], [], f3_fresh⟩))
  else
    some ⟨[.bool false], [], f3_fresh⟩
  else
    some ⟨[.bool false], [], f3_fresh⟩
  else
    (run 18 [.str v3.toStr, .str v4.toStr]).bind fun r10 =>
    nilV r10.outs (consV r10.vals fun v12 vs12 =>
    nilV vs12 (bif v12.toBool then
    (run 15 []).bind fun r11 =>
    nilV r11.outs (consV r11.vals fun v13 vs13 =>
    nilV vs13 (some ⟨[.bool v13.toBool], [], f3_fresh⟩))
  else
    some ⟨[.bool false], [], f3_fresh⟩))
  else
    bif !(eqO v5.toBool false) then
    some ⟨[.bool false], [], f3_fresh⟩
  else
    bif !v5.toBool then
    bif eqS v3.toStr [] then
    bif eqS v4.toStr [] then
    (run 15 []).bind fun r12 =>
    nilV r12.outs (consV r12.vals fun v14 vs14 =>
    nilV vs14 (some ⟨[.bool v14.toBool], [], f3_fresh⟩))
  else
    some ⟨[.bool false], [], f3_fresh⟩
  else
    some ⟨[.bool false], [], f3_fresh⟩
  else
    (run 18 [.str v3.toStr, .str v4.toStr]).bind fun r13 =>
    nilV r13.outs (consV r13.vals fun v15 vs15 =>
    nilV vs15 (bif v15.toBool then
    (run 15 []).bind fun r14 =>
    nilV r14.outs (consV r14.vals fun v16 vs16 =>
    nilV vs16 (some ⟨[.bool v16.toBool], [], f3_fresh⟩))
  else
    some ⟨[.bool false], [], f3_fresh⟩))))
  else
    bif !(eqO v5.toBool false) then
    some ⟨[.bool false], [], f3_fresh⟩
  else
    bif !v5.toBool then
    bif eqS v3.toStr [] then
    bif eqS v4.toStr [] then
    (run 15 []).bind fun r15 =>
    nilV r15.outs (consV r15.vals fun v17 vs17 =>
    nilV vs17 (some ⟨[.bool v17.toBool], [], f3_fresh⟩))
  else
    some ⟨[.bool false], [], f3_fresh⟩
  else
    some ⟨[.bool false], [], f3_fresh⟩
  else
    (run 18 [.str v3.toStr, .str v4.toStr]).bind fun r16 =>
    nilV r16.outs (consV r16.vals fun v18 vs18 =>
    nilV vs18 (bif v18.toBool then
    (run 15 []).bind fun r17 =>
    nilV r17.outs (consV r17.vals fun v19 vs19 =>
    nilV vs19 (some ⟨[.bool v19.toBool], [], f3_fresh⟩))
  else
    some ⟨[.bool false], [], f3_fresh⟩)))))) := by kernel_rfl
theorem f3_run (ext : Run) (n : Nat) (a0_1 : List UInt8) (a1_1 : List UInt8) (a1_2 : Int) (a1_3 : Int) (a1_4 : List AV) (a2_1 : List UInt8) (a2_2 : Int) (a2_3 : Int) (a2_4 : List AV) : runE G ext (n + 1) 3 [.blob a0_1, .agg [.str a1_1, .agg [.int a1_2, .int a1_3, .slice a1_4]], .agg [.str a2_1, .agg [.int a2_2, .int a2_3, .slice a2_4]]] = f3 (runE G ext n) n a0_1 a1_1 a1_2 a1_3 a1_4 a2_1 a2_2 a2_3 a2_4 := runE_succ f3_at f3_in

noncomputable def f19_l0 (run : Run) (n : Nat) (k0 : Nat) (x0_1 : List AV) (x3_1 : Int) (x4_1 : Int) : Option Res :=
  iterK (evalK G run n f19_keep 0 (sub [1, 1, 0, 1, 0, 0] f19_body)) f19_t0 f19_o0 (blockK 0 (seqK (evalK G run n f19_keep 0 (sub [1, 1, 1] f19_body) (retE G f19_info)) (retE G f19_info))) k0
    ⟨[.val (.slice .str) none (.slice x0_1), .any, .any, .val (.int .i64) none (.int x3_1), .val (.int .i64) none (.int x4_1), .any, .any, .any, .any, .any, .any, .any, .any, .any, .any, .any, .any, .any, .any, .any, .any, .any, .any, .any, .any, .any, .any, .any, .any, .any], [⟨0, none⟩, ⟨0, none⟩, ⟨0, none⟩, ⟨0, none⟩, ⟨0, none⟩, ⟨0, none⟩, ⟨0, none⟩, ⟨0, none⟩, ⟨0, none⟩, ⟨0, none⟩, ⟨0, none⟩, ⟨0, none⟩, ⟨0, none⟩, ⟨0, none⟩, ⟨0, none⟩, ⟨0, none⟩, ⟨0, none⟩, ⟨0, none⟩, ⟨0, none⟩, ⟨0, none⟩, ⟨0, none⟩, ⟨0, none⟩, ⟨0, none⟩, ⟨0, none⟩, ⟨0, none⟩, ⟨0, none⟩, ⟨0, none⟩, ⟨0, none⟩, ⟨0, none⟩, ⟨0, none⟩], List.replicate 30 0⟩
theorem f19_l0_eq (run : Run) (n : Nat) (k0 : Nat) (x0_1 : List AV) (x3_1 : Int) (x4_1 : Int) : f19_l0 run n (k0 + 1) x0_1 x3_1 x4_1 =
  bif ltI x4_1 (x0_1.length : Int) then
    bif ltI x4_1 101 then
    bif inR x4_1 x0_1.length then
    f19_l0 run n k0 x0_1 (mn2 (IntKind.wrap .i64 (x3_1 + (((nth x0_1 (Int.toNat x4_1)).toStr).length : Int))) 1048576) (IntKind.wrap .i64 (x4_1 + 1))
  else none
  else
    bif ltI 100 (x0_1.length : Int) then
    some ⟨[.bool true], [], f19_fresh⟩
  else
    some ⟨[.bool (ltI 5000 x3_1)], [], f19_fresh⟩
  else
    bif ltI 100 (x0_1.length : Int) then
    some ⟨[.bool true], [], f19_fresh⟩
  else
    some ⟨[.bool (ltI 5000 x3_1)], [], f19_fresh⟩ := by kernel_rfl
noncomputable def f19 (run : Run) (n : Nat) (a0_1 : List AV) : Option Res := evalK G run n f19_info.keep 0 f19_info.body (retE G f19_info) (f19_info.start [.slice a0_1])
theorem f19_eq (run : Run) (n : Nat) (a0_1 : List AV) : f19 run n a0_1 =
  f19_l0 run n n a0_1 0 0 := by kernel_rfl
theorem f19_run (ext : Run) (n : Nat) (a0_1 : List AV) : runE G ext (n + 1) 19 [.slice a0_1] = f19 (runE G ext n) n a0_1 := runE_succ f19_at f19_in

noncomputable def f62 (run : Run) (n : Nat) (a0_1 : List AV) (a1_1 : Int) : Option Res := evalK G run n f62_info.keep 0 f62_info.body (retE G f62_info) (f62_info.start [.slice a0_1, .int a1_1])
theorem f62_eq (run : Run) (n : Nat) (a0_1 : List AV) (a1_1 : Int) : f62 run n a0_1 a1_1 =
  bif eqI (a0_1.length : Int) 1 then
    some ⟨[.slice []], [], f62_fresh⟩
  else
    (run 90 [.int (a0_1.length : Int)]).bind fun r1 =>
    nilV r1.outs (consV r1.vals fun v1 vs1 =>
    nilV vs1 (bif ltI a1_1 v1.toInt then
    bif boundsOk 0 v1.toInt (a0_1.length : Int) (a0_1.length : Int) && true then
    (run 62 [.slice (List.drop 0 (List.take (Int.toNat v1.toInt) a0_1)), .int a1_1]).bind fun r2 =>
    bif r2.fresh then
    nilV r2.outs (consV r2.vals fun v2 vs2 =>
    nilV vs2 (bif boundsOk v1.toInt (a0_1.length : Int) (a0_1.length : Int) (a0_1.length : Int) && true then
    (run 65 [.slice (List.drop (Int.toNat v1.toInt) (List.take (Int.toNat (a0_1.length : Int)) a0_1))]).bind fun r3 =>
    nilV r3.outs (consV r3.vals fun v3 vs3 =>
    nilV vs3 (bif Nat.ble ((v2.toSlice.length + 1) * 32) 140737488355328 then
    some ⟨[.slice (v2.toSlice ++ [.blob v3.toBlob])], [], f62_fresh⟩
  else none))
  else none))
  else none
  else none
  else
    bif boundsOk v1.toInt (a0_1.length : Int) (a0_1.length : Int) (a0_1.length : Int) && true then
    (run 62 [.slice (List.drop (Int.toNat v1.toInt) (List.take (Int.toNat (a0_1.length : Int)) a0_1)), .int (IntKind.wrap .i64 (a1_1 - v1.toInt))]).bind fun r4 =>
    bif r4.fresh then
    nilV r4.outs (consV r4.vals fun v4 vs4 =>
    nilV vs4 (bif boundsOk 0 v1.toInt (a0_1.length : Int) (a0_1.length : Int) && true then
    (run 65 [.slice (List.drop 0 (List.take (Int.toNat v1.toInt) a0_1))]).bind fun r5 =>
    nilV r5.outs (consV r5.vals fun v5 vs5 =>
    nilV vs5 (bif Nat.ble ((v4.toSlice.length + 1) * 32) 140737488355328 then
    some ⟨[.slice (v4.toSlice ++ [.blob v5.toBlob])], [], f62_fresh⟩
  else none))
  else none))
  else none
  else none)) := by kernel_rfl
theorem f62_run (ext : Run) (n : Nat) (a0_1 : List AV) (a1_1 : Int) : runE G ext (n + 1) 62 [.slice a0_1, .int a1_1] = f62 (runE G ext n) n a0_1 a1_1 := runE_succ f62_at f62_in

noncomputable def f20 (run : Run) (n : Nat) (a0_1 : List AV) (a1_1 : Int) : Option Res := evalK G run n f20_info.keep 0 f20_info.body (retE G f20_info) (f20_info.start [.slice a0_1, .int a1_1])
theorem f20_eq (run : Run) (n : Nat) (a0_1 : List AV) (a1_1 : Int) : f20 run n a0_1 a1_1 =
  bif ltI 1048576 (a0_1.length : Int) then
    some ⟨[.agg [.int 0, .int 0, .slice []], .int 4], [], f20_fresh⟩
  else
    bif ltI a1_1 0 then
    some ⟨[.agg [.int 0, .int 0, .slice []], .int 3], [], f20_fresh⟩
  else
    bif leI (a0_1.length : Int) a1_1 then
    some ⟨[.agg [.int 0, .int 0, .slice []], .int 3], [], f20_fresh⟩
  else
    (run 63 [.slice a0_1]).bind fun r1 =>
    bif r1.fresh then
    nilV r1.outs (consV r1.vals fun v1 vs1 =>
    nilV vs1 ((run 62 [.slice v1.toSlice, .int a1_1]).bind fun r2 =>
    bif r2.fresh then
    nilV r2.outs (consV r2.vals fun v2 vs2 =>
    nilV vs2 (some ⟨[.agg [.int a1_1, .int (a0_1.length : Int), .slice v2.toSlice], .int 0], [], f20_fresh⟩))
  else none))
  else none := by kernel_rfl
theorem f20_run (ext : Run) (n : Nat) (a0_1 : List AV) (a1_1 : Int) : runE G ext (n + 1) 20 [.slice a0_1, .int a1_1] = f20 (runE G ext n) n a0_1 a1_1 := runE_succ f20_at f20_in

noncomputable def f4 (run : Run) (n : Nat) (a0_1 : List AV) (a1_1 : List AV) (a2_1 : Int) : Option Res := evalK G run n f4_info.keep 0 f4_info.body (retE G f4_info) (f4_info.start [.slice a0_1, .slice a1_1, .int a2_1])
theorem f4_eq (run : Run) (n : Nat) (a0_1 : List AV) (a1_1 : List AV) (a2_1 : Int) : f4 run n a0_1 a1_1 a2_1 =
  (run 19 [.slice a0_1]).bind fun r1 =>
    nilV r1.outs (consV r1.vals fun v1 vs1 =>
    nilV vs1 (bif v1.toBool then
    (run 15 []).bind fun r2 =>
    nilV r2.outs (consV r2.vals fun v2 vs2 =>
    nilV vs2 (some ⟨[.bool v2.toBool], [], f4_fresh⟩))
  else
    (run 19 [.slice a1_1]).bind fun r3 =>
    nilV r3.outs (consV r3.vals fun v3 vs3 =>
    nilV vs3 (bif v3.toBool then
    (run 15 []).bind fun r4 =>
    nilV r4.outs (consV r4.vals fun v4 vs4 =>
    nilV vs4 (some ⟨[.bool v4.toBool], [], f4_fresh⟩))
  else
    bif ltI a2_1 0 then
    (run 15 []).bind fun r5 =>
    nilV r5.outs (consV r5.vals fun v5 vs5 =>
    nilV vs5 (some ⟨[.bool v5.toBool], [], f4_fresh⟩))
  else
    bif leI (a0_1.length : Int) a2_1 then
    (run 15 []).bind fun r6 =>
    nilV r6.outs (consV r6.vals fun v6 vs6 =>
    nilV vs6 (some ⟨[.bool v6.toBool], [], f4_fresh⟩))
  else
    bif leI (a1_1.length : Int) a2_1 then
    (run 15 []).bind fun r7 =>
    nilV r7.outs (consV r7.vals fun v7 vs7 =>
    nilV vs7 (some ⟨[.bool v7.toBool], [], f4_fresh⟩))
  else
    (run 20 [.slice a0_1, .int a2_1]).bind fun r8 =>
    nilV r8.outs (consV r8.vals fun v8 vs8 =>
    consV vs8 fun _v9 vs9 =>
    nilV vs9 ((run 20 [.slice a1_1, .int a2_1]).bind fun r9 =>
    nilV r9.outs (consV r9.vals fun v10 vs10 =>
    consV vs10 fun _v11 vs11 =>
    nilV vs11 ((run 21 [.slice a0_1]).bind fun r10 =>
    nilV r10.outs (consV r10.vals fun v12 vs12 =>
    nilV vs12 (bif inR a2_1 a0_1.length then
    bif inR a2_1 a1_1.length then
    (run 16 [.blob v12.toBlob, .agg [.str ((nth a0_1 (Int.toNat a2_1)).toStr), .agg [.int ((v8.fld 0).toInt), .int ((v8.fld 1).toInt), .slice ((v8.fld 2).toSlice)]], .agg [.str ((nth a1_1 (Int.toNat a2_1)).toStr), .agg [.int ((v10.fld 0).toInt), .int ((v10.fld 1).toInt), .slice ((v10.fld 2).toSlice)]]]).bind fun r11 =>
    nilV r11.outs (consV r11.vals fun v13 vs13 =>
    consV vs13 fun v14 vs14 =>
    consV vs14 fun v15 vs15 =>
    nilV vs15 ((run 21 [.slice a1_1]).bind fun r12 =>
    nilV r12.outs (consV r12.vals fun v16 vs16 =>
    nilV vs16 (bif !(eqS v12.toBlob v16.toBlob) then
    bif !v15.toBool then
    (run 15 []).bind fun r13 =>
    nilV r13.outs (consV r13.vals fun v17 vs17 =>
    nilV vs17 (some ⟨[.bool v17.toBool], [], f4_fresh⟩))
  else
    some ⟨[.bool false], [], f4_fresh⟩
  else
    bif inR a2_1 a0_1.length then
    bif inR a2_1 a1_1.length then
    bif eqS ((nth a0_1 (Int.toNat a2_1)).toStr) ((nth a1_1 (Int.toNat a2_1)).toStr) then
    bif !v15.toBool then
    (run 15 []).bind fun r14 =>
    nilV r14.outs (consV r14.vals fun v18 vs18 =>
    nilV vs18 (some ⟨[.bool v18.toBool], [], f4_fresh⟩))
  else
    some ⟨[.bool false], [], f4_fresh⟩
  else
    bif v15.toBool then
    (run 18 [.str v13.toStr, .str v14.toStr]).bind fun r15 =>
    nilV r15.outs (consV r15.vals fun v19 vs19 =>
    nilV vs19 (bif v19.toBool then
    (run 15 []).bind fun r16 =>
    nilV r16.outs (consV r16.vals fun v20 vs20 =>
    nilV vs20 (some ⟨[.bool v20.toBool], [], f4_fresh⟩))
  else
    some ⟨[.bool false], [], f4_fresh⟩))
  else
    some ⟨[.bool false], [], f4_fresh⟩
  else none
  else none))))
  else none
  else none)))))))))) := by kernel_rfl
theorem f4_run (ext : Run) (n : Nat) (a0_1 : List AV) (a1_1 : List AV) (a2_1 : Int) : runE G ext (n + 1) 4 [.slice a0_1, .slice a1_1, .int a2_1] = f4 (runE G ext n) n a0_1 a1_1 a2_1 := runE_succ f4_at f4_in

noncomputable def f95 (run : Run) (n : Nat) (a0_1 : Int) (a0_2 : List UInt8) (a0_3 : List UInt8) (a0_4 : Int) : Option Res := evalK G run n f95_info.keep 0 f95_info.body (retE G f95_info) (f95_info.start [.agg [.int a0_1, .blob a0_2, .blob a0_3, .int a0_4]])
theorem f95_eq (run : Run) (n : Nat) (a0_1 : Int) (a0_2 : List UInt8) (a0_3 : List UInt8) (a0_4 : Int) : f95 run n a0_1 a0_2 a0_3 a0_4 =
  (run 115 [.int a0_1]).bind fun r1 =>
    nilV r1.outs (consV r1.vals fun v1 vs1 =>
    nilV vs1 (bif Nat.ble (v1.toStr.length + (bytesOf (List.drop 0 (List.take 32 (ofBytes a0_2)))).length) maxLen then
    bif Nat.ble ((v1.toStr ++ (bytesOf (List.drop 0 (List.take 32 (ofBytes a0_2))))).length + (bytesOf (List.drop 0 (List.take 32 (ofBytes a0_3)))).length) maxLen then
    (run 102 [.int a0_4]).bind fun r2 =>
    nilV r2.outs (consV r2.vals fun v2 vs2 =>
    nilV vs2 (bif Nat.ble (((v1.toStr ++ (bytesOf (List.drop 0 (List.take 32 (ofBytes a0_2))))) ++ (bytesOf (List.drop 0 (List.take 32 (ofBytes a0_3))))).length + v2.toStr.length) maxLen then
    some ⟨[.str (((v1.toStr ++ (bytesOf (List.drop 0 (List.take 32 (ofBytes a0_2))))) ++ (bytesOf (List.drop 0 (List.take 32 (ofBytes a0_3))))) ++ v2.toStr)], [], f95_fresh⟩
  else none))
  else none
  else none)) := by kernel_rfl
theorem f95_run (ext : Run) (n : Nat) (a0_1 : Int) (a0_2 : List UInt8) (a0_3 : List UInt8) (a0_4 : Int) : runE G ext (n + 1) 95 [.agg [.int a0_1, .blob a0_2, .blob a0_3, .int a0_4]] = f95 (runE G ext n) n a0_1 a0_2 a0_3 a0_4 := runE_succ f95_at f95_in

noncomputable def f114 (run : Run) (n : Nat) (a0_1 : List UInt8) : Option Res := evalK G run n f114_info.keep 0 f114_info.body (retE G f114_info) (f114_info.start [.str a0_1])
theorem f114_eq (run : Run) (n : Nat) (a0_1 : List UInt8) : f114 run n a0_1 =
  (run 101 [.int 3, .slice [.str a0_1]]).bind fun r1 =>
    nilV r1.outs (consV r1.vals fun v1 vs1 =>
    nilV vs1 (some ⟨[.str v1.toStr], [], f114_fresh⟩)) := by kernel_rfl
theorem f114_run (ext : Run) (n : Nat) (a0_1 : List UInt8) : runE G ext (n + 1) 114 [.str a0_1] = f114 (runE G ext n) n a0_1 := runE_succ f114_at f114_in

noncomputable def f94 (run : Run) (n : Nat) (a0_1 : List UInt8) : Option Res := evalK G run n f94_info.keep 0 f94_info.body (retE G f94_info) (f94_info.start [.str a0_1])
theorem f94_eq (run : Run) (n : Nat) (a0_1 : List UInt8) : f94 run n a0_1 =
  (run 114 [.str a0_1]).bind fun r1 =>
    nilV r1.outs (consV r1.vals fun v1 vs1 =>
    nilV vs1 ((run 89 [.str v1.toStr]).bind fun r2 =>
    nilV r2.outs (consV r2.vals fun v2 vs2 =>
    nilV vs2 (some ⟨[.blob v2.toBlob], [], f94_fresh⟩)))) := by kernel_rfl
theorem f94_run (ext : Run) (n : Nat) (a0_1 : List UInt8) : runE G ext (n + 1) 94 [.str a0_1] = f94 (runE G ext n) n a0_1 := runE_succ f94_at f94_in

noncomputable def f66 (run : Run) (n : Nat) (a0_1 : Int) (a0_2 : List UInt8) (a0_3 : List UInt8) (a0_4 : Int) : Option Res := evalK G run n f66_info.keep 0 f66_info.body (retE G f66_info) (f66_info.start [.agg [.int a0_1, .blob a0_2, .blob a0_3, .int a0_4]])
theorem f66_eq (run : Run) (n : Nat) (a0_1 : Int) (a0_2 : List UInt8) (a0_3 : List UInt8) (a0_4 : Int) : f66 run n a0_1 a0_2 a0_3 a0_4 =
  (run 95 [.agg [.int a0_1, .blob a0_2, .blob a0_3, .int a0_4]]).bind fun r1 =>
    nilV r1.outs (consV r1.vals fun v1 vs1 =>
    nilV vs1 ((run 94 [.str v1.toStr]).bind fun r2 =>
    nilV r2.outs (consV r2.vals fun v2 vs2 =>
    nilV vs2 (some ⟨[.blob v2.toBlob], [], f66_fresh⟩)))) := by kernel_rfl
theorem f66_run (ext : Run) (n : Nat) (a0_1 : Int) (a0_2 : List UInt8) (a0_3 : List UInt8) (a0_4 : Int) : runE G ext (n + 1) 66 [.agg [.int a0_1, .blob a0_2, .blob a0_3, .int a0_4]] = f66 (runE G ext n) n a0_1 a0_2 a0_3 a0_4 := runE_succ f66_at f66_in

noncomputable def f44 (run : Run) (n : Nat) (a0_1 : List UInt8) : Option Res := evalK G run n f44_info.keep 0 f44_info.body (retE G f44_info) (f44_info.start [.blob a0_1])
theorem f44_eq (run : Run) (n : Nat) (a0_1 : List UInt8) : f44 run n a0_1 =
  bif Nat.ble (1 + (bytesOf (List.drop 0 (List.take 32 (ofBytes a0_1)))).length) maxLen then
    some ⟨[.str ([76] ++ (bytesOf (List.drop 0 (List.take 32 (ofBytes a0_1)))))], [], f44_fresh⟩
  else none := by kernel_rfl
theorem f44_run (ext : Run) (n : Nat) (a0_1 : List UInt8) : runE G ext (n + 1) 44 [.blob a0_1] = f44 (runE G ext n) n a0_1 := runE_succ f44_at f44_in

noncomputable def f46 (run : Run) (n : Nat) (a0_1 : List UInt8) (a1_1 : List UInt8) (a2_1 : Int) (a2_2 : Int) (a2_3 : List AV) : Option Res := evalK G run n f46_info.keep 0 f46_info.body (retE G f46_info) (f46_info.start [.blob a0_1, .blob a1_1, .agg [.int a2_1, .int a2_2, .slice a2_3]])
theorem f46_eq (run : Run) (n : Nat) (a0_1 : List UInt8) (a1_1 : List UInt8) (a2_1 : Int) (a2_2 : Int) (a2_3 : List AV) : f46 run n a0_1 a1_1 a2_1 a2_2 a2_3 =
  bif leI a2_2 257 then
    (run 44 [.blob a1_1]).bind fun r1 =>
    nilV r1.outs (consV r1.vals fun v1 vs1 =>
    nilV vs1 ((run 34 [.blob a0_1, .str v1.toStr, .agg [.int a2_1, .int a2_2, .slice a2_3]]).bind fun r2 =>
    nilV r2.outs (consV r2.vals fun v2 vs2 =>
    nilV vs2 (some ⟨[.bool v2.toBool], [], f46_fresh⟩))))
  else
    some ⟨[.bool false], [], f46_fresh⟩ := by kernel_rfl
theorem f46_run (ext : Run) (n : Nat) (a0_1 : List UInt8) (a1_1 : List UInt8) (a2_1 : Int) (a2_2 : Int) (a2_3 : List AV) : runE G ext (n + 1) 46 [.blob a0_1, .blob a1_1, .agg [.int a2_1, .int a2_2, .slice a2_3]] = f46 (runE G ext n) n a0_1 a1_1 a2_1 a2_2 a2_3 := runE_succ f46_at f46_in

noncomputable def f22 (run : Run) (n : Nat) (a0_1 : Int) (a0_2 : List UInt8) (a0_3 : List UInt8) (a0_4 : Int) (a0_5 : Int) (a0_6 : Int) (a0_7 : List AV) (a1_1 : Int) (a1_2 : List UInt8) (a1_3 : List UInt8) (a1_4 : Int) : Option Res := evalK G run n f22_info.keep 0 f22_info.body (retE G f22_info) (f22_info.start [.agg [.agg [.int a0_1, .blob a0_2, .blob a0_3, .int a0_4], .agg [.int a0_5, .int a0_6, .slice a0_7]], .agg [.int a1_1, .blob a1_2, .blob a1_3, .int a1_4]])
theorem f22_eq (run : Run) (n : Nat) (a0_1 : Int) (a0_2 : List UInt8) (a0_3 : List UInt8) (a0_4 : Int) (a0_5 : Int) (a0_6 : Int) (a0_7 : List AV) (a1_1 : Int) (a1_2 : List UInt8) (a1_3 : List UInt8) (a1_4 : Int) : f22 run n a0_1 a0_2 a0_3 a0_4 a0_5 a0_6 a0_7 a1_1 a1_2 a1_3 a1_4 =
  (run 66 [.agg [.int a1_1, .blob a1_2, .blob a1_3, .int a1_4]]).bind fun r1 =>
    nilV r1.outs (consV r1.vals fun v1 vs1 =>
    nilV vs1 ((run 46 [.blob a0_2, .blob v1.toBlob, .agg [.int a0_5, .int a0_6, .slice a0_7]]).bind fun r2 =>
    nilV r2.outs (consV r2.vals fun v2 vs2 =>
    nilV vs2 (some ⟨[.bool v2.toBool], [], f22_fresh⟩)))) := by kernel_rfl
theorem f22_run (ext : Run) (n : Nat) (a0_1 : Int) (a0_2 : List UInt8) (a0_3 : List UInt8) (a0_4 : Int) (a0_5 : Int) (a0_6 : Int) (a0_7 : List AV) (a1_1 : Int) (a1_2 : List UInt8) (a1_3 : List UInt8) (a1_4 : Int) : runE G ext (n + 1) 22 [.agg [.agg [.int a0_1, .blob a0_2, .blob a0_3, .int a0_4], .agg [.int a0_5, .int a0_6, .slice a0_7]], .agg [.int a1_1, .blob a1_2, .blob a1_3, .int a1_4]] = f22 (runE G ext n) n a0_1 a0_2 a0_3 a0_4 a0_5 a0_6 a0_7 a1_1 a1_2 a1_3 a1_4 := runE_succ f22_at f22_in

noncomputable def f26_l0 (run : Run) (n : Nat) (k0 : Nat) (x0_1 : List AV) (x3_1 : Int) : Option Res :=
  iterK (evalK G run n f26_keep 0 (sub [1, 0, 1, 0, 0] f26_body)) f26_t0 f26_o0 (blockK 0 (seqK (evalK G run n f26_keep 0 (sub [1, 1] f26_body) (retE G f26_info)) (retE G f26_info))) k0
    ⟨[.val (.slice (.struct [(.struct [(.int .u32), (.blob 32), (.blob 32), (.int .u64)]), (.struct [(.int .i64), (.int .i64), (.slice (.blob 32))])])) none (.slice x0_1), .any, .any, .val (.int .i64) none (.int x3_1), .any, .any, .any, .any, .any, .any, .any, .any, .any, .any, .any, .any, .any, .any, .any, .any, .any, .any, .any], [⟨0, none⟩, ⟨0, none⟩, ⟨0, none⟩, ⟨0, none⟩, ⟨0, none⟩, ⟨0, none⟩, ⟨0, none⟩, ⟨0, none⟩, ⟨0, none⟩, ⟨0, none⟩, ⟨0, none⟩, ⟨0, none⟩, ⟨0, none⟩, ⟨0, none⟩, ⟨0, none⟩, ⟨0, none⟩, ⟨0, none⟩, ⟨0, none⟩, ⟨0, none⟩, ⟨0, none⟩, ⟨0, none⟩, ⟨0, none⟩, ⟨0, none⟩], List.replicate 23 0⟩
theorem f26_l0_eq (run : Run) (n : Nat) (k0 : Nat) (x0_1 : List AV) (x3_1 : Int) : f26_l0 run n (k0 + 1) x0_1 x3_1 =
  bif ltI x3_1 (x0_1.length : Int) then
    bif inR x3_1 x0_1.length then
    bif inR (IntKind.wrap .i64 (x3_1 - 1)) x0_1.length then
    (run 22 [.agg [.agg [.int ((((nth x0_1 (Int.toNat x3_1)).fld 0).fld 0).toInt), .blob ((((nth x0_1 (Int.toNat x3_1)).fld 0).fld 1).toBlob), .blob ((((nth x0_1 (Int.toNat x3_1)).fld 0).fld 2).toBlob), .int ((((nth x0_1 (Int.toNat x3_1)).fld 0).fld 3).toInt)], .agg [.int ((((nth x0_1 (Int.toNat x3_1)).fld 1).fld 0).toInt), .int ((((nth x0_1 (Int.toNat x3_1)).fld 1).fld 1).toInt), .slice ((((nth x0_1 (Int.toNat x3_1)).fld 1).fld 2).toSlice)]], .agg [.int ((((nth x0_1 (Int.toNat (IntKind.wrap .i64 (x3_1 - 1)))).fld 0).fld 0).toInt), .blob ((((nth x0_1 (Int.toNat (IntKind.wrap .i64 (x3_1 - 1)))).fld 0).fld 1).toBlob), .blob ((((nth x0_1 (Int.toNat (IntKind.wrap .i64 (x3_1 - 1)))).fld 0).fld 2).toBlob), .int ((((nth x0_1 (Int.toNat (IntKind.wrap .i64 (x3_1 - 1)))).fld 0).fld 3).toInt)]]).bind fun r1 =>
    nilV r1.outs (consV r1.vals fun v1 vs1 =>
    nilV vs1 (bif !v1.toBool then
    some ⟨[.int x3_1], [], f26_fresh⟩
  else
    f26_l0 run n k0 x0_1 (IntKind.wrap .i64 (x3_1 + 1))))
  else none
  else none
  else
    some ⟨[.int (-1)], [], f26_fresh⟩ := by kernel_rfl
noncomputable def f26 (run : Run) (n : Nat) (a0_1 : List AV) : Option Res := evalK G run n f26_info.keep 0 f26_info.body (retE G f26_info) (f26_info.start [.slice a0_1])
theorem f26_eq (run : Run) (n : Nat) (a0_1 : List AV) : f26 run n a0_1 =
  f26_l0 run n n a0_1 1 := by kernel_rfl
theorem f26_run (ext : Run) (n : Nat) (a0_1 : List AV) : runE G ext (n + 1) 26 [.slice a0_1] = f26 (runE G ext n) n a0_1 := runE_succ f26_at f26_in

noncomputable def f68_l0 (run : Run) (n : Nat) (k0 : Nat) (x3_1 : List AV) (x6_1 : List AV) (x7_1 : Int) (x8_1 : Int) : Option Res :=
  iterK (evalK G run n f68_keep 0 (sub [1, 1, 0, 1, 0, 0] f68_body)) f68_t0 f68_o0 (blockK 0 (seqK (evalK G run n f68_keep 0 (sub [1, 1, 1] f68_body) (retE G f68_info)) (retE G f68_info))) k0
    ⟨[.any, .any, .any, .val (.slice (.blob 32)) (some (3, 0)) (.slice x3_1), .any, .any, .val (.slice (.struct [(.int .u32), (.blob 32), (.blob 32), (.int .u64)])) none (.slice x6_1), .val (.int .i64) none (.int x7_1), .val (.int .i64) none (.int x8_1), .any, .any, .any, .any, .any, .any, .any, .any, .any, .any], [⟨0, none⟩, ⟨0, none⟩, ⟨0, none⟩, ⟨0, none⟩, ⟨0, none⟩, ⟨0, none⟩, ⟨0, none⟩, ⟨0, none⟩, ⟨0, none⟩, ⟨0, none⟩, ⟨0, none⟩, ⟨0, none⟩, ⟨0, none⟩, ⟨0, none⟩, ⟨0, none⟩, ⟨0, none⟩, ⟨0, none⟩, ⟨0, none⟩, ⟨0, none⟩], List.replicate 19 0⟩
theorem f68_l0_eq (run : Run) (n : Nat) (k0 : Nat) (x3_1 : List AV) (x6_1 : List AV) (x7_1 : Int) (x8_1 : Int) : f68_l0 run n (k0 + 1) x3_1 x6_1 x7_1 x8_1 =
  bif ltI x8_1 x7_1 then
    bif inR x8_1 x6_1.length then
    (run 66 [.agg [.int (((nth x6_1 (Int.toNat x8_1)).fld 0).toInt), .blob (((nth x6_1 (Int.toNat x8_1)).fld 1).toBlob), .blob (((nth x6_1 (Int.toNat x8_1)).fld 2).toBlob), .int (((nth x6_1 (Int.toNat x8_1)).fld 3).toInt)]]).bind fun r1 =>
    nilV r1.outs (consV r1.vals fun v1 vs1 =>
    nilV vs1 (bif Nat.ble ((x3_1.length + 1) * 32) 140737488355328 then
    f68_l0 run n k0 (x3_1 ++ [.blob v1.toBlob]) x6_1 x7_1 (IntKind.wrap .i64 (x8_1 + 1))
  else none))
  else none
  else
    some ⟨[.slice x3_1], [], f68_fresh⟩ := by kernel_rfl
noncomputable def f68 (run : Run) (n : Nat) (a0_1 : List AV) : Option Res := evalK G run n f68_info.keep 0 f68_info.body (retE G f68_info) (f68_info.start [.slice a0_1])
theorem f68_eq (run : Run) (n : Nat) (a0_1 : List AV) : f68 run n a0_1 =
  f68_l0 run n n [] a0_1 (a0_1.length : Int) 0 := by kernel_rfl
theorem f68_run (ext : Run) (n : Nat) (a0_1 : List AV) : runE G ext (n + 1) 68 [.slice a0_1] = f68 (runE G ext n) n a0_1 := runE_succ f68_at f68_in

noncomputable def f28_l0 (run : Run) (n : Nat) (k0 : Nat) (x3_1 : List AV) (x6_1 : List AV) (x7_1 : Int) (x8_1 : Int) : Option Res :=
  iterK (evalK G run n f28_keep 0 (sub [1, 1, 0, 1, 0, 0] f28_body)) f28_t0 f28_o0 (blockK 0 (seqK (evalK G run n f28_keep 0 (sub [1, 1, 1] f28_body) (retE G f28_info)) (retE G f28_info))) k0
    ⟨[.any, .any, .any, .val (.slice (.struct [(.int .u32), (.blob 32), (.blob 32), (.int .u64)])) (some (3, 0)) (.slice x3_1), .any, .any, .val (.slice (.struct [(.struct [(.int .u32), (.blob 32), (.blob 32), (.int .u64)]), (.struct [(.int .i64), (.int .i64), (.slice (.blob 32))])])) none (.slice x6_1), .val (.int .i64) none (.int x7_1), .val (.int .i64) none (.int x8_1), .any, .any, .any, .any, .any, .any, .any, .any, .any, .any, .any], [⟨0, none⟩, ⟨0, none⟩, ⟨0, none⟩, ⟨0, none⟩, ⟨0, none⟩, ⟨0, none⟩, ⟨0, none⟩, ⟨0, none⟩, ⟨0, none⟩, ⟨0, none⟩, ⟨0, none⟩, ⟨0, none⟩, ⟨0, none⟩, ⟨0, none⟩, ⟨0, none⟩, ⟨0, none⟩, ⟨0, none⟩, ⟨0, none⟩, ⟨0, none⟩, ⟨0, none⟩], List.replicate 20 0⟩
theorem f28_l0_eq (run : Run) (n : Nat) (k0 : Nat) (x3_1 : List AV) (x6_1 : List AV) (x7_1 : Int) (x8_1 : Int) : f28_l0 run n (k0 + 1) x3_1 x6_1 x7_1 x8_1 =
  bif ltI x8_1 x7_1 then
    bif inR x8_1 x6_1.length then
    bif Nat.ble ((x3_1.length + 1) * 80) 140737488355328 then
    f28_l0 run n k0 (x3_1 ++ [.agg [.int ((((nth x6_1 (Int.toNat x8_1)).fld 0).fld 0).toInt), .blob ((((nth x6_1 (Int.toNat x8_1)).fld 0).fld 1).toBlob), .blob ((((nth x6_1 (Int.toNat x8_1)).fld 0).fld 2).toBlob), .int ((((nth x6_1 (Int.toNat x8_1)).fld 0).fld 3).toInt)]]) x6_1 x7_1 (IntKind.wrap .i64 (x8_1 + 1))
  else none
  else none
  else
    (run 68 [.slice x3_1]).bind fun r1 =>
    bif r1.fresh then
    nilV r1.outs (consV r1.vals fun v1 vs1 =>
    nilV vs1 (some ⟨[.slice v1.toSlice], [], f28_fresh⟩))
  else none := by kernel_rfl
noncomputable def f28 (run : Run) (n : Nat) (a0_1 : List AV) : Option Res := evalK G run n f28_info.keep 0 f28_info.body (retE G f28_info) (f28_info.start [.slice a0_1])
theorem f28_eq (run : Run) (n : Nat) (a0_1 : List AV) : f28 run n a0_1 =
  f28_l0 run n n [] a0_1 (a0_1.length : Int) 0 := by kernel_rfl
theorem f28_run (ext : Run) (n : Nat) (a0_1 : List AV) : runE G ext (n + 1) 28 [.slice a0_1] = f28 (runE G ext n) n a0_1 := runE_succ f28_at f28_in

noncomputable def f24 (run : Run) (n : Nat) : Option Res := evalK G run n f24_info.keep 0 f24_info.body (retE G f24_info) (f24_info.start [])
theorem f24_eq (run : Run) (n : Nat) : f24 run n  =
  (run 26 [.slice (List.replicate 1 (.agg [.agg [.int 0, .blob (List.replicate 32 0), .blob (List.replicate 32 0), .int 0], .agg [.int 0, .int 0, .slice []]]))]).bind fun r1 =>
    nilV r1.outs (consV r1.vals fun v1 vs1 =>
    nilV vs1 (bif eqI v1.toInt (-1) then
    (run 26 [.slice (List.replicate 2 (.agg [.agg [.int 0, .blob (List.replicate 32 0), .blob (List.replicate 32 0), .int 0], .agg [.int 0, .int 0, .slice []]]))]).bind fun r2 =>
    nilV r2.outs (consV r2.vals fun v2 vs2 =>
    nilV vs2 (bif eqI v2.toInt 1 then
    (run 28 [.slice (List.replicate 2 (.agg [.agg [.int 0, .blob (List.replicate 32 0), .blob (List.replicate 32 0), .int 0], .agg [.int 0, .int 0, .slice []]]))]).bind fun r3 =>
    bif r3.fresh then
    nilV r3.outs (consV r3.vals fun v3 vs3 =>
    nilV vs3 (some ⟨[.bool (eqI (v3.toSlice.length : Int) 2)], [], f24_fresh⟩))
  else none
  else
    some ⟨[.bool false], [], f24_fresh⟩))
  else
    some ⟨[.bool false], [], f24_fresh⟩)) := by kernel_rfl
theorem f24_run (ext : Run) (n : Nat) : runE G ext (n + 1) 24 [] = f24 (runE G ext n) n  := runE_succ f24_at f24_in

noncomputable def f97 (run : Run) (n : Nat) (a0_1 : Int) (a0_2 : List UInt8) (a0_3 : List UInt8) (a0_4 : Int) : Option Res := evalK G run n f97_info.keep 0 f97_info.body (retE G f97_info) (f97_info.start [.agg [.int a0_1, .blob a0_2, .blob a0_3, .int a0_4]])
theorem f97_eq (run : Run) (n : Nat) (a0_1 : Int) (a0_2 : List UInt8) (a0_3 : List UInt8) (a0_4 : Int) : f97 run n a0_1 a0_2 a0_3 a0_4 =
  (run 111 [.int (IntKind.wrap .u64 a0_1), .int 4]).bind fun r1 =>
    nilV r1.outs (consV r1.vals fun v1 vs1 =>
    nilV vs1 ((run 79 [.blob a0_2]).bind fun r2 =>
    nilV r2.outs (consV r2.vals fun v2 vs2 =>
    nilV vs2 (bif Nat.ble (v1.toStr.length + v2.toStr.length) maxLen then
    (run 79 [.blob a0_3]).bind fun r3 =>
    nilV r3.outs (consV r3.vals fun v3 vs3 =>
    nilV vs3 (bif Nat.ble ((v1.toStr ++ v2.toStr).length + v3.toStr.length) maxLen then
    (run 111 [.int a0_4, .int 8]).bind fun r4 =>
    nilV r4.outs (consV r4.vals fun v4 vs4 =>
    nilV vs4 (bif Nat.ble (((v1.toStr ++ v2.toStr) ++ v3.toStr).length + v4.toStr.length) maxLen then
    some ⟨[.str (((v1.toStr ++ v2.toStr) ++ v3.toStr) ++ v4.toStr)], [], f97_fresh⟩
  else none))
  else none))
  else none)))) := by kernel_rfl
theorem f97_run (ext : Run) (n : Nat) (a0_1 : Int) (a0_2 : List UInt8) (a0_3 : List UInt8) (a0_4 : Int) : runE G ext (n + 1) 97 [.agg [.int a0_1, .blob a0_2, .blob a0_3, .int a0_4]] = f97 (runE G ext n) n a0_1 a0_2 a0_3 a0_4 := runE_succ f97_at f97_in

noncomputable def f96 (run : Run) (n : Nat) (a0_1 : List UInt8) : Option Res := evalK G run n f96_info.keep 0 f96_info.body (retE G f96_info) (f96_info.start [.str a0_1])
theorem f96_eq (run : Run) (n : Nat) (a0_1 : List UInt8) : f96 run n a0_1 =
  (run 112 [.int 3]).bind fun r1 =>
    nilV r1.outs (consV r1.vals fun v1 vs1 =>
    nilV vs1 (bif Nat.ble (v1.toStr.length + a0_1.length) maxLen then
    some ⟨[.str (v1.toStr ++ a0_1)], [], f96_fresh⟩
  else none)) := by kernel_rfl
theorem f96_run (ext : Run) (n : Nat) (a0_1 : List UInt8) : runE G ext (n + 1) 96 [.str a0_1] = f96 (runE G ext n) n a0_1 := runE_succ f96_at f96_in

noncomputable def f67 (run : Run) (n : Nat) (a0_1 : Int) (a0_2 : List UInt8) (a0_3 : List UInt8) (a0_4 : Int) : Option Res := evalK G run n f67_info.keep 0 f67_info.body (retE G f67_info) (f67_info.start [.agg [.int a0_1, .blob a0_2, .blob a0_3, .int a0_4]])
theorem f67_eq (run : Run) (n : Nat) (a0_1 : Int) (a0_2 : List UInt8) (a0_3 : List UInt8) (a0_4 : Int) : f67 run n a0_1 a0_2 a0_3 a0_4 =
  (run 97 [.agg [.int a0_1, .blob a0_2, .blob a0_3, .int a0_4]]).bind fun r1 =>
    nilV r1.outs (consV r1.vals fun v1 vs1 =>
    nilV vs1 ((run 96 [.str v1.toStr]).bind fun r2 =>
    nilV r2.outs (consV r2.vals fun v2 vs2 =>
    nilV vs2 ((run 91 [.str v2.toStr]).bind fun r3 =>
    nilV r3.outs (consV r3.vals fun v3 vs3 =>
    nilV vs3 (some ⟨[.blob v3.toBlob], [], f67_fresh⟩)))))) := by kernel_rfl
theorem f67_run (ext : Run) (n : Nat) (a0_1 : Int) (a0_2 : List UInt8) (a0_3 : List UInt8) (a0_4 : Int) : runE G ext (n + 1) 67 [.agg [.int a0_1, .blob a0_2, .blob a0_3, .int a0_4]] = f67 (runE G ext n) n a0_1 a0_2 a0_3 a0_4 := runE_succ f67_at f67_in

noncomputable def f45 (run : Run) (n : Nat) (a0_1 : List UInt8) : Option Res := evalK G run n f45_info.keep 0 f45_info.body (retE G f45_info) (f45_info.start [.blob a0_1])
theorem f45_eq (run : Run) (n : Nat) (a0_1 : List UInt8) : f45 run n a0_1 =
  (run 79 [.blob a0_1]).bind fun r1 =>
    nilV r1.outs (consV r1.vals fun v1 vs1 =>
    nilV vs1 (bif Nat.ble (1 + v1.toStr.length) maxLen then
    some ⟨[.str ([76] ++ v1.toStr)], [], f45_fresh⟩
  else none)) := by kernel_rfl
theorem f45_run (ext : Run) (n : Nat) (a0_1 : List UInt8) : runE G ext (n + 1) 45 [.blob a0_1] = f45 (runE G ext n) n a0_1 := runE_succ f45_at f45_in

noncomputable def f47 (run : Run) (n : Nat) (a0_1 : List UInt8) (a1_1 : List UInt8) (a2_1 : Int) (a2_2 : Int) (a2_3 : List AV) : Option Res := evalK G run n f47_info.keep 0 f47_info.body (retE G f47_info) (f47_info.start [.blob a0_1, .blob a1_1, .agg [.int a2_1, .int a2_2, .slice a2_3]])
theorem f47_eq (run : Run) (n : Nat) (a0_1 : List UInt8) (a1_1 : List UInt8) (a2_1 : Int) (a2_2 : Int) (a2_3 : List AV) : f47 run n a0_1 a1_1 a2_1 a2_2 a2_3 =
  bif leI a2_2 257 then
    (run 45 [.blob a1_1]).bind fun r1 =>
    nilV r1.outs (consV r1.vals fun v1 vs1 =>
    nilV vs1 ((run 17 [.blob a0_1, .str v1.toStr, .agg [.int a2_1, .int a2_2, .slice a2_3]]).bind fun r2 =>
    nilV r2.outs (consV r2.vals fun v2 vs2 =>
    nilV vs2 (some ⟨[.bool v2.toBool], [], f47_fresh⟩))))
  else
    some ⟨[.bool false], [], f47_fresh⟩ := by kernel_rfl
theorem f47_run (ext : Run) (n : Nat) (a0_1 : List UInt8) (a1_1 : List UInt8) (a2_1 : Int) (a2_2 : Int) (a2_3 : List AV) : runE G ext (n + 1) 47 [.blob a0_1, .blob a1_1, .agg [.int a2_1, .int a2_2, .slice a2_3]] = f47 (runE G ext n) n a0_1 a1_1 a2_1 a2_2 a2_3 := runE_succ f47_at f47_in

noncomputable def f23 (run : Run) (n : Nat) (a0_1 : Int) (a0_2 : List UInt8) (a0_3 : List UInt8) (a0_4 : Int) (a0_5 : Int) (a0_6 : Int) (a0_7 : List AV) (a1_1 : Int) (a1_2 : List UInt8) (a1_3 : List UInt8) (a1_4 : Int) : Option Res := evalK G run n f23_info.keep 0 f23_info.body (retE G f23_info) (f23_info.start [.agg [.agg [.int a0_1, .blob a0_2, .blob a0_3, .int a0_4], .agg [.int a0_5, .int a0_6, .slice a0_7]], .agg [.int a1_1, .blob a1_2, .blob a1_3, .int a1_4]])
theorem f23_eq (run : Run) (n : Nat) (a0_1 : Int) (a0_2 : List UInt8) (a0_3 : List UInt8) (a0_4 : Int) (a0_5 : Int) (a0_6 : Int) (a0_7 : List AV) (a1_1 : Int) (a1_2 : List UInt8) (a1_3 : List UInt8) (a1_4 : Int) : f23 run n a0_1 a0_2 a0_3 a0_4 a0_5 a0_6 a0_7 a1_1 a1_2 a1_3 a1_4 =
  (run 67 [.agg [.int a1_1, .blob a1_2, .blob a1_3, .int a1_4]]).bind fun r1 =>
    nilV r1.outs (consV r1.vals fun v1 vs1 =>
    nilV vs1 ((run 47 [.blob a0_2, .blob v1.toBlob, .agg [.int a0_5, .int a0_6, .slice a0_7]]).bind fun r2 =>
    nilV r2.outs (consV r2.vals fun v2 vs2 =>
    nilV vs2 (some ⟨[.bool v2.toBool], [], f23_fresh⟩)))) := by kernel_rfl
theorem f23_run (ext : Run) (n : Nat) (a0_1 : Int) (a0_2 : List UInt8) (a0_3 : List UInt8) (a0_4 : Int) (a0_5 : Int) (a0_6 : Int) (a0_7 : List AV) (a1_1 : Int) (a1_2 : List UInt8) (a1_3 : List UInt8) (a1_4 : Int) : runE G ext (n + 1) 23 [.agg [.agg [.int a0_1, .blob a0_2, .blob a0_3, .int a0_4], .agg [.int a0_5, .int a0_6, .slice a0_7]], .agg [.int a1_1, .blob a1_2, .blob a1_3, .int a1_4]] = f23 (runE G ext n) n a0_1 a0_2 a0_3 a0_4 a0_5 a0_6 a0_7 a1_1 a1_2 a1_3 a1_4 := runE_succ f23_at f23_in

noncomputable def f5 (run : Run) (n : Nat) (a0_1 : Int) (a0_2 : List UInt8) (a0_3 : List UInt8) (a0_4 : Int) (a0_5 : Int) (a0_6 : Int) (a0_7 : List AV) (a1_1 : Int) (a1_2 : List UInt8) (a1_3 : List UInt8) (a1_4 : Int) : Option Res := evalK G run n f5_info.keep 0 f5_info.body (retE G f5_info) (f5_info.start [.agg [.agg [.int a0_1, .blob a0_2, .blob a0_3, .int a0_4], .agg [.int a0_5, .int a0_6, .slice a0_7]], .agg [.int a1_1, .blob a1_2, .blob a1_3, .int a1_4]])
theorem f5_eq (run : Run) (n : Nat) (a0_1 : Int) (a0_2 : List UInt8) (a0_3 : List UInt8) (a0_4 : Int) (a0_5 : Int) (a0_6 : Int) (a0_7 : List AV) (a1_1 : Int) (a1_2 : List UInt8) (a1_3 : List UInt8) (a1_4 : Int) : f5 run n a0_1 a0_2 a0_3 a0_4 a0_5 a0_6 a0_7 a1_1 a1_2 a1_3 a1_4 =
  bif ltI 100 (a0_7.length : Int) then
    (run 24 []).bind fun r1 =>
    nilV r1.outs (consV r1.vals fun v1 vs1 =>
    nilV vs1 (some ⟨[.bool v1.toBool], [], f5_fresh⟩))
  else
    (run 22 [.agg [.agg [.int a0_1, .blob a0_2, .blob a0_3, .int a0_4], .agg [.int a0_5, .int a0_6, .slice a0_7]], .agg [.int a1_1, .blob a1_2, .blob a1_3, .int a1_4]]).bind fun r2 =>
    nilV r2.outs (consV r2.vals fun v2 vs2 =>
    nilV vs2 ((run 23 [.agg [.agg [.int a0_1, .blob a0_2, .blob a0_3, .int a0_4], .agg [.int a0_5, .int a0_6, .slice a0_7]], .agg [.int a1_1, .blob a1_2, .blob a1_3, .int a1_4]]).bind fun r3 =>
    nilV r3.outs (consV r3.vals fun v3 vs3 =>
    nilV vs3 (bif eqO v2.toBool v3.toBool then
    (run 24 []).bind fun r4 =>
    nilV r4.outs (consV r4.vals fun v4 vs4 =>
    nilV vs4 (some ⟨[.bool v4.toBool], [], f5_fresh⟩))
  else
    some ⟨[.bool false], [], f5_fresh⟩)))) := by kernel_rfl
theorem f5_run (ext : Run) (n : Nat) (a0_1 : Int) (a0_2 : List UInt8) (a0_3 : List UInt8) (a0_4 : Int) (a0_5 : Int) (a0_6 : Int) (a0_7 : List AV) (a1_1 : Int) (a1_2 : List UInt8) (a1_3 : List UInt8) (a1_4 : Int) : runE G ext (n + 1) 5 [.agg [.agg [.int a0_1, .blob a0_2, .blob a0_3, .int a0_4], .agg [.int a0_5, .int a0_6, .slice a0_7]], .agg [.int a1_1, .blob a1_2, .blob a1_3, .int a1_4]] = f5 (runE G ext n) n a0_1 a0_2 a0_3 a0_4 a0_5 a0_6 a0_7 a1_1 a1_2 a1_3 a1_4 := runE_succ f5_at f5_in

noncomputable def f25_l0 (run : Run) (n : Nat) (k0 : Nat) (x0_1 : List AV) (x3_1 : Int) (x4_1 : Int) : Option Res :=
  iterK (evalK G run n f25_keep 0 (sub [1, 1, 0, 1, 0, 0] f25_body)) f25_t0 f25_o0 (blockK 0 (seqK (evalK G run n f25_keep 0 (sub [1, 1, 1] f25_body) (retE G f25_info)) (retE G f25_info))) k0
    ⟨[.val (.slice (.struct [(.struct [(.int .u32), (.blob 32), (.blob 32), (.int .u64)]), (.struct [(.int .i64), (.int .i64), (.slice (.blob 32))])])) none (.slice x0_1), .any, .any, .val (.int .i64) none (.int x3_1), .val (.int .i64) none (.int x4_1), .any, .any, .any, .any, .any, .any, .any, .any, .any, .any, .any, .any, .any, .any, .any, .any, .any, .any, .any, .any, .any, .any, .any, .any, .any, .any, .any, .any, .any, .any, .any, .any, .any, .any, .any, .any, .any], [⟨0, none⟩, ⟨0, none⟩, ⟨0, none⟩, ⟨0, none⟩, ⟨0, none⟩, ⟨0, none⟩, ⟨0, none⟩, ⟨0, none⟩, ⟨0, none⟩, ⟨0, none⟩, ⟨0, none⟩, ⟨0, none⟩, ⟨0, none⟩, ⟨0, none⟩, ⟨0, none⟩, ⟨0, none⟩, ⟨0, none⟩, ⟨0, none⟩, ⟨0, none⟩, ⟨0, none⟩, ⟨0, none⟩, ⟨0, none⟩, ⟨0, none⟩, ⟨0, none⟩, ⟨0, none⟩, ⟨0, none⟩, ⟨0, none⟩, ⟨0, none⟩, ⟨0, none⟩, ⟨0, none⟩, ⟨0, none⟩, ⟨0, none⟩, ⟨0, none⟩, ⟨0, none⟩, ⟨0, none⟩, ⟨0, none⟩, ⟨0, none⟩, ⟨0, none⟩, ⟨0, none⟩, ⟨0, none⟩, ⟨0, none⟩, ⟨0, none⟩], List.replicate 42 0⟩
theorem f25_l0_eq (run : Run) (n : Nat) (k0 : Nat) (x0_1 : List AV) (x3_1 : Int) (x4_1 : Int) : f25_l0 run n (k0 + 1) x0_1 x3_1 x4_1 =
  bif ltI x4_1 (x0_1.length : Int) then
    bif ltI x4_1 100 then
    bif inR x4_1 x0_1.length then
    f25_l0 run n k0 x0_1 (mn2 (IntKind.wrap .i64 (x3_1 + (((((nth x0_1 (Int.toNat x4_1)).fld 1).fld 2).toSlice).length : Int))) 1048576) (IntKind.wrap .i64 (x4_1 + 1))
  else none
  else
    bif ltI 40 (x0_1.length : Int) then
    bif leI (x0_1.length : Int) 1024 then
    some ⟨[.bool true], [], f25_fresh⟩
  else
    bif ltI 1050 (x0_1.length : Int) then
    some ⟨[.bool true], [], f25_fresh⟩
  else
    some ⟨[.bool (ltI 300 x3_1)], [], f25_fresh⟩
  else
    bif ltI 1050 (x0_1.length : Int) then
    some ⟨[.bool true], [], f25_fresh⟩
  else
    some ⟨[.bool (ltI 300 x3_1)], [], f25_fresh⟩
  else
    bif ltI 40 (x0_1.length : Int) then
    bif leI (x0_1.length : Int) 1024 then
    some ⟨[.bool true], [], f25_fresh⟩
  else
    bif ltI 1050 (x0_1.length : Int) then
    some ⟨[.bool true], [], f25_fresh⟩
  else
    some ⟨[.bool (ltI 300 x3_1)], [], f25_fresh⟩
  else
    bif ltI 1050 (x0_1.length : Int) then
    some ⟨[.bool true], [], f25_fresh⟩
  else
    some ⟨[.bool (ltI 300 x3_1)], [], f25_fresh⟩ := by kernel_rfl
noncomputable def f25 (run : Run) (n : Nat) (a0_1 : List AV) : Option Res := evalK G run n f25_info.keep 0 f25_info.body (retE G f25_info) (f25_info.start [.slice a0_1])
theorem f25_eq (run : Run) (n : Nat) (a0_1 : List AV) : f25 run n a0_1 =
  f25_l0 run n n a0_1 0 0 := by kernel_rfl
theorem f25_run (ext : Run) (n : Nat) (a0_1 : List AV) : runE G ext (n + 1) 25 [.slice a0_1] = f25 (runE G ext n) n a0_1 := runE_succ f25_at f25_in

noncomputable def f29_l0 (run : Run) (n : Nat) (k0 : Nat) (x0_1 : List AV) (x3_1 : List AV) (x4_1 : Int) : Option Res :=
  iterK (evalK G run n f29_keep 0 (sub [1, 1, 0, 1, 0, 0] f29_body)) f29_t0 f29_o0 (blockK 0 (seqK (evalK G run n f29_keep 0 (sub [1, 1, 1] f29_body) (retE G f29_info)) (retE G f29_info))) k0
    ⟨[.val (.slice (.struct [(.struct [(.int .u32), (.blob 32), (.blob 32), (.int .u64)]), (.struct [(.int .i64), (.int .i64), (.slice (.blob 32))])])) none (.slice x0_1), .any, .any, .val (.slice (.blob 32)) (some (3, 0)) (.slice x3_1), .val (.int .i64) none (.int x4_1), .any, .any, .any, .any, .any, .any, .any, .any, .any, .any, .any, .any, .any, .any, .any, .any], [⟨0, none⟩, ⟨0, none⟩, ⟨0, none⟩, ⟨0, none⟩, ⟨0, none⟩, ⟨0, none⟩, ⟨0, none⟩, ⟨0, none⟩, ⟨0, none⟩, ⟨0, none⟩, ⟨0, none⟩, ⟨0, none⟩, ⟨0, none⟩, ⟨0, none⟩, ⟨0, none⟩, ⟨0, none⟩, ⟨0, none⟩, ⟨0, none⟩, ⟨0, none⟩, ⟨0, none⟩, ⟨0, none⟩], List.replicate 21 0⟩
theorem f29_l0_eq (run : Run) (n : Nat) (k0 : Nat) (x0_1 : List AV) (x3_1 : List AV) (x4_1 : Int) : f29_l0 run n (k0 + 1) x0_1 x3_1 x4_1 =
  bif ltI x4_1 (x0_1.length : Int) then
    bif inR x4_1 x0_1.length then
    (run 67 [.agg [.int ((((nth x0_1 (Int.toNat x4_1)).fld 0).fld 0).toInt), .blob ((((nth x0_1 (Int.toNat x4_1)).fld 0).fld 1).toBlob), .blob ((((nth x0_1 (Int.toNat x4_1)).fld 0).fld 2).toBlob), .int ((((nth x0_1 (Int.toNat x4_1)).fld 0).fld 3).toInt)]]).bind fun r1 =>
    nilV r1.outs (consV r1.vals fun v1 vs1 =>
    nilV vs1 (bif Nat.ble ((x3_1.length + 1) * 32) 140737488355328 then
    f29_l0 run n k0 x0_1 (x3_1 ++ [.blob v1.toBlob]) (IntKind.wrap .i64 (x4_1 + 1))
  else none))
  else none
  else
    some ⟨[.slice x3_1], [], f29_fresh⟩ := by kernel_rfl
noncomputable def f29 (run : Run) (n : Nat) (a0_1 : List AV) : Option Res := evalK G run n f29_info.keep 0 f29_info.body (retE G f29_info) (f29_info.start [.slice a0_1])
theorem f29_eq (run : Run) (n : Nat) (a0_1 : List AV) : f29 run n a0_1 =
  f29_l0 run n n a0_1 [] 0 := by kernel_rfl
theorem f29_run (ext : Run) (n : Nat) (a0_1 : List AV) : runE G ext (n + 1) 29 [.slice a0_1] = f29 (runE G ext n) n a0_1 := runE_succ f29_at f29_in

noncomputable def f27_l0 (run : Run) (n : Nat) (k0 : Nat) (x0_1 : List AV) (x1_1 : List AV) (x5_1 : Int) : Option Res :=
  iterK (evalK G run n f27_keep 0 (sub [1, 1, 0, 1, 0, 0] f27_body)) f27_t0 f27_o0 (blockK 0 (seqK (evalK G run n f27_keep 0 (sub [1, 1, 1] f27_body) (retE G f27_info)) (retE G f27_info))) k0
    ⟨[.val (.slice (.blob 32)) none (.slice x0_1), .val (.slice (.blob 32)) none (.slice x1_1), .any, .any, .any, .val (.int .i64) none (.int x5_1), .any, .any, .any, .any, .any, .any, .any, .any, .any, .any, .any, .any, .any, .any, .any, .any, .any, .any, .any, .any], [⟨0, none⟩, ⟨0, none⟩, ⟨0, none⟩, ⟨0, none⟩, ⟨0, none⟩, ⟨0, none⟩, ⟨0, none⟩, ⟨0, none⟩, ⟨0, none⟩, ⟨0, none⟩, ⟨0, none⟩, ⟨0, none⟩, ⟨0, none⟩, ⟨0, none⟩, ⟨0, none⟩, ⟨0, none⟩, ⟨0, none⟩, ⟨0, none⟩, ⟨0, none⟩, ⟨0, none⟩, ⟨0, none⟩, ⟨0, none⟩, ⟨0, none⟩, ⟨0, none⟩, ⟨0, none⟩, ⟨0, none⟩], List.replicate 26 0⟩
theorem f27_l0_eq (run : Run) (n : Nat) (k0 : Nat) (x0_1 : List AV) (x1_1 : List AV) (x5_1 : Int) : f27_l0 run n (k0 + 1) x0_1 x1_1 x5_1 =
  bif ltI x5_1 (x0_1.length : Int) then
    bif inR x5_1 x0_1.length then
    bif inR x5_1 x1_1.length then
    bif !(eqS ((nth x0_1 (Int.toNat x5_1)).toBlob) ((nth x1_1 (Int.toNat x5_1)).toBlob)) then
    some ⟨[.bool false], [], f27_fresh⟩
  else
    f27_l0 run n k0 x0_1 x1_1 (IntKind.wrap .i64 (x5_1 + 1))
  else none
  else none
  else
    some ⟨[.bool true], [], f27_fresh⟩ := by kernel_rfl
noncomputable def f27 (run : Run) (n : Nat) (a0_1 : List AV) (a1_1 : List AV) : Option Res := evalK G run n f27_info.keep 0 f27_info.body (retE G f27_info) (f27_info.start [.slice a0_1, .slice a1_1])
theorem f27_eq (run : Run) (n : Nat) (a0_1 : List AV) (a1_1 : List AV) : f27 run n a0_1 a1_1 =
  bif !(eqI (a0_1.length : Int) (a1_1.length : Int)) then
    some ⟨[.bool false], [], f27_fresh⟩
  else
    f27_l0 run n n a0_1 a1_1 0 := by kernel_rfl
theorem f27_run (ext : Run) (n : Nat) (a0_1 : List AV) (a1_1 : List AV) : runE G ext (n + 1) 27 [.slice a0_1, .slice a1_1] = f27 (runE G ext n) n a0_1 a1_1 := runE_succ f27_at f27_in

noncomputable def f6_l0 (run : Run) (n : Nat) (k0 : Nat) (x0_1 : List AV) (x3_1 : Int) (x4_1 : Int) : Option Res :=
  iterK (evalK G run n f6_keep 0 (sub [1, 1, 1, 0, 1, 0, 0] f6_body)) f6_t0 f6_o0 (blockK 0 (seqK (evalK G run n f6_keep 0 (sub [1, 1, 1, 1] f6_body) (retE G f6_info)) (retE G f6_info))) k0
    ⟨[.val (.slice (.struct [(.struct [(.int .u32), (.blob 32), (.blob 32), (.int .u64)]), (.struct [(.int .i64), (.int .i64), (.slice (.blob 32))])])) none (.slice x0_1), .any, .any, .val (.int .i64) none (.int x3_1), .val (.int .i64) none (.int x4_1), .any, .any, .any, .any, .any, .any, .any, .any, .any, .any, .any, .any, .any, .any, .any, .any, .any, .any, .any, .any, .any, .any, .any, .any, .any, .any, .any, .any, .any, .any, .any, .any, .any, .any, .any, .any, .any], [⟨0, none⟩, ⟨0, none⟩, ⟨0, none⟩, ⟨0, none⟩, ⟨0, none⟩, ⟨0, none⟩, ⟨0, none⟩, ⟨0, none⟩, ⟨0, none⟩, ⟨0, none⟩, ⟨0, none⟩, ⟨0, none⟩, ⟨0, none⟩, ⟨0, none⟩, ⟨0, none⟩, ⟨0, none⟩, ⟨0, none⟩, ⟨0, none⟩, ⟨0, none⟩, ⟨0, none⟩, ⟨0, none⟩, ⟨0, none⟩, ⟨0, none⟩, ⟨0, none⟩, ⟨0, none⟩, ⟨0, none⟩, ⟨0, none⟩, ⟨0, none⟩, ⟨0, none⟩, ⟨0, none⟩, ⟨0, none⟩, ⟨0, none⟩, ⟨0, none⟩, ⟨0, none⟩, ⟨0, none⟩, ⟨0, none⟩, ⟨0, none⟩, ⟨0, none⟩, ⟨0, none⟩, ⟨0, none⟩, ⟨0, none⟩, ⟨0, none⟩], List.replicate 42 0⟩
theorem f6_l0_eq (run : Run) (n : Nat) (k0 : Nat) (x0_1 : List AV) (x3_1 : Int) (x4_1 : Int) : f6_l0 run n (k0 + 1) x0_1 x3_1 x4_1 =
  bif ltI 0 x4_1 then
    bif inR x4_1 x0_1.length then
    bif inR (IntKind.wrap .i64 (x4_1 - 1)) x0_1.length then
    (run 23 [.agg [.agg [.int ((((nth x0_1 (Int.toNat x4_1)).fld 0).fld 0).toInt), .blob ((((nth x0_1 (Int.toNat x4_1)).fld 0).fld 1).toBlob), .blob ((((nth x0_1 (Int.toNat x4_1)).fld 0).fld 2).toBlob), .int ((((nth x0_1 (Int.toNat x4_1)).fld 0).fld 3).toInt)], .agg [.int ((((nth x0_1 (Int.toNat x4_1)).fld 1).fld 0).toInt), .int ((((nth x0_1 (Int.toNat x4_1)).fld 1).fld 1).toInt), .slice ((((nth x0_1 (Int.toNat x4_1)).fld 1).fld 2).toSlice)]], .agg [.int ((((nth x0_1 (Int.toNat (IntKind.wrap .i64 (x4_1 - 1)))).fld 0).fld 0).toInt), .blob ((((nth x0_1 (Int.toNat (IntKind.wrap .i64 (x4_1 - 1)))).fld 0).fld 1).toBlob), .blob ((((nth x0_1 (Int.toNat (IntKind.wrap .i64 (x4_1 - 1)))).fld 0).fld 2).toBlob), .int ((((nth x0_1 (Int.toNat (IntKind.wrap .i64 (x4_1 - 1)))).fld 0).fld 3).toInt)]]).bind fun r3 =>
    nilV r3.outs (consV r3.vals fun v3 vs3 =>
    nilV vs3 (bif !v3.toBool then
    f6_l0 run n k0 x0_1 x4_1 (IntKind.wrap .i64 (x4_1 - 1))
  else
    f6_l0 run n k0 x0_1 x3_1 (IntKind.wrap .i64 (x4_1 - 1))))
  else none
  else none
  else
    (run 26 [.slice x0_1]).bind fun r4 =>
    nilV r4.outs (consV r4.vals fun v4 vs4 =>
    nilV vs4 (bif eqI v4.toInt x3_1 then
    (run 28 [.slice x0_1]).bind fun r5 =>
    bif r5.fresh then
    nilV r5.outs (consV r5.vals fun v5 vs5 =>
    nilV vs5 ((run 29 [.slice x0_1]).bind fun r6 =>
    bif r6.fresh then
    nilV r6.outs (consV r6.vals fun v6 vs6 =>
    nilV vs6 ((run 27 [.slice v5.toSlice, .slice v6.toSlice]).bind fun r7 =>
    nilV r7.outs (consV r7.vals fun v7 vs7 =>
    nilV vs7 (bif v7.toBool then
    (run 24 []).bind fun r8 =>
    nilV r8.outs (consV r8.vals fun v8 vs8 =>
    nilV vs8 (some ⟨[.bool v8.toBool], [], f6_fresh⟩))
  else
    some ⟨[.bool false], [], f6_fresh⟩))))
  else none))
  else none
  else
    some ⟨[.bool false], [], f6_fresh⟩)) := by kernel_rfl
noncomputable def f6 (run : Run) (n : Nat) (a0_1 : List AV) : Option Res := evalK G run n f6_info.keep 0 f6_info.body (retE G f6_info) (f6_info.start [.slice a0_1])
theorem f6_eq (run : Run) (n : Nat) (a0_1 : List AV) : f6 run n a0_1 =
  (run 25 [.slice a0_1]).bind fun r1 =>
    nilV r1.outs (consV r1.vals fun v1 vs1 =>
    nilV vs1 (bif v1.toBool then
    (run 24 []).bind fun r2 =>
    nilV r2.outs (consV r2.vals fun v2 vs2 =>
    nilV vs2 (some ⟨[.bool v2.toBool], [], f6_fresh⟩))
  else
    f6_l0 run n n a0_1 (-1) (IntKind.wrap .i64 ((a0_1.length : Int) - 1)))) := by kernel_rfl
theorem f6_run (ext : Run) (n : Nat) (a0_1 : List AV) : runE G ext (n + 1) 6 [.slice a0_1] = f6 (runE G ext n) n a0_1 := runE_succ f6_at f6_in

noncomputable def f30 (run : Run) (n : Nat) : Option Res := evalK G run n f30_info.keep 0 f30_info.body (retE G f30_info) (f30_info.start [])
theorem f30_eq (run : Run) (n : Nat) : f30 run n  =
  (run 21 [.slice [.str [97]]]).bind fun r1 =>
    nilV r1.outs (consV r1.vals fun v1 vs1 =>
    nilV vs1 ((run 34 [.blob v1.toBlob, .str [97], .agg [.int 0, .int 1, .slice []]]).bind fun r2 =>
    nilV r2.outs (consV r2.vals fun v2 vs2 =>
    nilV vs2 (bif v2.toBool then
    (run 34 [.blob [0, 0, 0, 0, 0, 0, 0, 0, 0, 0, 0, 0, 0, 0, 0, 0, 0, 0, 0, 0, 0, 0, 0, 0, 0, 0, 0, 0, 0, 0, 0, 0], .str [97], .agg [.int 0, .int 1, .slice []]]).bind fun r3 =>
    nilV r3.outs (consV r3.vals fun v3 vs3 =>
    nilV vs3 (some ⟨[.bool (!v3.toBool)], [], f30_fresh⟩))
  else
    some ⟨[.bool false], [], f30_fresh⟩)))) := by kernel_rfl
theorem f30_run (ext : Run) (n : Nat) : runE G ext (n + 1) 30 [] = f30 (runE G ext n) n  := runE_succ f30_at f30_in

end Go.Proofs.Ytbpllpdmkhojoaa.Ev
