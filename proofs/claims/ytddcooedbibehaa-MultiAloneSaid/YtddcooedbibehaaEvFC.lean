/- What the evaluator does with the functions, as programs over plain values: printed by gen.py, checked by the kernel. -/
import Derived.Test.YtddcooedbibehaaEvFA
namespace Go.Proofs.Ytddcooedbibehaa.Ev
open Go Go.RowKit
set_option maxRecDepth 100000


noncomputable def f103_l0 (run : Run) (n : Nat) (k0 : Nat) (x29_1 : Int) (x30_1 : Int) (o2_1 : Int) (o2_2 : Int) (o2_3 : List AV) (o3_1 : Int) (o3_2 : Int) (o3_3 : List AV) : Option Res :=
  iterK (evalK G run n f103_keep 0 (sub [1, 1, 0, 1, 0, 0] f103_body)) f103_t0 f103_o0 (blockK 0 (seqK (evalK G run n f103_keep 0 (sub [1, 1, 1] f103_body) (retE G f103_info)) (retE G f103_info))) k0
    ⟨[.any, .any, .ptr ⟨(.struct [(.int .i64), (.int .i64), (.slice (.blob 32))]), 2, 1, []⟩, .ptr ⟨(.struct [(.int .i64), (.int .i64), (.slice (.blob 32))]), 3, 1, []⟩, .any, .any, .any, .any, .any, .any, .any, .any, .any, .any, .any, .any, .any, .any, .any, .any, .any, .any, .any, .any, .any, .any, .any, .any, .any, .val (.int .i64) none (.int x29_1), .val (.int .i64) none (.int x30_1), .any, .any, .any, .any, .any, .any, .any, .any, .any, .any, .any, .any, .any, .any], [⟨0, none⟩, ⟨0, none⟩, ⟨1, some ⟨(.struct [(.int .i64), (.int .i64), (.slice (.blob 32))]), .agg [.int o2_1, .int o2_2, .slice o2_3]⟩⟩, ⟨1, some ⟨(.struct [(.int .i64), (.int .i64), (.slice (.blob 32))]), .agg [.int o3_1, .int o3_2, .slice o3_3]⟩⟩, ⟨0, none⟩, ⟨0, none⟩, ⟨0, none⟩, ⟨0, none⟩, ⟨0, none⟩, ⟨0, none⟩, ⟨0, none⟩, ⟨0, none⟩, ⟨0, none⟩, ⟨0, none⟩, ⟨0, none⟩, ⟨0, none⟩, ⟨0, none⟩, ⟨0, none⟩, ⟨0, none⟩, ⟨0, none⟩, ⟨0, none⟩, ⟨0, none⟩, ⟨0, none⟩, ⟨0, none⟩, ⟨0, none⟩, ⟨0, none⟩, ⟨0, none⟩, ⟨0, none⟩, ⟨0, none⟩, ⟨0, none⟩, ⟨0, none⟩, ⟨0, none⟩, ⟨0, none⟩, ⟨0, none⟩, ⟨0, none⟩, ⟨0, none⟩, ⟨0, none⟩, ⟨0, none⟩, ⟨0, none⟩, ⟨0, none⟩, ⟨0, none⟩, ⟨0, none⟩, ⟨0, none⟩, ⟨0, none⟩, ⟨0, none⟩], List.replicate 45 0⟩
theorem f103_l0_eq (run : Run) (n : Nat) (k0 : Nat) (x29_1 : Int) (x30_1 : Int) (o2_1 : Int) (o2_2 : Int) (o2_3 : List AV) (o3_1 : Int) (o3_2 : Int) (o3_3 : List AV) : f103_l0 run n (k0 + 1) x29_1 x30_1 o2_1 o2_2 o2_3 o3_1 o3_2 o3_3 =
  bif ltI x30_1 x29_1 then
    bif inR x30_1 o2_3.length then
    bif inR x30_1 o3_3.length then
    bif !(eqS ((nth o2_3 (Int.toNat x30_1)).toBlob) ((nth o3_3 (Int.toNat x30_1)).toBlob)) then
    some ⟨[.bool false], [], f103_fresh⟩
  else
    f103_l0 run n k0 x29_1 (IntKind.wrap .i64 (x30_1 + 1)) o2_1 o2_2 o2_3 o3_1 o3_2 o3_3
  else none
  else none
  else
    some ⟨[.bool true], [], f103_fresh⟩ := by kernel_rfl
noncomputable def f103 (run : Run) (n : Nat) (a0_1 : Int) (a0_2 : Int) (a0_3 : List AV) (a1_1 : Int) (a1_2 : Int) (a1_3 : List AV) : Option Res := evalK G run n f103_info.keep 0 f103_info.body (retE G f103_info) (f103_info.start [.agg [.int a0_1, .int a0_2, .slice a0_3], .agg [.int a1_1, .int a1_2, .slice a1_3]])
theorem f103_eq (run : Run) (n : Nat) (a0_1 : Int) (a0_2 : Int) (a0_3 : List AV) (a1_1 : Int) (a1_2 : Int) (a1_3 : List AV) : f103 run n a0_1 a0_2 a0_3 a1_1 a1_2 a1_3 =
  bif !(eqI a0_1 a1_1) then
    some ⟨[.bool false], [], f103_fresh⟩
  else
    bif !(eqI a0_2 a1_2) then
    some ⟨[.bool false], [], f103_fresh⟩
  else
    bif !(eqI (a0_3.length : Int) (a1_3.length : Int)) then
    some ⟨[.bool false], [], f103_fresh⟩
  else
    f103_l0 run n n (a0_3.length : Int) 0 a0_1 a0_2 a0_3 a1_1 a1_2 a1_3 := by kernel_rfl
theorem f103_run (ext : Run) (n : Nat) (a0_1 : Int) (a0_2 : Int) (a0_3 : List AV) (a1_1 : Int) (a1_2 : Int) (a1_3 : List AV) : runE G ext (n + 1) 103 [.agg [.int a0_1, .int a0_2, .slice a0_3], .agg [.int a1_1, .int a1_2, .slice a1_3]] = f103 (runE G ext n) n a0_1 a0_2 a0_3 a1_1 a1_2 a1_3 := runE_succ f103_at f103_in

noncomputable def f71 (run : Run) (n : Nat) (a0_1 : Int) (a0_2 : Int) (a0_3 : List AV) : Option Res := evalK G run n f71_info.keep 0 f71_info.body (retE G f71_info) (f71_info.start [.agg [.int a0_1, .int a0_2, .slice a0_3]])
theorem f71_eq (run : Run) (n : Nat) (a0_1 : Int) (a0_2 : Int) (a0_3 : List AV) : f71 run n a0_1 a0_2 a0_3 =
  (run 103 [.agg [.int a0_1, .int a0_2, .slice a0_3], .agg [.int 0, .int 0, .slice []]]).bind fun r1 =>
    nilV r1.outs (consV r1.vals fun v1 vs1 =>
    nilV vs1 (some ⟨[.bool v1.toBool], [], f71_fresh⟩)) := by kernel_rfl
theorem f71_run (ext : Run) (n : Nat) (a0_1 : Int) (a0_2 : Int) (a0_3 : List AV) : runE G ext (n + 1) 71 [.agg [.int a0_1, .int a0_2, .slice a0_3]] = f71 (runE G ext n) n a0_1 a0_2 a0_3 := runE_succ f71_at f71_in

noncomputable def f41 (run : Run) (n : Nat) (a0_1 : Int) (a0_2 : List UInt8) (a0_3 : List UInt8) (a0_4 : Int) (a1_1 : List AV) : Option Res := evalK G run n f41_info.keep 0 f41_info.body (retE G f41_info) (f41_info.start [.agg [.int a0_1, .blob a0_2, .blob a0_3, .int a0_4], .slice a1_1])
theorem f41_eq (run : Run) (n : Nat) (a0_1 : Int) (a0_2 : List UInt8) (a0_3 : List UInt8) (a0_4 : Int) (a1_1 : List AV) : f41 run n a0_1 a0_2 a0_3 a0_4 a1_1 =
  bif eqI (a1_1.length : Int) 0 then
    some ⟨[.int 6], [], f41_fresh⟩
  else
    bif inR 0 a1_1.length then
    bif !(eqI ((((nth a1_1 0).fld 0).fld 0).toInt) a0_1 && (eqS ((((nth a1_1 0).fld 0).fld 1).toBlob) a0_2 && (eqS ((((nth a1_1 0).fld 0).fld 2).toBlob) a0_3 && (eqI ((((nth a1_1 0).fld 0).fld 3).toInt) a0_4 && true)))) then
    some ⟨[.int 7], [], f41_fresh⟩
  else
    bif inR 0 a1_1.length then
    (run 71 [.agg [.int ((((nth a1_1 0).fld 1).fld 0).toInt), .int ((((nth a1_1 0).fld 1).fld 1).toInt), .slice ((((nth a1_1 0).fld 1).fld 2).toSlice)]]).bind fun r1 =>
    nilV r1.outs (consV r1.vals fun v1 vs1 =>
    nilV vs1 (bif !v1.toBool then
    some ⟨[.int 2], [], f41_fresh⟩
  else
    some ⟨[.int 0], [], f41_fresh⟩))
  else none
  else none := by kernel_rfl
theorem f41_run (ext : Run) (n : Nat) (a0_1 : Int) (a0_2 : List UInt8) (a0_3 : List UInt8) (a0_4 : Int) (a1_1 : List AV) : runE G ext (n + 1) 41 [.agg [.int a0_1, .blob a0_2, .blob a0_3, .int a0_4], .slice a1_1] = f41 (runE G ext n) n a0_1 a0_2 a0_3 a0_4 a1_1 := runE_succ f41_at f41_in

noncomputable def f42 (run : Run) (n : Nat) (a0_1 : Int) (a0_2 : List UInt8) (a0_3 : List UInt8) (a0_4 : Int) (a0_5 : List UInt8) (a0_6 : Int) (a0_7 : Int) (a0_8 : Int) (a0_9 : Int) (a0_10 : Int) (a0_11 : Int) (a1_1 : List AV) : Option Res := evalK G run n f42_info.keep 0 f42_info.body (retE G f42_info) (f42_info.start [.agg [.agg [.int a0_1, .blob a0_2, .blob a0_3, .int a0_4], .blob a0_5, .int a0_6, .int a0_7, .int a0_8, .int a0_9, .int a0_10, .int a0_11], .slice a1_1])
theorem f42_eq (run : Run) (n : Nat) (a0_1 : Int) (a0_2 : List UInt8) (a0_3 : List UInt8) (a0_4 : Int) (a0_5 : List UInt8) (a0_6 : Int) (a0_7 : Int) (a0_8 : Int) (a0_9 : Int) (a0_10 : Int) (a0_11 : Int) (a1_1 : List AV) : f42 run n a0_1 a0_2 a0_3 a0_4 a0_5 a0_6 a0_7 a0_8 a0_9 a0_10 a0_11 a1_1 =
  some ⟨[.slice [.agg [.clo 72 [.slice a1_1], .int 8], .agg [.clo 73 [.slice a1_1, .agg [.agg [.int a0_1, .blob a0_2, .blob a0_3, .int a0_4], .blob a0_5, .int a0_6, .int a0_7, .int a0_8, .int a0_9, .int a0_10, .int a0_11]], .int 9], .agg [.clo 74 [.slice a1_1], .int 10]]], [], f42_fresh⟩ := by kernel_rfl
theorem f42_run (ext : Run) (n : Nat) (a0_1 : Int) (a0_2 : List UInt8) (a0_3 : List UInt8) (a0_4 : Int) (a0_5 : List UInt8) (a0_6 : Int) (a0_7 : Int) (a0_8 : Int) (a0_9 : Int) (a0_10 : Int) (a0_11 : Int) (a1_1 : List AV) : runE G ext (n + 1) 42 [.agg [.agg [.int a0_1, .blob a0_2, .blob a0_3, .int a0_4], .blob a0_5, .int a0_6, .int a0_7, .int a0_8, .int a0_9, .int a0_10, .int a0_11], .slice a1_1] = f42 (runE G ext n) n a0_1 a0_2 a0_3 a0_4 a0_5 a0_6 a0_7 a0_8 a0_9 a0_10 a0_11 a1_1 := runE_succ f42_at f42_in

noncomputable def f47 (run : Run) (n : Nat) (a0_1 : Int) (a0_2 : List UInt8) (a0_3 : List UInt8) (a0_4 : Int) : Option Res := evalK G run n f47_info.keep 0 f47_info.body (retE G f47_info) (f47_info.start [.agg [.int a0_1, .blob a0_2, .blob a0_3, .int a0_4]])
theorem f47_eq (run : Run) (n : Nat) (a0_1 : Int) (a0_2 : List UInt8) (a0_3 : List UInt8) (a0_4 : Int) : f47 run n a0_1 a0_2 a0_3 a0_4 =
  (run 78 [.int a0_1]).bind fun r1 =>
    nilV r1.outs (consV r1.vals fun v1 vs1 =>
    nilV vs1 (bif Nat.ble (v1.toStr.length + (bytesOf (List.drop 0 (List.take 32 (ofBytes a0_2)))).length) maxLen then
    bif Nat.ble ((v1.toStr ++ (bytesOf (List.drop 0 (List.take 32 (ofBytes a0_2))))).length + (bytesOf (List.drop 0 (List.take 32 (ofBytes a0_3)))).length) maxLen then
    (run 79 [.int a0_4]).bind fun r2 =>
    nilV r2.outs (consV r2.vals fun v2 vs2 =>
    nilV vs2 (bif Nat.ble (((v1.toStr ++ (bytesOf (List.drop 0 (List.take 32 (ofBytes a0_2))))) ++ (bytesOf (List.drop 0 (List.take 32 (ofBytes a0_3))))).length + v2.toStr.length) maxLen then
    some ⟨[.str (((v1.toStr ++ (bytesOf (List.drop 0 (List.take 32 (ofBytes a0_2))))) ++ (bytesOf (List.drop 0 (List.take 32 (ofBytes a0_3))))) ++ v2.toStr)], [], f47_fresh⟩
  else none))
  else none
  else none)) := by kernel_rfl
theorem f47_run (ext : Run) (n : Nat) (a0_1 : Int) (a0_2 : List UInt8) (a0_3 : List UInt8) (a0_4 : Int) : runE G ext (n + 1) 47 [.agg [.int a0_1, .blob a0_2, .blob a0_3, .int a0_4]] = f47 (runE G ext n) n a0_1 a0_2 a0_3 a0_4 := runE_succ f47_at f47_in

noncomputable def f77 (run : Run) (n : Nat) (a0_1 : List UInt8) : Option Res := evalK G run n f77_info.keep 0 f77_info.body (retE G f77_info) (f77_info.start [.str a0_1])
theorem f77_eq (run : Run) (n : Nat) (a0_1 : List UInt8) : f77 run n a0_1 =
  (run 98 [.int 3, .slice [.str a0_1]]).bind fun r1 =>
    nilV r1.outs (consV r1.vals fun v1 vs1 =>
    nilV vs1 (some ⟨[.str v1.toStr], [], f77_fresh⟩)) := by kernel_rfl
theorem f77_run (ext : Run) (n : Nat) (a0_1 : List UInt8) : runE G ext (n + 1) 77 [.str a0_1] = f77 (runE G ext n) n a0_1 := runE_succ f77_at f77_in

noncomputable def f46 (run : Run) (n : Nat) (a0_1 : List UInt8) : Option Res := evalK G run n f46_info.keep 0 f46_info.body (retE G f46_info) (f46_info.start [.str a0_1])
theorem f46_eq (run : Run) (n : Nat) (a0_1 : List UInt8) : f46 run n a0_1 =
  (run 77 [.str a0_1]).bind fun r1 =>
    nilV r1.outs (consV r1.vals fun v1 vs1 =>
    nilV vs1 ((run 65 [.str v1.toStr]).bind fun r2 =>
    nilV r2.outs (consV r2.vals fun v2 vs2 =>
    nilV vs2 (some ⟨[.blob v2.toBlob], [], f46_fresh⟩)))) := by kernel_rfl
theorem f46_run (ext : Run) (n : Nat) (a0_1 : List UInt8) : runE G ext (n + 1) 46 [.str a0_1] = f46 (runE G ext n) n a0_1 := runE_succ f46_at f46_in

noncomputable def f19 (run : Run) (n : Nat) (a0_1 : Int) (a0_2 : List UInt8) (a0_3 : List UInt8) (a0_4 : Int) : Option Res := evalK G run n f19_info.keep 0 f19_info.body (retE G f19_info) (f19_info.start [.agg [.int a0_1, .blob a0_2, .blob a0_3, .int a0_4]])
theorem f19_eq (run : Run) (n : Nat) (a0_1 : Int) (a0_2 : List UInt8) (a0_3 : List UInt8) (a0_4 : Int) : f19 run n a0_1 a0_2 a0_3 a0_4 =
  (run 47 [.agg [.int a0_1, .blob a0_2, .blob a0_3, .int a0_4]]).bind fun r1 =>
    nilV r1.outs (consV r1.vals fun v1 vs1 =>
    nilV vs1 ((run 46 [.str v1.toStr]).bind fun r2 =>
    nilV r2.outs (consV r2.vals fun v2 vs2 =>
    nilV vs2 (some ⟨[.blob v2.toBlob], [], f19_fresh⟩)))) := by kernel_rfl
theorem f19_run (ext : Run) (n : Nat) (a0_1 : Int) (a0_2 : List UInt8) (a0_3 : List UInt8) (a0_4 : Int) : runE G ext (n + 1) 19 [.agg [.int a0_1, .blob a0_2, .blob a0_3, .int a0_4]] = f19 (runE G ext n) n a0_1 a0_2 a0_3 a0_4 := runE_succ f19_at f19_in

noncomputable def f81 (run : Run) (n : Nat) (a0_1 : List UInt8) : Option Res := evalK G run n f81_info.keep 0 f81_info.body (retE G f81_info) (f81_info.start [.blob a0_1])
theorem f81_eq (run : Run) (n : Nat) (a0_1 : List UInt8) : f81 run n a0_1 =
  bif Nat.ble (1 + (bytesOf (List.drop 0 (List.take 32 (ofBytes a0_1)))).length) maxLen then
    some ⟨[.str ([76] ++ (bytesOf (List.drop 0 (List.take 32 (ofBytes a0_1)))))], [], f81_fresh⟩
  else none := by kernel_rfl
theorem f81_run (ext : Run) (n : Nat) (a0_1 : List UInt8) : runE G ext (n + 1) 81 [.blob a0_1] = f81 (runE G ext n) n a0_1 := runE_succ f81_at f81_in

noncomputable def f80 (run : Run) (n : Nat) (a0_1 : List UInt8) (a1_1 : List UInt8) (a2_1 : Int) (a2_2 : Int) (a2_3 : List AV) : Option Res := evalK G run n f80_info.keep 0 f80_info.body (retE G f80_info) (f80_info.start [.blob a0_1, .str a1_1, .agg [.int a2_1, .int a2_2, .slice a2_3]])
theorem f80_eq (run : Run) (n : Nat) (a0_1 : List UInt8) (a1_1 : List UInt8) (a2_1 : Int) (a2_2 : Int) (a2_3 : List AV) : f80 run n a0_1 a1_1 a2_1 a2_2 a2_3 =
  (run 14 [.str a1_1, .agg [.int a2_1, .int a2_2, .slice a2_3]]).bind fun r1 =>
    nilV r1.outs (consV r1.vals fun v1 vs1 =>
    consV vs1 fun v2 vs2 =>
    nilV vs2 (bif eqI v2.toInt 0 then
    some ⟨[.bool (eqS v1.toBlob a0_1)], [], f80_fresh⟩
  else
    some ⟨[.bool false], [], f80_fresh⟩)) := by kernel_rfl
theorem f80_run (ext : Run) (n : Nat) (a0_1 : List UInt8) (a1_1 : List UInt8) (a2_1 : Int) (a2_2 : Int) (a2_3 : List AV) : runE G ext (n + 1) 80 [.blob a0_1, .str a1_1, .agg [.int a2_1, .int a2_2, .slice a2_3]] = f80 (runE G ext n) n a0_1 a1_1 a2_1 a2_2 a2_3 := runE_succ f80_at f80_in

noncomputable def f48 (run : Run) (n : Nat) (a0_1 : List UInt8) (a1_1 : List UInt8) (a2_1 : Int) (a2_2 : Int) (a2_3 : List AV) : Option Res := evalK G run n f48_info.keep 0 f48_info.body (retE G f48_info) (f48_info.start [.blob a0_1, .blob a1_1, .agg [.int a2_1, .int a2_2, .slice a2_3]])
theorem f48_eq (run : Run) (n : Nat) (a0_1 : List UInt8) (a1_1 : List UInt8) (a2_1 : Int) (a2_2 : Int) (a2_3 : List AV) : f48 run n a0_1 a1_1 a2_1 a2_2 a2_3 =
  bif leI a2_2 257 then
    (run 81 [.blob a1_1]).bind fun r1 =>
    nilV r1.outs (consV r1.vals fun v1 vs1 =>
    nilV vs1 ((run 80 [.blob a0_1, .str v1.toStr, .agg [.int a2_1, .int a2_2, .slice a2_3]]).bind fun r2 =>
    nilV r2.outs (consV r2.vals fun v2 vs2 =>
    nilV vs2 (some ⟨[.bool v2.toBool], [], f48_fresh⟩))))
  else
    some ⟨[.bool false], [], f48_fresh⟩ := by kernel_rfl
theorem f48_run (ext : Run) (n : Nat) (a0_1 : List UInt8) (a1_1 : List UInt8) (a2_1 : Int) (a2_2 : Int) (a2_3 : List AV) : runE G ext (n + 1) 48 [.blob a0_1, .blob a1_1, .agg [.int a2_1, .int a2_2, .slice a2_3]] = f48 (runE G ext n) n a0_1 a1_1 a2_1 a2_2 a2_3 := runE_succ f48_at f48_in

noncomputable def f21 (run : Run) (n : Nat) (a0_1 : Int) (a0_2 : List UInt8) (a0_3 : List UInt8) (a0_4 : Int) (a0_5 : Int) (a0_6 : Int) (a0_7 : List AV) (a1_1 : Int) (a1_2 : List UInt8) (a1_3 : List UInt8) (a1_4 : Int) : Option Res := evalK G run n f21_info.keep 0 f21_info.body (retE G f21_info) (f21_info.start [.agg [.agg [.int a0_1, .blob a0_2, .blob a0_3, .int a0_4], .agg [.int a0_5, .int a0_6, .slice a0_7]], .agg [.int a1_1, .blob a1_2, .blob a1_3, .int a1_4]])
theorem f21_eq (run : Run) (n : Nat) (a0_1 : Int) (a0_2 : List UInt8) (a0_3 : List UInt8) (a0_4 : Int) (a0_5 : Int) (a0_6 : Int) (a0_7 : List AV) (a1_1 : Int) (a1_2 : List UInt8) (a1_3 : List UInt8) (a1_4 : Int) : f21 run n a0_1 a0_2 a0_3 a0_4 a0_5 a0_6 a0_7 a1_1 a1_2 a1_3 a1_4 =
  (run 19 [.agg [.int a1_1, .blob a1_2, .blob a1_3, .int a1_4]]).bind fun r1 =>
    nilV r1.outs (consV r1.vals fun v1 vs1 =>
    nilV vs1 ((run 48 [.blob a0_2, .blob v1.toBlob, .agg [.int a0_5, .int a0_6, .slice a0_7]]).bind fun r2 =>
    nilV r2.outs (consV r2.vals fun v2 vs2 =>
    nilV vs2 (some ⟨[.bool v2.toBool], [], f21_fresh⟩)))) := by kernel_rfl
theorem f21_run (ext : Run) (n : Nat) (a0_1 : Int) (a0_2 : List UInt8) (a0_3 : List UInt8) (a0_4 : Int) (a0_5 : Int) (a0_6 : Int) (a0_7 : List AV) (a1_1 : Int) (a1_2 : List UInt8) (a1_3 : List UInt8) (a1_4 : Int) : runE G ext (n + 1) 21 [.agg [.agg [.int a0_1, .blob a0_2, .blob a0_3, .int a0_4], .agg [.int a0_5, .int a0_6, .slice a0_7]], .agg [.int a1_1, .blob a1_2, .blob a1_3, .int a1_4]] = f21 (runE G ext n) n a0_1 a0_2 a0_3 a0_4 a0_5 a0_6 a0_7 a1_1 a1_2 a1_3 a1_4 := runE_succ f21_at f21_in

noncomputable def f74 (run : Run) (n : Nat) (a0_1 : Int) (a1_1 : List AV) : Option Res := evalK G run n f74_info.keep 0 f74_info.body (retE G f74_info) (f74_info.start [.int a0_1, .slice a1_1])
theorem f74_eq (run : Run) (n : Nat) (a0_1 : Int) (a1_1 : List AV) : f74 run n a0_1 a1_1 =
  bif eqI a0_1 0 then
    some ⟨[.bool true], [], f74_fresh⟩
  else
    bif inR a0_1 a1_1.length then
    bif inR (IntKind.wrap .i64 (a0_1 - 1)) a1_1.length then
    (run 21 [.agg [.agg [.int ((((nth a1_1 (Int.toNat a0_1)).fld 0).fld 0).toInt), .blob ((((nth a1_1 (Int.toNat a0_1)).fld 0).fld 1).toBlob), .blob ((((nth a1_1 (Int.toNat a0_1)).fld 0).fld 2).toBlob), .int ((((nth a1_1 (Int.toNat a0_1)).fld 0).fld 3).toInt)], .agg [.int ((((nth a1_1 (Int.toNat a0_1)).fld 1).fld 0).toInt), .int ((((nth a1_1 (Int.toNat a0_1)).fld 1).fld 1).toInt), .slice ((((nth a1_1 (Int.toNat a0_1)).fld 1).fld 2).toSlice)]], .agg [.int ((((nth a1_1 (Int.toNat (IntKind.wrap .i64 (a0_1 - 1)))).fld 0).fld 0).toInt), .blob ((((nth a1_1 (Int.toNat (IntKind.wrap .i64 (a0_1 - 1)))).fld 0).fld 1).toBlob), .blob ((((nth a1_1 (Int.toNat (IntKind.wrap .i64 (a0_1 - 1)))).fld 0).fld 2).toBlob), .int ((((nth a1_1 (Int.toNat (IntKind.wrap .i64 (a0_1 - 1)))).fld 0).fld 3).toInt)]]).bind fun r1 =>
    nilV r1.outs (consV r1.vals fun v1 vs1 =>
    nilV vs1 (some ⟨[.bool v1.toBool], [], f74_fresh⟩))
  else none
  else none := by kernel_rfl
theorem f74_run (ext : Run) (n : Nat) (a0_1 : Int) (a1_1 : List AV) : runE G ext (n + 1) 74 [.int a0_1, .slice a1_1] = f74 (runE G ext n) n a0_1 a1_1 := runE_succ f74_at f74_in

noncomputable def f76 (run : Run) (n : Nat) (a0_1 : List UInt8) (a1_1 : Int) : Option Res := evalK G run n f76_info.keep 0 f76_info.body (retE G f76_info) (f76_info.start [.str a0_1, .int a1_1])
theorem f76_eq (run : Run) (n : Nat) (a0_1 : List UInt8) (a1_1 : Int) : f76 run n a0_1 a1_1 =
  (run 104 [.str a0_1, .int a1_1, .int 8]).bind fun r1 =>
    nilV r1.outs (consV r1.vals fun v1 vs1 =>
    nilV vs1 (some ⟨[.int v1.toInt], [], f76_fresh⟩)) := by kernel_rfl
theorem f76_run (ext : Run) (n : Nat) (a0_1 : List UInt8) (a1_1 : Int) : runE G ext (n + 1) 76 [.str a0_1, .int a1_1] = f76 (runE G ext n) n a0_1 a1_1 := runE_succ f76_at f76_in

noncomputable def f45_l0 (run : Run) (n : Nat) (k0 : Nat) (x5_1 : Int) (o1_1 : List UInt8) (o2_1 : List AV) (o3_1 : List AV) : Option Res :=
  iterK (evalK G run n f45_keep 0 (sub [1, 1, 0, 1, 0, 0] f45_body)) f45_t0 f45_o0 (blockK 0 (seqK (evalK G run n f45_keep 0 (sub [1, 1, 1] f45_body) (retE G f45_info)) (retE G f45_info))) k0
    ⟨[.any, .ptr ⟨(.blob 32), 1, 1, []⟩, .ptr ⟨(.arr 4 (.int .u64)), 2, 1, []⟩, .ptr ⟨(.arr 4 (.int .u64)), 3, 1, []⟩, .any, .val (.int .i64) none (.int x5_1), .any, .any, .any, .any, .any, .any, .any, .any, .any, .any, .any, .any], [⟨0, none⟩, ⟨1, some ⟨(.blob 32), .blob o1_1⟩⟩, ⟨1, some ⟨(.arr 4 (.int .u64)), .agg o2_1⟩⟩, ⟨1, some ⟨(.arr 4 (.int .u64)), .agg o3_1⟩⟩, ⟨0, none⟩, ⟨0, none⟩, ⟨0, none⟩, ⟨0, none⟩, ⟨0, none⟩, ⟨0, none⟩, ⟨0, none⟩, ⟨0, none⟩, ⟨0, none⟩, ⟨0, none⟩, ⟨0, none⟩, ⟨0, none⟩, ⟨0, none⟩, ⟨0, none⟩], List.replicate 18 0⟩
theorem f45_l0_eq (run : Run) (n : Nat) (k0 : Nat) (x5_1 : Int) (o1_1 : List UInt8) (o2_1 : List AV) (o3_1 : List AV) : f45_l0 run n (k0 + 1) x5_1 o1_1 o2_1 o3_1 =
  bif ltI x5_1 4 then
    (run 76 [.str (bytesOf (List.drop 0 (List.take 32 (ofBytes o1_1)))), .int (IntKind.wrap .i64 (8 * x5_1))]).bind fun r1 =>
    nilV r1.outs (consV r1.vals fun v1 vs1 =>
    nilV vs1 (bif inR (IntKind.wrap .i64 (3 - x5_1)) 4 then
    f45_l0 run n k0 (IntKind.wrap .i64 (x5_1 + 1)) o1_1 o2_1 (o3_1.set (Int.toNat (IntKind.wrap .i64 (3 - x5_1))) (.int v1.toInt))
  else none))
  else
    some ⟨[.agg o3_1], [], f45_fresh⟩ := by kernel_rfl
noncomputable def f45 (run : Run) (n : Nat) (a0_1 : List UInt8) : Option Res := evalK G run n f45_info.keep 0 f45_info.body (retE G f45_info) (f45_info.start [.blob a0_1])
theorem f45_eq (run : Run) (n : Nat) (a0_1 : List UInt8) : f45 run n a0_1 =
  f45_l0 run n n 0 a0_1 (List.replicate 4 (.int 0)) (List.replicate 4 (.int 0)) := by kernel_rfl
theorem f45_run (ext : Run) (n : Nat) (a0_1 : List UInt8) : runE G ext (n + 1) 45 [.blob a0_1] = f45 (runE G ext n) n a0_1 := runE_succ f45_at f45_in

noncomputable def f44_l0 (run : Run) (n : Nat) (k0 : Nat) (x8_1 : Int) (o2_1 : List AV) (o3_1 : List AV) : Option Res :=
  iterK (evalK G run n f44_keep 0 (sub [1, 0, 1, 0, 0] f44_body)) f44_t0 f44_o0 (blockK 0 (seqK (evalK G run n f44_keep 0 (sub [1, 1] f44_body) (retE G f44_info)) (retE G f44_info))) k0
    ⟨[.any, .any, .ptr ⟨(.arr 4 (.int .u64)), 2, 1, []⟩, .ptr ⟨(.arr 4 (.int .u64)), 3, 1, []⟩, .any, .any, .any, .any, .val (.int .i64) none (.int x8_1), .any, .any, .any, .any, .any, .any, .any, .any, .any, .any, .any, .any, .any, .any, .any, .any, .any, .any, .any], [⟨0, none⟩, ⟨0, none⟩, ⟨1, some ⟨(.arr 4 (.int .u64)), .agg o2_1⟩⟩, ⟨1, some ⟨(.arr 4 (.int .u64)), .agg o3_1⟩⟩, ⟨0, none⟩, ⟨0, none⟩, ⟨0, none⟩, ⟨0, none⟩, ⟨0, none⟩, ⟨0, none⟩, ⟨0, none⟩, ⟨0, none⟩, ⟨0, none⟩, ⟨0, none⟩, ⟨0, none⟩, ⟨0, none⟩, ⟨0, none⟩, ⟨0, none⟩, ⟨0, none⟩, ⟨0, none⟩, ⟨0, none⟩, ⟨0, none⟩, ⟨0, none⟩, ⟨0, none⟩, ⟨0, none⟩, ⟨0, none⟩, ⟨0, none⟩, ⟨0, none⟩], List.replicate 28 0⟩
theorem f44_l0_eq (run : Run) (n : Nat) (k0 : Nat) (x8_1 : Int) (o2_1 : List AV) (o3_1 : List AV) : f44_l0 run n (k0 + 1) x8_1 o2_1 o3_1 =
  bif ltI x8_1 4 then
    bif inR (IntKind.wrap .i64 (3 - x8_1)) 4 then
    bif inR (IntKind.wrap .i64 (3 - x8_1)) 4 then
    bif ltI ((AV.fld (.agg o2_1) (Int.toNat (IntKind.wrap .i64 (3 - x8_1)))).toInt) ((AV.fld (.agg o3_1) (Int.toNat (IntKind.wrap .i64 (3 - x8_1)))).toInt) then
    some ⟨[.int (-1)], [], f44_fresh⟩
  else
    bif ltI ((AV.fld (.agg o3_1) (Int.toNat (IntKind.wrap .i64 (3 - x8_1)))).toInt) ((AV.fld (.agg o2_1) (Int.toNat (IntKind.wrap .i64 (3 - x8_1)))).toInt) then
    some ⟨[.int 1], [], f44_fresh⟩
  else
    f44_l0 run n k0 (IntKind.wrap .i64 (x8_1 + 1)) o2_1 o3_1
  else none
  else none
  else
    some ⟨[.int 0], [], f44_fresh⟩ := by kernel_rfl
noncomputable def f44 (run : Run) (n : Nat) (a0_1 : List AV) (a1_1 : List AV) : Option Res := evalK G run n f44_info.keep 0 f44_info.body (retE G f44_info) (f44_info.start [.agg a0_1, .agg a1_1])
theorem f44_eq (run : Run) (n : Nat) (a0_1 : List AV) (a1_1 : List AV) : f44 run n a0_1 a1_1 =
  f44_l0 run n n 0 a0_1 a1_1 := by kernel_rfl
theorem f44_run (ext : Run) (n : Nat) (a0_1 : List AV) (a1_1 : List AV) : runE G ext (n + 1) 44 [.agg a0_1, .agg a1_1] = f44 (runE G ext n) n a0_1 a1_1 := runE_succ f44_at f44_in

noncomputable def f18 (run : Run) (n : Nat) (a0_1 : List UInt8) (a1_1 : List UInt8) : Option Res := evalK G run n f18_info.keep 0 f18_info.body (retE G f18_info) (f18_info.start [.blob a0_1, .blob a1_1])
theorem f18_eq (run : Run) (n : Nat) (a0_1 : List UInt8) (a1_1 : List UInt8) : f18 run n a0_1 a1_1 =
  (run 45 [.blob a0_1]).bind fun r1 =>
    nilV r1.outs (consV r1.vals fun v1 vs1 =>
    nilV vs1 ((run 45 [.blob a1_1]).bind fun r2 =>
    nilV r2.outs (consV r2.vals fun v2 vs2 =>
    nilV vs2 ((run 44 [.agg v1.toAgg, .agg v2.toAgg]).bind fun r3 =>
    nilV r3.outs (consV r3.vals fun v3 vs3 =>
    nilV vs3 (some ⟨[.bool (leI v3.toInt 0)], [], f18_fresh⟩)))))) := by kernel_rfl
theorem f18_run (ext : Run) (n : Nat) (a0_1 : List UInt8) (a1_1 : List UInt8) : runE G ext (n + 1) 18 [.blob a0_1, .blob a1_1] = f18 (runE G ext n) n a0_1 a1_1 := runE_succ f18_at f18_in

noncomputable def f73 (run : Run) (n : Nat) (a0_1 : Int) (a1_1 : List AV) (a2_1 : Int) (a2_2 : List UInt8) (a2_3 : List UInt8) (a2_4 : Int) (a2_5 : List UInt8) (a2_6 : Int) (a2_7 : Int) (a2_8 : Int) (a2_9 : Int) (a2_10 : Int) (a2_11 : Int) : Option Res := evalK G run n f73_info.keep 0 f73_info.body (retE G f73_info) (f73_info.start [.int a0_1, .slice a1_1, .agg [.agg [.int a2_1, .blob a2_2, .blob a2_3, .int a2_4], .blob a2_5, .int a2_6, .int a2_7, .int a2_8, .int a2_9, .int a2_10, .int a2_11]])
theorem f73_eq (run : Run) (n : Nat) (a0_1 : Int) (a1_1 : List AV) (a2_1 : Int) (a2_2 : List UInt8) (a2_3 : List UInt8) (a2_4 : Int) (a2_5 : List UInt8) (a2_6 : Int) (a2_7 : Int) (a2_8 : Int) (a2_9 : Int) (a2_10 : Int) (a2_11 : Int) : f73 run n a0_1 a1_1 a2_1 a2_2 a2_3 a2_4 a2_5 a2_6 a2_7 a2_8 a2_9 a2_10 a2_11 =
  bif inR a0_1 a1_1.length then
    (run 19 [.agg [.int ((((nth a1_1 (Int.toNat a0_1)).fld 0).fld 0).toInt), .blob ((((nth a1_1 (Int.toNat a0_1)).fld 0).fld 1).toBlob), .blob ((((nth a1_1 (Int.toNat a0_1)).fld 0).fld 2).toBlob), .int ((((nth a1_1 (Int.toNat a0_1)).fld 0).fld 3).toInt)]]).bind fun r1 =>
    nilV r1.outs (consV r1.vals fun v1 vs1 =>
    nilV vs1 ((run 18 [.blob v1.toBlob, .blob a2_5]).bind fun r2 =>
    nilV r2.outs (consV r2.vals fun v2 vs2 =>
    nilV vs2 (some ⟨[.bool v2.toBool], [], f73_fresh⟩))))
  else none := by kernel_rfl
theorem f73_run (ext : Run) (n : Nat) (a0_1 : Int) (a1_1 : List AV) (a2_1 : Int) (a2_2 : List UInt8) (a2_3 : List UInt8) (a2_4 : Int) (a2_5 : List UInt8) (a2_6 : Int) (a2_7 : Int) (a2_8 : Int) (a2_9 : Int) (a2_10 : Int) (a2_11 : Int) : runE G ext (n + 1) 73 [.int a0_1, .slice a1_1, .agg [.agg [.int a2_1, .blob a2_2, .blob a2_3, .int a2_4], .blob a2_5, .int a2_6, .int a2_7, .int a2_8, .int a2_9, .int a2_10, .int a2_11]] = f73 (runE G ext n) n a0_1 a1_1 a2_1 a2_2 a2_3 a2_4 a2_5 a2_6 a2_7 a2_8 a2_9 a2_10 a2_11 := runE_succ f73_at f73_in

noncomputable def f20 (run : Run) (n : Nat) (a0_1 : Int) (a0_2 : List UInt8) (a0_3 : List UInt8) (a0_4 : Int) (a1_1 : Int) (a1_2 : List UInt8) (a1_3 : List UInt8) (a1_4 : Int) : Option Res := evalK G run n f20_info.keep 0 f20_info.body (retE G f20_info) (f20_info.start [.agg [.int a0_1, .blob a0_2, .blob a0_3, .int a0_4], .agg [.int a1_1, .blob a1_2, .blob a1_3, .int a1_4]])
theorem f20_eq (run : Run) (n : Nat) (a0_1 : Int) (a0_2 : List UInt8) (a0_3 : List UInt8) (a0_4 : Int) (a1_1 : Int) (a1_2 : List UInt8) (a1_3 : List UInt8) (a1_4 : Int) : f20 run n a0_1 a0_2 a0_3 a0_4 a1_1 a1_2 a1_3 a1_4 =
  some ⟨[.bool (ltI a1_1 a0_1)], [], f20_fresh⟩ := by kernel_rfl
theorem f20_run (ext : Run) (n : Nat) (a0_1 : Int) (a0_2 : List UInt8) (a0_3 : List UInt8) (a0_4 : Int) (a1_1 : Int) (a1_2 : List UInt8) (a1_3 : List UInt8) (a1_4 : Int) : runE G ext (n + 1) 20 [.agg [.int a0_1, .blob a0_2, .blob a0_3, .int a0_4], .agg [.int a1_1, .blob a1_2, .blob a1_3, .int a1_4]] = f20 (runE G ext n) n a0_1 a0_2 a0_3 a0_4 a1_1 a1_2 a1_3 a1_4 := runE_succ f20_at f20_in

noncomputable def f72 (run : Run) (n : Nat) (a0_1 : Int) (a1_1 : List AV) : Option Res := evalK G run n f72_info.keep 0 f72_info.body (retE G f72_info) (f72_info.start [.int a0_1, .slice a1_1])
theorem f72_eq (run : Run) (n : Nat) (a0_1 : Int) (a1_1 : List AV) : f72 run n a0_1 a1_1 =
  bif eqI a0_1 0 then
    some ⟨[.bool true], [], f72_fresh⟩
  else
    bif inR a0_1 a1_1.length then
    bif inR (IntKind.wrap .i64 (a0_1 - 1)) a1_1.length then
    (run 20 [.agg [.int ((((nth a1_1 (Int.toNat a0_1)).fld 0).fld 0).toInt), .blob ((((nth a1_1 (Int.toNat a0_1)).fld 0).fld 1).toBlob), .blob ((((nth a1_1 (Int.toNat a0_1)).fld 0).fld 2).toBlob), .int ((((nth a1_1 (Int.toNat a0_1)).fld 0).fld 3).toInt)], .agg [.int ((((nth a1_1 (Int.toNat (IntKind.wrap .i64 (a0_1 - 1)))).fld 0).fld 0).toInt), .blob ((((nth a1_1 (Int.toNat (IntKind.wrap .i64 (a0_1 - 1)))).fld 0).fld 1).toBlob), .blob ((((nth a1_1 (Int.toNat (IntKind.wrap .i64 (a0_1 - 1)))).fld 0).fld 2).toBlob), .int ((((nth a1_1 (Int.toNat (IntKind.wrap .i64 (a0_1 - 1)))).fld 0).fld 3).toInt)]]).bind fun r1 =>
    nilV r1.outs (consV r1.vals fun v1 vs1 =>
    nilV vs1 (some ⟨[.bool v1.toBool], [], f72_fresh⟩))
  else none
  else none := by kernel_rfl
theorem f72_run (ext : Run) (n : Nat) (a0_1 : Int) (a1_1 : List AV) : runE G ext (n + 1) 72 [.int a0_1, .slice a1_1] = f72 (runE G ext n) n a0_1 a1_1 := runE_succ f72_at f72_in

noncomputable def f22 (run : Run) (n : Nat) (a0_1 : Int) (a0_2 : List UInt8) (a0_3 : List UInt8) (a0_4 : Int) (a1_1 : Int) (a1_2 : List UInt8) (a1_3 : List UInt8) (a1_4 : Int) : Option Res := evalK G run n f22_info.keep 0 f22_info.body (retE G f22_info) (f22_info.start [.agg [.int a0_1, .blob a0_2, .blob a0_3, .int a0_4], .agg [.int a1_1, .blob a1_2, .blob a1_3, .int a1_4]])
theorem f22_eq (run : Run) (n : Nat) (a0_1 : Int) (a0_2 : List UInt8) (a0_3 : List UInt8) (a0_4 : Int) (a1_1 : Int) (a1_2 : List UInt8) (a1_3 : List UInt8) (a1_4 : Int) : f22 run n a0_1 a0_2 a0_3 a0_4 a1_1 a1_2 a1_3 a1_4 =
  (run 20 [.agg [.int a0_1, .blob a0_2, .blob a0_3, .int a0_4], .agg [.int a1_1, .blob a1_2, .blob a1_3, .int a1_4]]).bind fun r1 =>
    nilV r1.outs (consV r1.vals fun v1 vs1 =>
    nilV vs1 (bif v1.toBool then
    some ⟨[.bool (eqI (IntKind.wrap .u32 (a0_1 - a1_1)) 1)], [], f22_fresh⟩
  else
    some ⟨[.bool false], [], f22_fresh⟩)) := by kernel_rfl
theorem f22_run (ext : Run) (n : Nat) (a0_1 : Int) (a0_2 : List UInt8) (a0_3 : List UInt8) (a0_4 : Int) (a1_1 : Int) (a1_2 : List UInt8) (a1_3 : List UInt8) (a1_4 : Int) : runE G ext (n + 1) 22 [.agg [.int a0_1, .blob a0_2, .blob a0_3, .int a0_4], .agg [.int a1_1, .blob a1_2, .blob a1_3, .int a1_4]] = f22 (runE G ext n) n a0_1 a0_2 a0_3 a0_4 a1_1 a1_2 a1_3 a1_4 := runE_succ f22_at f22_in

noncomputable def f75_l0 (run : Run) (n : Nat) (k0 : Nat) (x0_1 : List AV) (x3_1 : Int) (x4_1 : Int) : Option Res :=
  iterK (evalK G run n f75_keep 0 (sub [1, 1, 0, 1, 0, 0] f75_body)) f75_t0 f75_o0 (blockK 0 (seqK (evalK G run n f75_keep 0 (sub [1, 1, 1] f75_body) (retE G f75_info)) (retE G f75_info))) k0
    ⟨[.val (.slice (.struct [(.struct [(.int .u32), (.blob 32), (.blob 32), (.int .u64)]), (.struct [(.int .i64), (.int .i64), (.slice (.blob 32))])])) none (.slice x0_1), .any, .any, .val (.int .i64) none (.int x3_1), .val (.int .i64) none (.int x4_1), .any, .any, .any, .any, .any, .any, .any, .any, .any, .any, .any, .any, .any, .any, .any, .any, .any, .any, .any, .any, .any, .any, .any, .any, .any, .any, .any, .any, .any, .any, .any, .any, .any], [⟨0, none⟩, ⟨0, none⟩, ⟨0, none⟩, ⟨0, none⟩, ⟨0, none⟩, ⟨0, none⟩, ⟨0, none⟩, ⟨0, none⟩, ⟨0, none⟩, ⟨0, none⟩, ⟨0, none⟩, ⟨0, none⟩, ⟨0, none⟩, ⟨0, none⟩, ⟨0, none⟩, ⟨0, none⟩, ⟨0, none⟩, ⟨0, none⟩, ⟨0, none⟩, ⟨0, none⟩, ⟨0, none⟩, ⟨0, none⟩, ⟨0, none⟩, ⟨0, none⟩, ⟨0, none⟩, ⟨0, none⟩, ⟨0, none⟩, ⟨0, none⟩, ⟨0, none⟩, ⟨0, none⟩, ⟨0, none⟩, ⟨0, none⟩, ⟨0, none⟩, ⟨0, none⟩, ⟨0, none⟩, ⟨0, none⟩, ⟨0, none⟩, ⟨0, none⟩], List.replicate 38 0⟩
theorem f75_l0_eq (run : Run) (n : Nat) (k0 : Nat) (x0_1 : List AV) (x3_1 : Int) (x4_1 : Int) : f75_l0 run n (k0 + 1) x0_1 x3_1 x4_1 =
  bif ltI 0 x4_1 then
    bif inR x4_1 x0_1.length then
    bif !(eqI ((((nth x0_1 (Int.toNat x4_1)).fld 1).fld 0).toInt) 0) then
    some ⟨[.int x3_1], [], f75_fresh⟩
  else
    bif inR x4_1 x0_1.length then
    bif inR (IntKind.wrap .i64 (x4_1 - 1)) x0_1.length then
    (run 22 [.agg [.int ((((nth x0_1 (Int.toNat x4_1)).fld 0).fld 0).toInt), .blob ((((nth x0_1 (Int.toNat x4_1)).fld 0).fld 1).toBlob), .blob ((((nth x0_1 (Int.toNat x4_1)).fld 0).fld 2).toBlob), .int ((((nth x0_1 (Int.toNat x4_1)).fld 0).fld 3).toInt)], .agg [.int ((((nth x0_1 (Int.toNat (IntKind.wrap .i64 (x4_1 - 1)))).fld 0).fld 0).toInt), .blob ((((nth x0_1 (Int.toNat (IntKind.wrap .i64 (x4_1 - 1)))).fld 0).fld 1).toBlob), .blob ((((nth x0_1 (Int.toNat (IntKind.wrap .i64 (x4_1 - 1)))).fld 0).fld 2).toBlob), .int ((((nth x0_1 (Int.toNat (IntKind.wrap .i64 (x4_1 - 1)))).fld 0).fld 3).toInt)]]).bind fun r1 =>
    nilV r1.outs (consV r1.vals fun v1 vs1 =>
    nilV vs1 (bif !v1.toBool then
    some ⟨[.int x3_1], [], f75_fresh⟩
  else
    f75_l0 run n k0 x0_1 (IntKind.wrap .i64 (x3_1 + 1)) (IntKind.wrap .i64 (x4_1 - 1))))
  else none
  else none
  else none
  else
    some ⟨[.int x3_1], [], f75_fresh⟩ := by kernel_rfl
noncomputable def f75 (run : Run) (n : Nat) (a0_1 : List AV) : Option Res := evalK G run n f75_info.keep 0 f75_info.body (retE G f75_info) (f75_info.start [.slice a0_1])
theorem f75_eq (run : Run) (n : Nat) (a0_1 : List AV) : f75 run n a0_1 =
  f75_l0 run n n a0_1 0 (IntKind.wrap .i64 ((a0_1.length : Int) - 1)) := by kernel_rfl
theorem f75_run (ext : Run) (n : Nat) (a0_1 : List AV) : runE G ext (n + 1) 75 [.slice a0_1] = f75 (runE G ext n) n a0_1 := runE_succ f75_at f75_in

noncomputable def f43 (run : Run) (n : Nat) (a0_1 : List AV) (a1_1 : Int) : Option Res := evalK G run n f43_info.keep 0 f43_info.body (retE G f43_info) (f43_info.start [.slice a0_1, .int a1_1])
theorem f43_eq (run : Run) (n : Nat) (a0_1 : List AV) (a1_1 : Int) : f43 run n a0_1 a1_1 =
  (run 75 [.slice a0_1]).bind fun r1 =>
    nilV r1.outs (consV r1.vals fun v1 vs1 =>
    nilV vs1 (bif ltI v1.toInt a1_1 then
    some ⟨[.int 11], [], f43_fresh⟩
  else
    some ⟨[.int 0], [], f43_fresh⟩)) := by kernel_rfl
theorem f43_run (ext : Run) (n : Nat) (a0_1 : List AV) (a1_1 : Int) : runE G ext (n + 1) 43 [.slice a0_1, .int a1_1] = f43 (runE G ext n) n a0_1 a1_1 := runE_succ f43_at f43_in

noncomputable def f16_l2 (run : Run) (n : Nat) (k0 : Nat) (k2 : Nat) (x1_2 : List AV) (x2_12 : Int) (x2_13 : List UInt8) (x2_14 : List UInt8) (x2_15 : Int) (x2_16 : List UInt8) (x2_17 : Int) (x2_18 : Int) (x2_19 : Int) (x2_20 : Int) (x2_21 : Int) (x2_22 : Int) (x6_2 : List AV) (x7_1 : Int) (x23_2 : Int) (x24_2 : Int) (x27_1 : List AV) (x28_1 : Int) (x29_1 : Int) (o4_3 : Int) (o4_4 : Int) : Option Res :=
  iterK (evalK G run n f16_keep 2 (sub [1, 1, 1, 0, 1, 0, 0, 1, 1, 0, 0, 1, 1, 0, 0] f16_body)) f16_t2 f16_o2 (blockK 2 (blockK 1 (seqK (evalK G run n f16_keep 0 (sub [1, 1, 1, 0, 1, 0, 0, 1, 1, 1] f16_body) (seqK (fun t => iterK (evalK G run n f16_keep 0 (sub [1, 1, 1, 0, 1, 0, 0] f16_body)) f16_t0 f16_o0 (blockK 0 (seqK (evalK G run n f16_keep 0 (sub [1, 1, 1, 1] f16_body) (retE G f16_info)) (retE G f16_info))) k0 (t.clear f16_t0 f16_o0)) (blockK 0 (seqK (evalK G run n f16_keep 0 (sub [1, 1, 1, 1] f16_body) (retE G f16_info)) (retE G f16_info))))) (seqK (fun t => iterK (evalK G run n f16_keep 0 (sub [1, 1, 1, 0, 1, 0, 0] f16_body)) f16_t0 f16_o0 (blockK 0 (seqK (evalK G run n f16_keep 0 (sub [1, 1, 1, 1] f16_body) (retE G f16_info)) (retE G f16_info))) k0 (t.clear f16_t0 f16_o0)) (blockK 0 (seqK (evalK G run n f16_keep 0 (sub [1, 1, 1, 1] f16_body) (retE G f16_info)) (retE G f16_info))))))) k2
    ⟨[.any, .val (.slice (.struct [(.struct [(.int .u32), (.blob 32), (.blob 32), (.int .u64)]), (.struct [(.int .i64), (.int .i64), (.slice (.blob 32))])])) none (.slice x1_2), .val (.pat (.struct [(.struct [(.int .u32), (.blob 32), (.blob 32), (.int .u64)]), (.blob 32), (.int .i64), (.int .i64), (.int .i64), (.int .i64), (.int .i64), (.int .i64)])) none (.agg [.agg [.int x2_12, .blob x2_13, .blob x2_14, .int x2_15], .blob x2_16, .int x2_17, .int x2_18, .int x2_19, .int x2_20, .int x2_21, .int x2_22]), .any, .ptr ⟨(.struct [(.int .i64), (.int .i64)]), 4, 1, []⟩, .any, .val (.slice (.struct [(.clos [(72, ([], [0])), (73, ([], [0, 1])), (74, ([], [0]))] [(.pat (.slice (.struct [(.struct [(.int .u32), (.blob 32), (.blob 32), (.int .u64)]), (.struct [(.int .i64), (.int .i64), (.slice (.blob 32))])]))), (.pat (.struct [(.struct [(.int .u32), (.blob 32), (.blob 32), (.int .u64)]), (.blob 32), (.int .i64), (.int .i64), (.int .i64), (.int .i64), (.int .i64), (.int .i64)]))]), (.int .i64)])) (some (6, 0)) (.slice x6_2), .val (.int .i64) none (.int x7_1), .any, .any, .any, .any, .any, .any, .any, .any, .any, .any, .any, .any, .any, .any, .any, .val (.int .i64) none (.int x23_2), .val (.int .i64) none (.int x24_2), .any, .any, .val (.slice (.struct [(.clos [(72, ([], [0])), (73, ([], [0, 1])), (74, ([], [0]))] [(.pat (.slice (.struct [(.struct [(.int .u32), (.blob 32), (.blob 32), (.int .u64)]), (.struct [(.int .i64), (.int .i64), (.slice (.blob 32))])]))), (.pat (.struct [(.struct [(.int .u32), (.blob 32), (.blob 32), (.int .u64)]), (.blob 32), (.int .i64), (.int .i64), (.int .i64), (.int .i64), (.int .i64), (.int .i64)]))]), (.int .i64)])) none (.slice x27_1), .val (.int .i64) none (.int x28_1), .val (.int .i64) none (.int x29_1), .any, .any, .any, .any, .any, .any, .any, .any, .any, .any, .any, .any, .any, .any, .any, .any, .any, .any, .any, .any, .any, .any, .any, .any, .any], [⟨0, none⟩, ⟨0, none⟩, ⟨0, none⟩, ⟨0, none⟩, ⟨1, some ⟨(.struct [(.int .i64), (.int .i64)]), .agg [.int o4_3, .int o4_4]⟩⟩, ⟨0, none⟩, ⟨0, none⟩, ⟨0, none⟩, ⟨0, none⟩, ⟨0, none⟩, ⟨0, none⟩, ⟨0, none⟩, ⟨0, none⟩, ⟨0, none⟩, ⟨0, none⟩, ⟨0, none⟩, ⟨0, none⟩, ⟨0, none⟩, ⟨0, none⟩, ⟨0, none⟩, ⟨0, none⟩, ⟨0, none⟩, ⟨0, none⟩, ⟨0, none⟩, ⟨0, none⟩, ⟨0, none⟩, ⟨0, none⟩, ⟨0, none⟩, ⟨0, none⟩, ⟨0, none⟩, ⟨0, none⟩, ⟨0, none⟩, ⟨0, none⟩, ⟨0, none⟩, ⟨0, none⟩, ⟨0, none⟩, ⟨0, none⟩, ⟨0, none⟩, ⟨0, none⟩, ⟨0, none⟩, ⟨0, none⟩, ⟨0, none⟩, ⟨0, none⟩, ⟨0, none⟩, ⟨0, none⟩, ⟨0, none⟩, ⟨0, none⟩, ⟨0, none⟩, ⟨0, none⟩, ⟨0, none⟩, ⟨0, none⟩, ⟨0, none⟩, ⟨0, none⟩, ⟨0, none⟩, ⟨0, none⟩], List.replicate 55 0⟩
noncomputable def f16_l0 (run : Run) (n : Nat) (k0 : Nat) (x1_1 : List AV) (x2_1 : Int) (x2_2 : List UInt8) (x2_3 : List UInt8) (x2_4 : Int) (x2_5 : List UInt8) (x2_6 : Int) (x2_7 : Int) (x2_8 : Int) (x2_9 : Int) (x2_10 : Int) (x2_11 : Int) (x6_1 : List AV) (x23_1 : Int) (x24_1 : Int) (o4_1 : Int) (o4_2 : Int) : Option Res :=
  iterK (evalK G run n f16_keep 0 (sub [1, 1, 1, 0, 1, 0, 0] f16_body)) f16_t0 f16_o0 (blockK 0 (seqK (evalK G run n f16_keep 0 (sub [1, 1, 1, 1] f16_body) (retE G f16_info)) (retE G f16_info))) k0
    ⟨[.any, .val (.slice (.struct [(.struct [(.int .u32), (.blob 32), (.blob 32), (.int .u64)]), (.struct [(.int .i64), (.int .i64), (.slice (.blob 32))])])) none (.slice x1_1), .val (.pat (.struct [(.struct [(.int .u32), (.blob 32), (.blob 32), (.int .u64)]), (.blob 32), (.int .i64), (.int .i64), (.int .i64), (.int .i64), (.int .i64), (.int .i64)])) none (.agg [.agg [.int x2_1, .blob x2_2, .blob x2_3, .int x2_4], .blob x2_5, .int x2_6, .int x2_7, .int x2_8, .int x2_9, .int x2_10, .int x2_11]), .any, .ptr ⟨(.struct [(.int .i64), (.int .i64)]), 4, 1, []⟩, .any, .val (.slice (.struct [(.clos [(72, ([], [0])), (73, ([], [0, 1])), (74, ([], [0]))] [(.pat (.slice (.struct [(.struct [(.int .u32), (.blob 32), (.blob 32), (.int .u64)]), (.struct [(.int .i64), (.int .i64), (.slice (.blob 32))])]))), (.pat (.struct [(.struct [(.int .u32), (.blob 32), (.blob 32), (.int .u64)]), (.blob 32), (.int .i64), (.int .i64), (.int .i64), (.int .i64), (.int .i64), (.int .i64)]))]), (.int .i64)])) (some (6, 0)) (.slice x6_1), .any, .any, .any, .any, .any, .any, .any, .any, .any, .any, .any, .any, .any, .any, .any, .any, .val (.int .i64) none (.int x23_1), .val (.int .i64) none (.int x24_1), .any, .any, .any, .any, .any, .any, .any, .any, .any, .any, .any, .any, .any, .any, .any, .any, .any, .any, .any, .any, .any, .any, .any, .any, .any, .any, .any, .any, .any, .any], [⟨0, none⟩, ⟨0, none⟩, ⟨0, none⟩, ⟨0, none⟩, ⟨1, some ⟨(.struct [(.int .i64), (.int .i64)]), .agg [.int o4_1, .int o4_2]⟩⟩, ⟨0, none⟩, ⟨0, none⟩, ⟨0, none⟩, ⟨0, none⟩, ⟨0, none⟩, ⟨0, none⟩, ⟨0, none⟩, ⟨0, none⟩, ⟨0, none⟩, ⟨0, none⟩, ⟨0, none⟩, ⟨0, none⟩, ⟨0, none⟩, ⟨0, none⟩, ⟨0, none⟩, ⟨0, none⟩, ⟨0, none⟩, ⟨0, none⟩, ⟨0, none⟩, ⟨0, none⟩, ⟨0, none⟩, ⟨0, none⟩, ⟨0, none⟩, ⟨0, none⟩, ⟨0, none⟩, ⟨0, none⟩, ⟨0, none⟩, ⟨0, none⟩, ⟨0, none⟩, ⟨0, none⟩, ⟨0, none⟩, ⟨0, none⟩, ⟨0, none⟩, ⟨0, none⟩, ⟨0, none⟩, ⟨0, none⟩, ⟨0, none⟩, ⟨0, none⟩, ⟨0, none⟩, ⟨0, none⟩, ⟨0, none⟩, ⟨0, none⟩, ⟨0, none⟩, ⟨0, none⟩, ⟨0, none⟩, ⟨0, none⟩, ⟨0, none⟩, ⟨0, none⟩, ⟨0, none⟩, ⟨0, none⟩], List.replicate 55 0⟩
theorem f16_l2_eq (run : Run) (n : Nat) (k0 : Nat) (k2 : Nat) (x1_2 : List AV) (x2_12 : Int) (x2_13 : List UInt8) (x2_14 : List UInt8) (x2_15 : Int) (x2_16 : List UInt8) (x2_17 : Int) (x2_18 : Int) (x2_19 : Int) (x2_20 : Int) (x2_21 : Int) (x2_22 : Int) (x6_2 : List AV) (x7_1 : Int) (x23_2 : Int) (x24_2 : Int) (x27_1 : List AV) (x28_1 : Int) (x29_1 : Int) (o4_3 : Int) (o4_4 : Int) : f16_l2 run n k0 (k2 + 1) x1_2 x2_12 x2_13 x2_14 x2_15 x2_16 x2_17 x2_18 x2_19 x2_20 x2_21 x2_22 x6_2 x7_1 x23_2 x24_2 x27_1 x28_1 x29_1 o4_3 o4_4 =
  bif ltI x29_1 x28_1 then
    bif inR x29_1 x27_1.length then
    bif Nat.beq (((nth x27_1 (Int.toNat x29_1)).fld 0).cloF) 72 then
    (run 72 [.int x7_1, nth (((nth x27_1 (Int.toNat x29_1)).fld 0).cloXs) 0]).bind fun r5 =>
    nilV r5.outs (consV r5.vals fun v5 vs5 =>
    nilV vs5 (bif !v5.toBool then
    some ⟨[.agg [.int (((nth x27_1 (Int.toNat x29_1)).fld 1).toInt), .int x7_1]], [], f16_fresh⟩
  else
    f16_l2 run n k0 k2 x1_2 x2_12 x2_13 x2_14 x2_15 x2_16 x2_17 x2_18 x2_19 x2_20 x2_21 x2_22 x6_2 x7_1 x23_2 x24_2 x27_1 x28_1 (IntKind.wrap .i64 (x29_1 + 1)) o4_3 o4_4))
  else
    bif Nat.beq (((nth x27_1 (Int.toNat x29_1)).fld 0).cloF) 73 then
    (run 73 [.int x7_1, nth (((nth x27_1 (Int.toNat x29_1)).fld 0).cloXs) 0, nth (((nth x27_1 (Int.toNat x29_1)).fld 0).cloXs) 1]).bind fun r4 =>
    nilV r4.outs (consV r4.vals fun v4 vs4 =>
    nilV vs4 (bif !v4.toBool then
    some ⟨[.agg [.int (((nth x27_1 (Int.toNat x29_1)).fld 1).toInt), .int x7_1]], [], f16_fresh⟩
  else
    f16_l2 run n k0 k2 x1_2 x2_12 x2_13 x2_14 x2_15 x2_16 x2_17 x2_18 x2_19 x2_20 x2_21 x2_22 x6_2 x7_1 x23_2 x24_2 x27_1 x28_1 (IntKind.wrap .i64 (x29_1 + 1)) o4_3 o4_4))
  else
    bif Nat.beq (((nth x27_1 (Int.toNat x29_1)).fld 0).cloF) 74 then
    (run 74 [.int x7_1, nth (((nth x27_1 (Int.toNat x29_1)).fld 0).cloXs) 0]).bind fun r3 =>
    nilV r3.outs (consV r3.vals fun v3 vs3 =>
    nilV vs3 (bif !v3.toBool then
    some ⟨[.agg [.int (((nth x27_1 (Int.toNat x29_1)).fld 1).toInt), .int x7_1]], [], f16_fresh⟩
  else
    f16_l2 run n k0 k2 x1_2 x2_12 x2_13 x2_14 x2_15 x2_16 x2_17 x2_18 x2_19 x2_20 x2_21 x2_22 x6_2 x7_1 x23_2 x24_2 x27_1 x28_1 (IntKind.wrap .i64 (x29_1 + 1)) o4_3 o4_4))
  else
    none
  else none
  else
    f16_l0 run n k0 x1_2 x2_12 x2_13 x2_14 x2_15 x2_16 x2_17 x2_18 x2_19 x2_20 x2_21 x2_22 x6_2 x23_2 (IntKind.wrap .i64 (x24_2 + 1)) o4_3 o4_4 := by kernel_rfl
theorem f16_l0_eq (run : Run) (n : Nat) (k0 : Nat) (x1_1 : List AV) (x2_1 : Int) (x2_2 : List UInt8) (x2_3 : List UInt8) (x2_4 : Int) (x2_5 : List UInt8) (x2_6 : Int) (x2_7 : Int) (x2_8 : Int) (x2_9 : Int) (x2_10 : Int) (x2_11 : Int) (x6_1 : List AV) (x23_1 : Int) (x24_1 : Int) (o4_1 : Int) (o4_2 : Int) : f16_l0 run n (k0 + 1) x1_1 x2_1 x2_2 x2_3 x2_4 x2_5 x2_6 x2_7 x2_8 x2_9 x2_10 x2_11 x6_1 x23_1 x24_1 o4_1 o4_2 =
  bif ltI x24_1 x23_1 then
    f16_l2 run n k0 n x1_1 x2_1 x2_2 x2_3 x2_4 x2_5 x2_6 x2_7 x2_8 x2_9 x2_10 x2_11 x6_1 x24_1 x23_1 x24_1 x6_1 (x6_1.length : Int) 0 o4_1 o4_2
  else
    (run 43 [.slice x1_1, .int x2_7]).bind fun r6 =>
    nilV r6.outs (consV r6.vals fun v6 vs6 =>
    nilV vs6 (bif !(eqI v6.toInt 0) then
    some ⟨[.agg [.int v6.toInt, .int (x1_1.length : Int)]], [], f16_fresh⟩
  else
    some ⟨[.agg [.int 0, .int 0]], [], f16_fresh⟩)) := by kernel_rfl
noncomputable def f16 (run : Run) (n : Nat) (a0_1 : Int) (a0_2 : List UInt8) (a0_3 : List UInt8) (a0_4 : Int) (a0_5 : List UInt8) (a0_6 : Int) (a0_7 : Int) (a0_8 : Int) (a0_9 : Int) (a0_10 : Int) (a0_11 : Int) (a1_1 : List AV) : Option Res := evalK G run n f16_info.keep 0 f16_info.body (retE G f16_info) (f16_info.start [.agg [.agg [.int a0_1, .blob a0_2, .blob a0_3, .int a0_4], .blob a0_5, .int a0_6, .int a0_7, .int a0_8, .int a0_9, .int a0_10, .int a0_11], .slice a1_1])
theorem f16_eq (run : Run) (n : Nat) (a0_1 : Int) (a0_2 : List UInt8) (a0_3 : List UInt8) (a0_4 : Int) (a0_5 : List UInt8) (a0_6 : Int) (a0_7 : Int) (a0_8 : Int) (a0_9 : Int) (a0_10 : Int) (a0_11 : Int) (a1_1 : List AV) : f16 run n a0_1 a0_2 a0_3 a0_4 a0_5 a0_6 a0_7 a0_8 a0_9 a0_10 a0_11 a1_1 =
  (run 41 [.agg [.int a0_1, .blob a0_2, .blob a0_3, .int a0_4], .slice a1_1]).bind fun r1 =>
    nilV r1.outs (consV r1.vals fun v1 vs1 =>
    nilV vs1 (bif !(eqI v1.toInt 0) then
    some ⟨[.agg [.int v1.toInt, .int 0]], [], f16_fresh⟩
  else
    (run 42 [.agg [.agg [.int a0_1, .blob a0_2, .blob a0_3, .int a0_4], .blob a0_5, .int a0_6, .int a0_7, .int a0_8, .int a0_9, .int a0_10, .int a0_11], .slice a1_1]).bind fun r2 =>
    bif r2.fresh then
    nilV r2.outs (consV r2.vals fun v2 vs2 =>
    nilV vs2 (f16_l0 run n n a1_1 a0_1 a0_2 a0_3 a0_4 a0_5 a0_6 a0_7 a0_8 a0_9 a0_10 a0_11 v2.toSlice (a1_1.length : Int) 0 0 0))
  else none)) := by kernel_rfl
theorem f16_run (ext : Run) (n : Nat) (a0_1 : Int) (a0_2 : List UInt8) (a0_3 : List UInt8) (a0_4 : Int) (a0_5 : List UInt8) (a0_6 : Int) (a0_7 : Int) (a0_8 : Int) (a0_9 : Int) (a0_10 : Int) (a0_11 : Int) (a1_1 : List AV) : runE G ext (n + 1) 16 [.agg [.agg [.int a0_1, .blob a0_2, .blob a0_3, .int a0_4], .blob a0_5, .int a0_6, .int a0_7, .int a0_8, .int a0_9, .int a0_10, .int a0_11], .slice a1_1] = f16 (runE G ext n) n a0_1 a0_2 a0_3 a0_4 a0_5 a0_6 a0_7 a0_8 a0_9 a0_10 a0_11 a1_1 := runE_succ f16_at f16_in

noncomputable def f17_l0 (run : Run) (n : Nat) (k0 : Nat) (x2_1 : Int) (o1_1 : List UInt8) : Option Res :=
  iterK (evalK G run n f17_keep 0 (sub [1, 1, 0, 1, 0, 0] f17_body)) f17_t0 f17_o0 (blockK 0 (seqK (evalK G run n f17_keep 0 (sub [1, 1, 1] f17_body) (retE G f17_info)) (retE G f17_info))) k0
    ⟨[.any, .ptr ⟨(.blob 32), 1, 1, []⟩, .val (.int .i64) none (.int x2_1), .any, .any, .any, .any, .any, .any, .any, .any, .any, .any, .any, .any, .any, .any, .any, .any, .any, .any, .any, .any, .any, .any, .any, .any, .any, .any], [⟨0, none⟩, ⟨1, some ⟨(.blob 32), .blob o1_1⟩⟩, ⟨0, none⟩, ⟨0, none⟩, ⟨0, none⟩, ⟨0, none⟩, ⟨0, none⟩, ⟨0, none⟩, ⟨0, none⟩, ⟨0, none⟩, ⟨0, none⟩, ⟨0, none⟩, ⟨0, none⟩, ⟨0, none⟩, ⟨0, none⟩, ⟨0, none⟩, ⟨0, none⟩, ⟨0, none⟩, ⟨0, none⟩, ⟨0, none⟩, ⟨0, none⟩, ⟨0, none⟩, ⟨0, none⟩, ⟨0, none⟩, ⟨0, none⟩, ⟨0, none⟩, ⟨0, none⟩, ⟨0, none⟩, ⟨0, none⟩], List.replicate 29 0⟩
theorem f17_l0_eq (run : Run) (n : Nat) (k0 : Nat) (x2_1 : Int) (o1_1 : List UInt8) : f17_l0 run n (k0 + 1) x2_1 o1_1 =
  bif ltI x2_1 32 then
    bif inR x2_1 32 then
    f17_l0 run n k0 (IntKind.wrap .i64 (x2_1 + 1)) (o1_1.set (Int.toNat x2_1) (UInt8.ofNat (Int.toNat 255)))
  else none
  else
    (run 16 [.agg [.agg [.int 0, .blob (List.replicate 32 0), .blob (List.replicate 32 0), .int 0], .blob (List.replicate 32 0), .int 0, .int 0, .int 0, .int 0, .int 0, .int 0], .slice []]).bind fun r1 =>
    nilV r1.outs (consV r1.vals fun v1 vs1 =>
    nilV vs1 (bif (eqI ((v1.fld 0).toInt) 6 && (eqI ((v1.fld 1).toInt) 0 && true)) then
    (run 16 [.agg [.agg [.int 0, .blob (List.replicate 32 0), .blob (List.replicate 32 0), .int 0], .blob o1_1, .int 0, .int 0, .int 0, .int 0, .int 0, .int 0], .slice (List.replicate 1 (.agg [.agg [.int 0, .blob (List.replicate 32 0), .blob (List.replicate 32 0), .int 0], .agg [.int 0, .int 0, .slice []]]))]).bind fun r2 =>
    nilV r2.outs (consV r2.vals fun v2 vs2 =>
    nilV vs2 (bif (eqI ((v2.fld 0).toInt) 0 && (eqI ((v2.fld 1).toInt) 0 && true)) then
    (run 16 [.agg [.agg [.int 0, .blob (List.replicate 32 0), .blob (List.replicate 32 0), .int 0], .blob o1_1, .int 0, .int 1, .int 0, .int 0, .int 0, .int 0], .slice (List.replicate 1 (.agg [.agg [.int 0, .blob (List.replicate 32 0), .blob (List.replicate 32 0), .int 0], .agg [.int 0, .int 0, .slice []]]))]).bind fun r3 =>
    nilV r3.outs (consV r3.vals fun v3 vs3 =>
    nilV vs3 (some ⟨[.bool (eqI ((v3.fld 0).toInt) 11 && (eqI ((v3.fld 1).toInt) 1 && true))], [], f17_fresh⟩))
  else
    some ⟨[.bool false], [], f17_fresh⟩))
  else
    some ⟨[.bool false], [], f17_fresh⟩)) := by kernel_rfl
noncomputable def f17 (run : Run) (n : Nat) : Option Res := evalK G run n f17_info.keep 0 f17_info.body (retE G f17_info) (f17_info.start [])
theorem f17_eq (run : Run) (n : Nat) : f17 run n  =
  f17_l0 run n n 0 (List.replicate 32 0) := by kernel_rfl
theorem f17_run (ext : Run) (n : Nat) : runE G ext (n + 1) 17 [] = f17 (runE G ext n) n  := runE_succ f17_at f17_in

noncomputable def f4_l0 (run : Run) (n : Nat) (k0 : Nat) (x1_1 : List AV) (x2_1 : Int) (x2_2 : List UInt8) (x2_3 : List UInt8) (x2_4 : Int) (x2_5 : List UInt8) (x2_6 : Int) (x2_7 : Int) (x2_8 : Int) (x2_9 : Int) (x2_10 : Int) (x2_11 : Int) (x5_1 : Int) (x6_1 : Int) : Option Res :=
  iterK (evalK G run n f4_keep 0 (sub [1, 1, 1, 0, 1, 0, 0] f4_body)) f4_t0 f4_o0 (blockK 0 (seqK (evalK G run n f4_keep 0 (sub [1, 1, 1, 1] f4_body) (retE G f4_info)) (retE G f4_info))) k0
    ⟨[.any, .val (.slice (.struct [(.struct [(.int .u32), (.blob 32), (.blob 32), (.int .u64)]), (.struct [(.int .i64), (.int .i64), (.slice (.blob 32))])])) none (.slice x1_1), .val (.pat (.struct [(.struct [(.int .u32), (.blob 32), (.blob 32), (.int .u64)]), (.blob 32), (.int .i64), (.int .i64), (.int .i64), (.int .i64), (.int .i64), (.int .i64)])) none (.agg [.agg [.int x2_1, .blob x2_2, .blob x2_3, .int x2_4], .blob x2_5, .int x2_6, .int x2_7, .int x2_8, .int x2_9, .int x2_10, .int x2_11]), .any, .any, .val (.int .i64) none (.int x5_1), .val (.int .i64) none (.int x6_1), .any, .any, .any, .any, .any, .any, .any, .any, .any, .any, .any, .any, .any, .any, .any, .any, .any, .any, .any, .any, .any, .any, .any, .any, .any, .any, .any, .any, .any, .any, .any, .any, .any, .any, .any, .any, .any, .any, .any, .any, .any, .any, .any, .any, .any, .any, .any, .any, .any, .any, .any, .any, .any, .any, .any, .any, .any, .any, .any, .any, .any, .any, .any, .any, .any, .any, .any, .any, .any, .any, .any, .any, .any, .any, .any, .any, .any, .any, .any, .any, .any, .any, .any, .any, .any, .any, .any, .any, .any, .any, .any, .any, .any, .any, .any, .any, .any, .any, .any, .any, .any, .any, .any, .any, .any, .any, .any, .any, .any, .any, .any, .any, .any, .any, .any, .any, .any], [⟨0, none⟩, ⟨0, none⟩, ⟨0, none⟩, ⟨0, none⟩, ⟨0, none⟩, ⟨0, none⟩, ⟨0, none⟩, ⟨0, none⟩, ⟨0, none⟩, ⟨0, none⟩, ⟨0, none⟩, ⟨0, none⟩, ⟨0, none⟩, ⟨0, none⟩, ⟨0, none⟩, ⟨0, none⟩, ⟨0, none⟩, ⟨0, none⟩, ⟨0, none⟩, ⟨0, none⟩, ⟨0, none⟩, ⟨0, none⟩, ⟨0, none⟩, ⟨0, none⟩, ⟨0, none⟩, ⟨0, none⟩, ⟨0, none⟩, ⟨0, none⟩, ⟨0, none⟩, ⟨0, none⟩, ⟨0, none⟩, ⟨0, none⟩, ⟨0, none⟩, ⟨0, none⟩, ⟨0, none⟩, ⟨0, none⟩, ⟨0, none⟩, ⟨0, none⟩, ⟨0, none⟩, ⟨0, none⟩, ⟨0, none⟩, ⟨0, none⟩, ⟨0, none⟩, ⟨0, none⟩, ⟨0, none⟩, ⟨0, none⟩, ⟨0, none⟩, ⟨0, none⟩, ⟨0, none⟩, ⟨0, none⟩, ⟨0, none⟩, ⟨0, none⟩, ⟨0, none⟩, ⟨0, none⟩, ⟨0, none⟩, ⟨0, none⟩, ⟨0, none⟩, ⟨0, none⟩, ⟨0, none⟩, ⟨0, none⟩, ⟨0, none⟩, ⟨0, none⟩, ⟨0, none⟩, ⟨0, none⟩, ⟨0, none⟩, ⟨0, none⟩, ⟨0, none⟩, ⟨0, none⟩, ⟨0, none⟩, ⟨0, none⟩, ⟨0, none⟩, ⟨0, none⟩, ⟨0, none⟩, ⟨0, none⟩, ⟨0, none⟩, ⟨0, none⟩, ⟨0, none⟩, ⟨0, none⟩, ⟨0, none⟩, ⟨0, none⟩, ⟨0, none⟩, ⟨0, none⟩, ⟨0, none⟩, ⟨0, none⟩, ⟨0, none⟩, ⟨0, none⟩, ⟨0, none⟩, ⟨0, none⟩, ⟨0, none⟩, ⟨0, none⟩, ⟨0, none⟩, ⟨0, none⟩, ⟨0, none⟩, ⟨0, none⟩, ⟨0, none⟩, ⟨0, none⟩, ⟨0, none⟩, ⟨0, none⟩, ⟨0, none⟩, ⟨0, none⟩, ⟨0, none⟩, ⟨0, none⟩, ⟨0, none⟩, ⟨0, none⟩, ⟨0, none⟩, ⟨0, none⟩, ⟨0, none⟩, ⟨0, none⟩, ⟨0, none⟩, ⟨0, none⟩, ⟨0, none⟩, ⟨0, none⟩, ⟨0, none⟩, ⟨0, none⟩, ⟨0, none⟩, ⟨0, none⟩, ⟨0, none⟩, ⟨0, none⟩, ⟨0, none⟩, ⟨0, none⟩, ⟨0, none⟩, ⟨0, none⟩, ⟨0, none⟩, ⟨0, none⟩], List.replicate 124 0⟩
theorem f4_l0_eq (run : Run) (n : Nat) (k0 : Nat) (x1_1 : List AV) (x2_1 : Int) (x2_2 : List UInt8) (x2_3 : List UInt8) (x2_4 : Int) (x2_5 : List UInt8) (x2_6 : Int) (x2_7 : Int) (x2_8 : Int) (x2_9 : Int) (x2_10 : Int) (x2_11 : Int) (x5_1 : Int) (x6_1 : Int) : f4_l0 run n (k0 + 1) x1_1 x2_1 x2_2 x2_3 x2_4 x2_5 x2_6 x2_7 x2_8 x2_9 x2_10 x2_11 x5_1 x6_1 =
  bif ltI x6_1 (x1_1.length : Int) then
    bif inR x6_1 x1_1.length then
    (run 19 [.agg [.int ((((nth x1_1 (Int.toNat x6_1)).fld 0).fld 0).toInt), .blob ((((nth x1_1 (Int.toNat x6_1)).fld 0).fld 1).toBlob), .blob ((((nth x1_1 (Int.toNat x6_1)).fld 0).fld 2).toBlob), .int ((((nth x1_1 (Int.toNat x6_1)).fld 0).fld 3).toInt)]]).bind fun r5 =>
    nilV r5.outs (consV r5.vals fun v5 vs5 =>
    nilV vs5 ((run 18 [.blob v5.toBlob, .blob x2_5]).bind fun r6 =>
    nilV r6.outs (consV r6.vals fun v6 vs6 =>
    nilV vs6 (bif !v6.toBool then
    some ⟨[.bool false], [], f4_fresh⟩
  else
    bif ltI 0 x6_1 then
    bif inR x6_1 x1_1.length then
    bif inR (IntKind.wrap .i64 (x6_1 - 1)) x1_1.length then
    (run 20 [.agg [.int ((((nth x1_1 (Int.toNat x6_1)).fld 0).fld 0).toInt), .blob ((((nth x1_1 (Int.toNat x6_1)).fld 0).fld 1).toBlob), .blob ((((nth x1_1 (Int.toNat x6_1)).fld 0).fld 2).toBlob), .int ((((nth x1_1 (Int.toNat x6_1)).fld 0).fld 3).toInt)], .agg [.int ((((nth x1_1 (Int.toNat (IntKind.wrap .i64 (x6_1 - 1)))).fld 0).fld 0).toInt), .blob ((((nth x1_1 (Int.toNat (IntKind.wrap .i64 (x6_1 - 1)))).fld 0).fld 1).toBlob), .blob ((((nth x1_1 (Int.toNat (IntKind.wrap .i64 (x6_1 - 1)))).fld 0).fld 2).toBlob), .int ((((nth x1_1 (Int.toNat (IntKind.wrap .i64 (x6_1 - 1)))).fld 0).fld 3).toInt)]]).bind fun r7 =>
    nilV r7.outs (consV r7.vals fun v7 vs7 =>
    nilV vs7 (bif !v7.toBool then
    some ⟨[.bool false], [], f4_fresh⟩
  else
    bif inR x6_1 x1_1.length then
    bif inR (IntKind.wrap .i64 (x6_1 - 1)) x1_1.length then
    (run 21 [.agg [.agg [.int ((((nth x1_1 (Int.toNat x6_1)).fld 0).fld 0).toInt), .blob ((((nth x1_1 (Int.toNat x6_1)).fld 0).fld 1).toBlob), .blob ((((nth x1_1 (Int.toNat x6_1)).fld 0).fld 2).toBlob), .int ((((nth x1_1 (Int.toNat x6_1)).fld 0).fld 3).toInt)], .agg [.int ((((nth x1_1 (Int.toNat x6_1)).fld 1).fld 0).toInt), .int ((((nth x1_1 (Int.toNat x6_1)).fld 1).fld 1).toInt), .slice ((((nth x1_1 (Int.toNat x6_1)).fld 1).fld 2).toSlice)]], .agg [.int ((((nth x1_1 (Int.toNat (IntKind.wrap .i64 (x6_1 - 1)))).fld 0).fld 0).toInt), .blob ((((nth x1_1 (Int.toNat (IntKind.wrap .i64 (x6_1 - 1)))).fld 0).fld 1).toBlob), .blob ((((nth x1_1 (Int.toNat (IntKind.wrap .i64 (x6_1 - 1)))).fld 0).fld 2).toBlob), .int ((((nth x1_1 (Int.toNat (IntKind.wrap .i64 (x6_1 - 1)))).fld 0).fld 3).toInt)]]).bind fun r8 =>
    nilV r8.outs (consV r8.vals fun v8 vs8 =>
    nilV vs8 (bif !v8.toBool then
    some ⟨[.bool false], [], f4_fresh⟩
  else
    bif leI (IntKind.wrap .i64 ((x1_1.length : Int) - x5_1)) x6_1 then
    bif eqI x6_1 0 then
    some ⟨[.bool false], [], f4_fresh⟩
  else
    bif inR x6_1 x1_1.length then
    bif inR (IntKind.wrap .i64 (x6_1 - 1)) x1_1.length then
    (run 22 [.agg [.int ((((nth x1_1 (Int.toNat x6_1)).fld 0).fld 0).toInt), .blob ((((nth x1_1 (Int.toNat x6_1)).fld 0).fld 1).toBlob), .blob ((((nth x1_1 (Int.toNat x6_1)).fld 0).fld 2).toBlob), .int ((((nth x1_1 (Int.toNat x6_1)).fld 0).fld 3).toInt)], .agg [.int ((((nth x1_1 (Int.toNat (IntKind.wrap .i64 (x6_1 - 1)))).fld 0).fld 0).toInt), .blob ((((nth x1_1 (Int.toNat (IntKind.wrap .i64 (x6_1 - 1)))).fld 0).fld 1).toBlob), .blob ((((nth x1_1 (Int.toNat (IntKind.wrap .i64 (x6_1 - 1)))).fld 0).fld 2).toBlob), .int ((((nth x1_1 (Int.toNat (IntKind.wrap .i64 (x6_1 - 1)))).fld 0).fld 3).toInt)]]).bind fun r9 =>
    nilV r9.outs (consV r9.vals fun v9 vs9 =>
    nilV vs9 (bif !v9.toBool then
    some ⟨[.bool false], [], f4_fresh⟩
  else
    bif inR x6_1 x1_1.length then
    bif !(eqI ((((nth x1_1 (Int.toNat x6_1)).fld 1).fld 0).toInt) 0) then
    some ⟨[.bool false], [], f4_fresh⟩
  else
    f4_l0 run n k0 x1_1 x2_1 x2_2 x2_3 x2_4 x2_5 x2_6 x2_7 x2_8 x2_9 x2_10 x2_11 x5_1 (IntKind.wrap .i64 (x6_1 + 1))
  else none))
  else none
  else none
  else
    f4_l0 run n k0 x1_1 x2_1 x2_2 x2_3 x2_4 x2_5 x2_6 x2_7 x2_8 x2_9 x2_10 x2_11 x5_1 (IntKind.wrap .i64 (x6_1 + 1))))
  else none
  else none))
  else none
  else none
  else
    bif leI (IntKind.wrap .i64 ((x1_1.length : Int) - x5_1)) x6_1 then
    bif eqI x6_1 0 then
    some ⟨[.bool false], [], f4_fresh⟩
  else
    bif inR x6_1 x1_1.length then
    bif inR (IntKind.wrap .i64 (x6_1 - 1)) x1_1.length then
    (run 22 [.agg [.int ((((nth x1_1 (Int.toNat x6_1)).fld 0).fld 0).toInt), .blob ((((nth x1_1 (Int.toNat x6_1)).fld 0).fld 1).toBlob), .blob ((((nth x1_1 (Int.toNat x6_1)).fld 0).fld 2).toBlob), .int ((((nth x1_1 (Int.toNat x6_1)).fld 0).fld 3).toInt)], .agg [.int ((((nth x1_1 (Int.toNat (IntKind.wrap .i64 (x6_1 - 1)))).fld 0).fld 0).toInt), .blob ((((nth x1_1 (Int.toNat (IntKind.wrap .i64 (x6_1 - 1)))).fld 0).fld 1).toBlob), .blob ((((nth x1_1 (Int.toNat (IntKind.wrap .i64 (x6_1 - 1)))).fld 0).fld 2).toBlob), .int ((((nth x1_1 (Int.toNat (IntKind.wrap .i64 (x6_1 - 1)))).fld 0).fld 3).toInt)]]).bind fun r10 =>
    nilV r10.outs (consV r10.vals fun v10 vs10 =>
    nilV vs10 (bif !v10.toBool then
    some ⟨[.bool false], [], f4_fresh⟩
  else
    bif inR x6_1 x1_1.length then
    bif !(eqI ((((nth x1_1 (Int.toNat x6_1)).fld 1).fld 0).toInt) 0) then
    some ⟨[.bool false], [], f4_fresh⟩
  else
    f4_l0 run n k0 x1_1 x2_1 x2_2 x2_3 x2_4 x2_5 x2_6 x2_7 x2_8 x2_9 x2_10 x2_11 x5_1 (IntKind.wrap .i64 (x6_1 + 1))
  else none))
  else none
  else none
  else
    f4_l0 run n k0 x1_1 x2_1 x2_2 x2_3 x2_4 x2_5 x2_6 x2_7 x2_8 x2_9 x2_10 x2_11 x5_1 (IntKind.wrap .i64 (x6_1 + 1))))))
  else none
  else
    bif ltI 0 (x1_1.length : Int) then
    bif ltI x5_1 (x1_1.length : Int) then
    bif inR 0 x1_1.length then
    bif (eqI ((((nth x1_1 0).fld 0).fld 0).toInt) x2_1 && (eqS ((((nth x1_1 0).fld 0).fld 1).toBlob) x2_2 && (eqS ((((nth x1_1 0).fld 0).fld 2).toBlob) x2_3 && (eqI ((((nth x1_1 0).fld 0).fld 3).toInt) x2_4 && true)))) then
    (run 17 []).bind fun r11 =>
    nilV r11.outs (consV r11.vals fun v11 vs11 =>
    nilV vs11 (some ⟨[.bool v11.toBool], [], f4_fresh⟩))
  else
    some ⟨[.bool false], [], f4_fresh⟩
  else none
  else
    some ⟨[.bool false], [], f4_fresh⟩
  else
    some ⟨[.bool false], [], f4_fresh⟩ := by kernel_rfl
noncomputable def f4 (run : Run) (n : Nat) (a0_1 : Int) (a0_2 : List UInt8) (a0_3 : List UInt8) (a0_4 : Int) (a0_5 : List UInt8) (a0_6 : Int) (a0_7 : Int) (a0_8 : Int) (a0_9 : Int) (a0_10 : Int) (a0_11 : Int) (a1_1 : List AV) : Option Res := evalK G run n f4_info.keep 0 f4_info.body (retE G f4_info) (f4_info.start [.agg [.agg [.int a0_1, .blob a0_2, .blob a0_3, .int a0_4], .blob a0_5, .int a0_6, .int a0_7, .int a0_8, .int a0_9, .int a0_10, .int a0_11], .slice a1_1])
theorem f4_eq (run : Run) (n : Nat) (a0_1 : Int) (a0_2 : List UInt8) (a0_3 : List UInt8) (a0_4 : Int) (a0_5 : List UInt8) (a0_6 : Int) (a0_7 : Int) (a0_8 : Int) (a0_9 : Int) (a0_10 : Int) (a0_11 : Int) (a1_1 : List AV) : f4 run n a0_1 a0_2 a0_3 a0_4 a0_5 a0_6 a0_7 a0_8 a0_9 a0_10 a0_11 a1_1 =
  (run 15 [.slice a1_1]).bind fun r1 =>
    nilV r1.outs (consV r1.vals fun v1 vs1 =>
    nilV vs1 (bif v1.toBool then
    (run 17 []).bind fun r2 =>
    nilV r2.outs (consV r2.vals fun v2 vs2 =>
    nilV vs2 (some ⟨[.bool v2.toBool], [], f4_fresh⟩))
  else
    (run 16 [.agg [.agg [.int a0_1, .blob a0_2, .blob a0_3, .int a0_4], .blob a0_5, .int a0_6, .int a0_7, .int a0_8, .int a0_9, .int a0_10, .int a0_11], .slice a1_1]).bind fun r3 =>
    nilV r3.outs (consV r3.vals fun v3 vs3 =>
    nilV vs3 (bif !(eqI ((v3.fld 0).toInt) 0) then
    (run 17 []).bind fun r4 =>
    nilV r4.outs (consV r4.vals fun v4 vs4 =>
    nilV vs4 (some ⟨[.bool v4.toBool], [], f4_fresh⟩))
  else
    f4_l0 run n n a1_1 a0_1 a0_2 a0_3 a0_4 a0_5 a0_6 a0_7 a0_8 a0_9 a0_10 a0_11 (mx2 a0_7 0) 0)))) := by kernel_rfl
theorem f4_run (ext : Run) (n : Nat) (a0_1 : Int) (a0_2 : List UInt8) (a0_3 : List UInt8) (a0_4 : Int) (a0_5 : List UInt8) (a0_6 : Int) (a0_7 : Int) (a0_8 : Int) (a0_9 : Int) (a0_10 : Int) (a0_11 : Int) (a1_1 : List AV) : runE G ext (n + 1) 4 [.agg [.agg [.int a0_1, .blob a0_2, .blob a0_3, .int a0_4], .blob a0_5, .int a0_6, .int a0_7, .int a0_8, .int a0_9, .int a0_10, .int a0_11], .slice a1_1] = f4 (runE G ext n) n a0_1 a0_2 a0_3 a0_4 a0_5 a0_6 a0_7 a0_8 a0_9 a0_10 a0_11 a1_1 := runE_succ f4_at f4_in

noncomputable def f5 (run : Run) (n : Nat) (a0_1 : Int) (a0_2 : List UInt8) (a0_3 : List UInt8) (a0_4 : Int) (a0_5 : List UInt8) (a0_6 : Int) (a0_7 : Int) (a0_8 : Int) (a0_9 : Int) (a0_10 : Int) (a0_11 : Int) (a1_1 : List AV) (a2_1 : Int) : Option Res := evalK G run n f5_info.keep 0 f5_info.body (retE G f5_info) (f5_info.start [.agg [.agg [.int a0_1, .blob a0_2, .blob a0_3, .int a0_4], .blob a0_5, .int a0_6, .int a0_7, .int a0_8, .int a0_9, .int a0_10, .int a0_11], .slice a1_1, .int a2_1])
theorem f5_eq (run : Run) (n : Nat) (a0_1 : Int) (a0_2 : List UInt8) (a0_3 : List UInt8) (a0_4 : Int) (a0_5 : List UInt8) (a0_6 : Int) (a0_7 : Int) (a0_8 : Int) (a0_9 : Int) (a0_10 : Int) (a0_11 : Int) (a1_1 : List AV) (a2_1 : Int) : f5 run n a0_1 a0_2 a0_3 a0_4 a0_5 a0_6 a0_7 a0_8 a0_9 a0_10 a0_11 a1_1 a2_1 =
  (run 15 [.slice a1_1]).bind fun r1 =>
    nilV r1.outs (consV r1.vals fun v1 vs1 =>
    nilV vs1 (bif v1.toBool then
    (run 17 []).bind fun r2 =>
    nilV r2.outs (consV r2.vals fun v2 vs2 =>
    nilV vs2 (some ⟨[.bool v2.toBool], [], f5_fresh⟩))
  else
    bif eqI (a1_1.length : Int) 0 then
    (run 17 []).bind fun r3 =>
    nilV r3.outs (consV r3.vals fun v3 vs3 =>
    nilV vs3 (some ⟨[.bool v3.toBool], [], f5_fresh⟩))
  else
    (run 16 [.agg [.agg [.int a0_1, .blob a0_2, .blob a0_3, .int a0_4], .blob a0_5, .int a0_6, .int a0_7, .int a0_8, .int a0_9, .int a0_10, .int a0_11], .slice a1_1]).bind fun r4 =>
    nilV r4.outs (consV r4.vals fun v4 vs4 =>
    nilV vs4 (bif !(eqI ((v4.fld 0).toInt) 0) then
    (run 17 []).bind fun r5 =>
    nilV r5.outs (consV r5.vals fun v5 vs5 =>
    nilV vs5 (some ⟨[.bool v5.toBool], [], f5_fresh⟩))
  else
    bif !(eqI (IntKind.wrap .u64 (a1_1.length : Int)) 0) then
    bif boundsOk 0 (IntKind.wrap .i64 (1 + IntKind.wrap .i64 (Int.tmod (IntKind.wrap .u64 a2_1) (IntKind.wrap .u64 (a1_1.length : Int))))) (a1_1.length : Int) (a1_1.length : Int) && true then
    (run 16 [.agg [.agg [.int a0_1, .blob a0_2, .blob a0_3, .int a0_4], .blob a0_5, .int a0_6, .int a0_7, .int a0_8, .int a0_9, .int a0_10, .int a0_11], .slice (List.drop 0 (List.take (Int.toNat (IntKind.wrap .i64 (1 + IntKind.wrap .i64 (Int.tmod (IntKind.wrap .u64 a2_1) (IntKind.wrap .u64 (a1_1.length : Int)))))) a1_1))]).bind fun r6 =>
    nilV r6.outs (consV r6.vals fun v6 vs6 =>
    nilV vs6 (bif eqI ((v6.fld 0).toInt) 0 then
    (run 17 []).bind fun r7 =>
    nilV r7.outs (consV r7.vals fun v7 vs7 =>
    nilV vs7 (some ⟨[.bool v7.toBool], [], f5_fresh⟩))
  else
    bif (eqI ((v6.fld 0).toInt) 11 && (eqI ((v6.fld 1).toInt) (IntKind.wrap .i64 (1 + IntKind.wrap .i64 (Int.tmod (IntKind.wrap .u64 a2_1) (IntKind.wrap .u64 (a1_1.length : Int))))) && true)) then
    (run 17 []).bind fun r8 =>
    nilV r8.outs (consV r8.vals fun v8 vs8 =>
    nilV vs8 (some ⟨[.bool v8.toBool], [], f5_fresh⟩))
  else
    some ⟨[.bool false], [], f5_fresh⟩))
  else none
  else none)))) := by kernel_rfl
theorem f5_run (ext : Run) (n : Nat) (a0_1 : Int) (a0_2 : List UInt8) (a0_3 : List UInt8) (a0_4 : Int) (a0_5 : List UInt8) (a0_6 : Int) (a0_7 : Int) (a0_8 : Int) (a0_9 : Int) (a0_10 : Int) (a0_11 : Int) (a1_1 : List AV) (a2_1 : Int) : runE G ext (n + 1) 5 [.agg [.agg [.int a0_1, .blob a0_2, .blob a0_3, .int a0_4], .blob a0_5, .int a0_6, .int a0_7, .int a0_8, .int a0_9, .int a0_10, .int a0_11], .slice a1_1, .int a2_1] = f5 (runE G ext n) n a0_1 a0_2 a0_3 a0_4 a0_5 a0_6 a0_7 a0_8 a0_9 a0_10 a0_11 a1_1 a2_1 := runE_succ f5_at f5_in

noncomputable def f106_l0 (run : Run) (n : Nat) (k0 : Nat) (x8_1 : List AV) (x9_1 : Int) (x10_1 : Int) : Option Res :=
  iterK (evalK G run n f106_keep 0 (sub [1, 1, 0, 1, 0, 0] f106_body)) f106_t0 f106_o0 (blockK 0 (seqK (evalK G run n f106_keep 0 (sub [1, 1, 1] f106_body) (retE G f106_info)) (retE G f106_info))) k0
    ⟨[.any, .any, .any, .any, .any, .any, .any, .any, .val (.slice .str) none (.slice x8_1), .val (.int .i64) none (.int x9_1), .val (.int .i64) none (.int x10_1), .any, .any, .any, .any, .any, .any, .any], [⟨0, none⟩, ⟨0, none⟩, ⟨0, none⟩, ⟨0, none⟩, ⟨0, none⟩, ⟨0, none⟩, ⟨0, none⟩, ⟨0, none⟩, ⟨0, none⟩, ⟨0, none⟩, ⟨0, none⟩, ⟨0, none⟩, ⟨0, none⟩, ⟨0, none⟩, ⟨0, none⟩, ⟨0, none⟩, ⟨0, none⟩, ⟨0, none⟩], List.replicate 18 0⟩
theorem f106_l0_eq (run : Run) (n : Nat) (k0 : Nat) (x8_1 : List AV) (x9_1 : Int) (x10_1 : Int) : f106_l0 run n (k0 + 1) x8_1 x9_1 x10_1 =
  bif ltI x10_1 x9_1 then
    bif inR x10_1 x8_1.length then
    bif ltI 4096 (((nth x8_1 (Int.toNat x10_1)).toStr).length : Int) then
    some ⟨[.int 4], [], f106_fresh⟩
  else
    f106_l0 run n k0 x8_1 x9_1 (IntKind.wrap .i64 (x10_1 + 1))
  else none
  else
    some ⟨[.int 0], [], f106_fresh⟩ := by kernel_rfl
noncomputable def f106 (run : Run) (n : Nat) (a0_1 : List AV) : Option Res := evalK G run n f106_info.keep 0 f106_info.body (retE G f106_info) (f106_info.start [.slice a0_1])
theorem f106_eq (run : Run) (n : Nat) (a0_1 : List AV) : f106 run n a0_1 =
  bif ltI 1024 (a0_1.length : Int) then
    some ⟨[.int 4], [], f106_fresh⟩
  else
    f106_l0 run n n a0_1 (a0_1.length : Int) 0 := by kernel_rfl
theorem f106_run (ext : Run) (n : Nat) (a0_1 : List AV) : runE G ext (n + 1) 106 [.slice a0_1] = f106 (runE G ext n) n a0_1 := runE_succ f106_at f106_in

noncomputable def f132_l0 (run : Run) (n : Nat) (k0 : Nat) (x3_1 : List AV) (x6_1 : List AV) (x7_1 : Int) (x8_1 : Int) : Option Res :=
  iterK (evalK G run n f132_keep 0 (sub [1, 1, 0, 1, 0, 0] f132_body)) f132_t0 f132_o0 (blockK 0 (seqK (evalK G run n f132_keep 0 (sub [1, 1, 1] f132_body) (retE G f132_info)) (retE G f132_info))) k0
    ⟨[.any, .any, .any, .val (.slice .str) (some (3, 0)) (.slice x3_1), .any, .any, .val (.slice (.blob 32)) none (.slice x6_1), .val (.int .i64) none (.int x7_1), .val (.int .i64) none (.int x8_1), .any, .any, .any, .any, .any, .any, .any, .any, .any, .any], [⟨0, none⟩, ⟨0, none⟩, ⟨0, none⟩, ⟨0, none⟩, ⟨0, none⟩, ⟨0, none⟩, ⟨0, none⟩, ⟨0, none⟩, ⟨0, none⟩, ⟨0, none⟩, ⟨0, none⟩, ⟨0, none⟩, ⟨0, none⟩, ⟨0, none⟩, ⟨0, none⟩, ⟨0, none⟩, ⟨0, none⟩, ⟨0, none⟩, ⟨0, none⟩], List.replicate 19 0⟩
theorem f132_l0_eq (run : Run) (n : Nat) (k0 : Nat) (x3_1 : List AV) (x6_1 : List AV) (x7_1 : Int) (x8_1 : Int) : f132_l0 run n (k0 + 1) x3_1 x6_1 x7_1 x8_1 =
  bif ltI x8_1 x7_1 then
    bif inR x8_1 x6_1.length then
    (run 81 [.blob ((nth x6_1 (Int.toNat x8_1)).toBlob)]).bind fun r1 =>
    nilV r1.outs (consV r1.vals fun v1 vs1 =>
    nilV vs1 (bif Nat.ble ((x3_1.length + 1) * 16) 140737488355328 then
    f132_l0 run n k0 (x3_1 ++ [.str v1.toStr]) x6_1 x7_1 (IntKind.wrap .i64 (x8_1 + 1))
  else none))
  else none
  else
    some ⟨[.slice x3_1], [], f132_fresh⟩ := by kernel_rfl
noncomputable def f132 (run : Run) (n : Nat) (a0_1 : List AV) : Option Res := evalK G run n f132_info.keep 0 f132_info.body (retE G f132_info) (f132_info.start [.slice a0_1])
theorem f132_eq (run : Run) (n : Nat) (a0_1 : List AV) : f132 run n a0_1 =
  f132_l0 run n n [] a0_1 (a0_1.length : Int) 0 := by kernel_rfl
theorem f132_run (ext : Run) (n : Nat) (a0_1 : List AV) : runE G ext (n + 1) 132 [.slice a0_1] = f132 (runE G ext n) n a0_1 := runE_succ f132_at f132_in

noncomputable def f149_s67_l0 (run : Run) (n : Nat) (k0 : Nat) (x5_1 : List AV) (x8_1 : List AV) (x9_1 : Int) (x10_1 : Int) : Option Res :=
  iterK (evalK G run n f149_keep 0 (sub [1, 1, 0, 1, 0, 0] f149_body)) f149_t0 f149_o0 (blockK 0 (seqK (evalK G run n f149_keep 0 (sub [1, 1, 1] f149_body) (retE G f149_info)) (retE G f149_info))) k0
    ⟨[.any, .val .fn none (.fn 67), .any, .any, .any, .val (.slice (.blob 32)) (some (5, 0)) (.slice x5_1), .any, .any, .val (.slice .str) none (.slice x8_1), .val (.int .i64) none (.int x9_1), .val (.int .i64) none (.int x10_1), .any, .any, .any, .any, .any, .any, .any, .any, .any, .any, .any], [⟨0, none⟩, ⟨0, none⟩, ⟨0, none⟩, ⟨0, none⟩, ⟨0, none⟩, ⟨0, none⟩, ⟨0, none⟩, ⟨0, none⟩, ⟨0, none⟩, ⟨0, none⟩, ⟨0, none⟩, ⟨0, none⟩, ⟨0, none⟩, ⟨0, none⟩, ⟨0, none⟩, ⟨0, none⟩, ⟨0, none⟩, ⟨0, none⟩, ⟨0, none⟩, ⟨0, none⟩, ⟨0, none⟩, ⟨0, none⟩], List.replicate 22 0⟩
theorem f149_s67_l0_eq (run : Run) (n : Nat) (k0 : Nat) (x5_1 : List AV) (x8_1 : List AV) (x9_1 : Int) (x10_1 : Int) : f149_s67_l0 run n (k0 + 1) x5_1 x8_1 x9_1 x10_1 =
  bif ltI x10_1 x9_1 then
    bif inR x10_1 x8_1.length then
    (run 67 [.str ((nth x8_1 (Int.toNat x10_1)).toStr)]).bind fun r1 =>
    nilV r1.outs (consV r1.vals fun v1 vs1 =>
    nilV vs1 (bif Nat.ble ((x5_1.length + 1) * 32) 140737488355328 then
    f149_s67_l0 run n k0 (x5_1 ++ [.blob v1.toBlob]) x8_1 x9_1 (IntKind.wrap .i64 (x10_1 + 1))
  else none))
  else none
  else
    some ⟨[.slice x5_1], [], f149_fresh⟩ := by kernel_rfl
noncomputable def f149_s67 (run : Run) (n : Nat) (a0_1 : List AV) : Option Res := evalK G run n f149_info.keep 0 f149_info.body (retE G f149_info) (f149_info.start [.slice a0_1, .fn 67])
theorem f149_s67_eq (run : Run) (n : Nat) (a0_1 : List AV) : f149_s67 run n a0_1 =
  f149_s67_l0 run n n [] a0_1 (a0_1.length : Int) 0 := by kernel_rfl
theorem f149_s67_run (ext : Run) (n : Nat) (a0_1 : List AV) : runE G ext (n + 1) 149 [.slice a0_1, .fn 67] = f149_s67 (runE G ext n) n a0_1 := runE_succ f149_at f149_in

noncomputable def f142 (run : Run) (n : Nat) (a0_1 : List AV) : Option Res := evalK G run n f142_info.keep 0 f142_info.body (retE G f142_info) (f142_info.start [.slice a0_1])
theorem f142_eq (run : Run) (n : Nat) (a0_1 : List AV) : f142 run n a0_1 =
  (run 149 [.slice a0_1, .fn 67]).bind fun r1 =>
    bif r1.fresh then
    nilV r1.outs (consV r1.vals fun v1 vs1 =>
    nilV vs1 (some ⟨[.slice v1.toSlice], [], f142_fresh⟩))
  else none := by kernel_rfl
theorem f142_run (ext : Run) (n : Nat) (a0_1 : List AV) : runE G ext (n + 1) 142 [.slice a0_1] = f142 (runE G ext n) n a0_1 := runE_succ f142_at f142_in

noncomputable def f148 (run : Run) (n : Nat) (a0_1 : List AV) : Option Res := evalK G run n f148_info.keep 0 f148_info.body (retE G f148_info) (f148_info.start [.slice a0_1])
theorem f148_eq (run : Run) (n : Nat) (a0_1 : List AV) : f148 run n a0_1 =
  (run 36 [.int (a0_1.length : Int)]).bind fun r1 =>
    nilV r1.outs (consV r1.vals fun v1 vs1 =>
    nilV vs1 (bif boundsOk 0 v1.toInt (a0_1.length : Int) (a0_1.length : Int) && true then
    bif boundsOk v1.toInt (a0_1.length : Int) (a0_1.length : Int) (a0_1.length : Int) && true then
    some ⟨[.slice (List.drop 0 (List.take (Int.toNat v1.toInt) a0_1)), .slice (List.drop (Int.toNat v1.toInt) (List.take (Int.toNat (a0_1.length : Int)) a0_1))], [], f148_fresh⟩
  else none
  else none)) := by kernel_rfl
theorem f148_run (ext : Run) (n : Nat) (a0_1 : List AV) : runE G ext (n + 1) 148 [.slice a0_1] = f148 (runE G ext n) n a0_1 := runE_succ f148_at f148_in

noncomputable def f141 (run : Run) (n : Nat) (a0_1 : List AV) : Option Res := evalK G run n f141_info.keep 0 f141_info.body (retE G f141_info) (f141_info.start [.slice a0_1])
theorem f141_eq (run : Run) (n : Nat) (a0_1 : List AV) : f141 run n a0_1 =
  bif eqI (a0_1.length : Int) 0 then
    some ⟨[.blob [0, 0, 0, 0, 0, 0, 0, 0, 0, 0, 0, 0, 0, 0, 0, 0, 0, 0, 0, 0, 0, 0, 0, 0, 0, 0, 0, 0, 0, 0, 0, 0]], [], f141_fresh⟩
  else
    bif eqI (a0_1.length : Int) 1 then
    bif inR 0 a0_1.length then
    some ⟨[.blob ((nth a0_1 0).toBlob)], [], f141_fresh⟩
  else none
  else
    (run 148 [.slice a0_1]).bind fun r1 =>
    nilV r1.outs (consV r1.vals fun v1 vs1 =>
    consV vs1 fun v2 vs2 =>
    nilV vs2 ((run 141 [.slice v1.toSlice]).bind fun r2 =>
    nilV r2.outs (consV r2.vals fun v3 vs3 =>
    nilV vs3 ((run 141 [.slice v2.toSlice]).bind fun r3 =>
    nilV r3.outs (consV r3.vals fun v4 vs4 =>
    nilV vs4 ((run 68 [.blob v3.toBlob, .blob v4.toBlob]).bind fun r4 =>
    nilV r4.outs (consV r4.vals fun v5 vs5 =>
    nilV vs5 (some ⟨[.blob v5.toBlob], [], f141_fresh⟩)))))))) := by kernel_rfl
theorem f141_run (ext : Run) (n : Nat) (a0_1 : List AV) : runE G ext (n + 1) 141 [.slice a0_1] = f141 (runE G ext n) n a0_1 := runE_succ f141_at f141_in

noncomputable def f131 (run : Run) (n : Nat) (a0_1 : List AV) : Option Res := evalK G run n f131_info.keep 0 f131_info.body (retE G f131_info) (f131_info.start [.slice a0_1])
theorem f131_eq (run : Run) (n : Nat) (a0_1 : List AV) : f131 run n a0_1 =
  (run 142 [.slice a0_1]).bind fun r1 =>
    bif r1.fresh then
    nilV r1.outs (consV r1.vals fun v1 vs1 =>
    nilV vs1 ((run 141 [.slice v1.toSlice]).bind fun r2 =>
    nilV r2.outs (consV r2.vals fun v2 vs2 =>
    nilV vs2 ((run 34 [.int (IntKind.wrap .u64 (a0_1.length : Int)), .blob v2.toBlob]).bind fun r3 =>
    nilV r3.outs (consV r3.vals fun v3 vs3 =>
    nilV vs3 (some ⟨[.blob v3.toBlob], [], f131_fresh⟩))))))
  else none := by kernel_rfl
theorem f131_run (ext : Run) (n : Nat) (a0_1 : List AV) : runE G ext (n + 1) 131 [.slice a0_1] = f131 (runE G ext n) n a0_1 := runE_succ f131_at f131_in

noncomputable def f119 (run : Run) (n : Nat) (a0_1 : List AV) : Option Res := evalK G run n f119_info.keep 0 f119_info.body (retE G f119_info) (f119_info.start [.slice a0_1])
theorem f119_eq (run : Run) (n : Nat) (a0_1 : List AV) : f119 run n a0_1 =
  (run 132 [.slice a0_1]).bind fun r1 =>
    bif r1.fresh then
    nilV r1.outs (consV r1.vals fun v1 vs1 =>
    nilV vs1 ((run 131 [.slice v1.toSlice]).bind fun r2 =>
    nilV r2.outs (consV r2.vals fun v2 vs2 =>
    nilV vs2 (some ⟨[.blob v2.toBlob], [], f119_fresh⟩))))
  else none := by kernel_rfl
theorem f119_run (ext : Run) (n : Nat) (a0_1 : List AV) : runE G ext (n + 1) 119 [.slice a0_1] = f119 (runE G ext n) n a0_1 := runE_succ f119_at f119_in

noncomputable def f89 (run : Run) (n : Nat) (a0_1 : List UInt8) : Option Res := evalK G run n f89_info.keep 0 f89_info.body (retE G f89_info) (f89_info.start [.str a0_1])
theorem f89_eq (run : Run) (n : Nat) (a0_1 : List UInt8) : f89 run n a0_1 =
  bif Nat.ble (1 + a0_1.length) maxLen then
    some ⟨[.str ([84] ++ a0_1)], [], f89_fresh⟩
  else none := by kernel_rfl
theorem f89_run (ext : Run) (n : Nat) (a0_1 : List UInt8) : runE G ext (n + 1) 89 [.str a0_1] = f89 (runE G ext n) n a0_1 := runE_succ f89_at f89_in

noncomputable def f133_l0 (run : Run) (n : Nat) (k0 : Nat) (x3_1 : List AV) (x6_1 : List AV) (x7_1 : Int) (x8_1 : Int) : Option Res :=
  iterK (evalK G run n f133_keep 0 (sub [1, 1, 0, 1, 0, 0] f133_body)) f133_t0 f133_o0 (blockK 0 (seqK (evalK G run n f133_keep 0 (sub [1, 1, 1] f133_body) (retE G f133_info)) (retE G f133_info))) k0
    ⟨[.any, .any, .any, .val (.slice .str) (some (3, 0)) (.slice x3_1), .any, .any, .val (.slice .str) none (.slice x6_1), .val (.int .i64) none (.int x7_1), .val (.int .i64) none (.int x8_1), .any, .any, .any, .any, .any, .any, .any, .any, .any, .any], [⟨0, none⟩, ⟨0, none⟩, ⟨0, none⟩, ⟨0, none⟩, ⟨0, none⟩, ⟨0, none⟩, ⟨0, none⟩, ⟨0, none⟩, ⟨0, none⟩, ⟨0, none⟩, ⟨0, none⟩, ⟨0, none⟩, ⟨0, none⟩, ⟨0, none⟩, ⟨0, none⟩, ⟨0, none⟩, ⟨0, none⟩, ⟨0, none⟩, ⟨0, none⟩], List.replicate 19 0⟩
theorem f133_l0_eq (run : Run) (n : Nat) (k0 : Nat) (x3_1 : List AV) (x6_1 : List AV) (x7_1 : Int) (x8_1 : Int) : f133_l0 run n (k0 + 1) x3_1 x6_1 x7_1 x8_1 =
  bif ltI x8_1 x7_1 then
    bif inR x8_1 x6_1.length then
    (run 89 [.str ((nth x6_1 (Int.toNat x8_1)).toStr)]).bind fun r1 =>
    nilV r1.outs (consV r1.vals fun v1 vs1 =>
    nilV vs1 (bif Nat.ble ((x3_1.length + 1) * 16) 140737488355328 then
    f133_l0 run n k0 (x3_1 ++ [.str v1.toStr]) x6_1 x7_1 (IntKind.wrap .i64 (x8_1 + 1))
  else none))
  else none
  else
    some ⟨[.slice x3_1], [], f133_fresh⟩ := by kernel_rfl
noncomputable def f133 (run : Run) (n : Nat) (a0_1 : List AV) : Option Res := evalK G run n f133_info.keep 0 f133_info.body (retE G f133_info) (f133_info.start [.slice a0_1])
theorem f133_eq (run : Run) (n : Nat) (a0_1 : List AV) : f133 run n a0_1 =
  f133_l0 run n n [] a0_1 (a0_1.length : Int) 0 := by kernel_rfl
theorem f133_run (ext : Run) (n : Nat) (a0_1 : List AV) : runE G ext (n + 1) 133 [.slice a0_1] = f133 (runE G ext n) n a0_1 := runE_succ f133_at f133_in

noncomputable def f120 (run : Run) (n : Nat) (a0_1 : List AV) : Option Res := evalK G run n f120_info.keep 0 f120_info.body (retE G f120_info) (f120_info.start [.slice a0_1])
theorem f120_eq (run : Run) (n : Nat) (a0_1 : List AV) : f120 run n a0_1 =
  (run 133 [.slice a0_1]).bind fun r1 =>
    bif r1.fresh then
    nilV r1.outs (consV r1.vals fun v1 vs1 =>
    nilV vs1 ((run 131 [.slice v1.toSlice]).bind fun r2 =>
    nilV r2.outs (consV r2.vals fun v2 vs2 =>
    nilV vs2 (some ⟨[.blob v2.toBlob], [], f120_fresh⟩))))
  else none := by kernel_rfl
theorem f120_run (ext : Run) (n : Nat) (a0_1 : List AV) : runE G ext (n + 1) 120 [.slice a0_1] = f120 (runE G ext n) n a0_1 := runE_succ f120_at f120_in

noncomputable def f107 (run : Run) (n : Nat) (a0_1 : Int) (a1_1 : List AV) (a2_1 : List AV) (a3_1 : Int) : Option Res := evalK G run n f107_info.keep 0 f107_info.body (retE G f107_info) (f107_info.start [.int a0_1, .slice a1_1, .slice a2_1, .int a3_1])
theorem f107_eq (run : Run) (n : Nat) (a0_1 : Int) (a1_1 : List AV) (a2_1 : List AV) (a3_1 : Int) : f107 run n a0_1 a1_1 a2_1 a3_1 =
  (run 119 [.slice a1_1]).bind fun r1 =>
    nilV r1.outs (consV r1.vals fun v1 vs1 =>
    nilV vs1 ((run 120 [.slice a2_1]).bind fun r2 =>
    nilV r2.outs (consV r2.vals fun v2 vs2 =>
    nilV vs2 (bif Nat.ble ((a2_1.length) * 16) 140737488355328 then
    some ⟨[.agg [.agg [.int a0_1, .blob v1.toBlob, .blob v2.toBlob, .int a3_1], .slice a2_1]], [], f107_fresh⟩
  else none)))) := by kernel_rfl
theorem f107_run (ext : Run) (n : Nat) (a0_1 : Int) (a1_1 : List AV) (a2_1 : List AV) (a3_1 : Int) : runE G ext (n + 1) 107 [.int a0_1, .slice a1_1, .slice a2_1, .int a3_1] = f107 (runE G ext n) n a0_1 a1_1 a2_1 a3_1 := runE_succ f107_at f107_in

noncomputable def f24_l0 (run : Run) (n : Nat) (k0 : Nat) (x2_1 : Int) (o3_1 : List UInt8) (o4_1 : Int) (o4_2 : List UInt8) (o4_3 : List UInt8) (o4_4 : Int) (o6_1 : Int) (o6_2 : List UInt8) (o6_3 : List UInt8) (o6_4 : Int) : Option Res :=
  iterK (evalK G run n f24_keep 0 (sub [1, 0, 0, 0] f24_body)) f24_t0 f24_o0 (blockK 0 (seqK (evalK G run n f24_keep 0 (sub [1, 1] f24_body) (retE G f24_info)) (retE G f24_info))) k0
    ⟨[.any, .any, .val (.int .i64) none (.int x2_1), .ptr ⟨(.blob 32), 3, 1, []⟩, .ptr ⟨(.struct [(.int .u32), (.blob 32), (.blob 32), (.int .u64)]), 4, 1, []⟩, .any, .ptr ⟨(.struct [(.int .u32), (.blob 32), (.blob 32), (.int .u64)]), 6, 1, []⟩, .any, .any, .any, .any, .any, .any, .any, .any, .any, .any, .any, .any, .any, .any, .any], [⟨0, none⟩, ⟨0, none⟩, ⟨0, none⟩, ⟨1, some ⟨(.blob 32), .blob o3_1⟩⟩, ⟨1, some ⟨(.struct [(.int .u32), (.blob 32), (.blob 32), (.int .u64)]), .agg [.int o4_1, .blob o4_2, .blob o4_3, .int o4_4]⟩⟩, ⟨0, none⟩, ⟨1, some ⟨(.struct [(.int .u32), (.blob 32), (.blob 32), (.int .u64)]), .agg [.int o6_1, .blob o6_2, .blob o6_3, .int o6_4]⟩⟩, ⟨0, none⟩, ⟨0, none⟩, ⟨0, none⟩, ⟨0, none⟩, ⟨0, none⟩, ⟨0, none⟩, ⟨0, none⟩, ⟨0, none⟩, ⟨0, none⟩, ⟨0, none⟩, ⟨0, none⟩, ⟨0, none⟩, ⟨0, none⟩, ⟨0, none⟩, ⟨0, none⟩], List.replicate 22 0⟩
theorem f24_l0_eq (run : Run) (n : Nat) (k0 : Nat) (x2_1 : Int) (o3_1 : List UInt8) (o4_1 : Int) (o4_2 : List UInt8) (o4_3 : List UInt8) (o4_4 : Int) (o6_1 : Int) (o6_2 : List UInt8) (o6_3 : List UInt8) (o6_4 : Int) : f24_l0 run n (k0 + 1) x2_1 o3_1 o4_1 o4_2 o4_3 o4_4 o6_1 o6_2 o6_3 o6_4 =
  bif ltI 0 x2_1 then
    (run 19 [.agg [.int o4_1, .blob o4_2, .blob o4_3, .int o4_4]]).bind fun r1 =>
    nilV r1.outs (consV r1.vals fun v1 vs1 =>
    nilV vs1 ((run 18 [.blob v1.toBlob, .blob o3_1]).bind fun r2 =>
    nilV r2.outs (consV r2.vals fun v2 vs2 =>
    nilV vs2 (bif v2.toBool then
    some ⟨[.agg [.int o4_1, .blob o4_2, .blob o4_3, .int o4_4], .bool true], [], f24_fresh⟩
  else
    f24_l0 run n k0 (IntKind.wrap .i64 (x2_1 - 1)) o3_1 o4_1 o4_2 o4_3 (IntKind.wrap .u64 (o4_4 + 1)) o6_1 o6_2 o6_3 o6_4))))
  else
    some ⟨[.agg [.int 0, .blob (List.replicate 32 0), .blob (List.replicate 32 0), .int 0], .bool false], [], f24_fresh⟩ := by kernel_rfl
noncomputable def f24 (run : Run) (n : Nat) (a0_1 : List UInt8) (a1_1 : Int) (a1_2 : List UInt8) (a1_3 : List UInt8) (a1_4 : Int) (a2_1 : Int) : Option Res := evalK G run n f24_info.keep 0 f24_info.body (retE G f24_info) (f24_info.start [.blob a0_1, .agg [.int a1_1, .blob a1_2, .blob a1_3, .int a1_4], .int a2_1])
theorem f24_eq (run : Run) (n : Nat) (a0_1 : List UInt8) (a1_1 : Int) (a1_2 : List UInt8) (a1_3 : List UInt8) (a1_4 : Int) (a2_1 : Int) : f24 run n a0_1 a1_1 a1_2 a1_3 a1_4 a2_1 =
  f24_l0 run n n a2_1 a0_1 a1_1 a1_2 a1_3 a1_4 0 (List.replicate 32 0) (List.replicate 32 0) 0 := by kernel_rfl
theorem f24_run (ext : Run) (n : Nat) (a0_1 : List UInt8) (a1_1 : Int) (a1_2 : List UInt8) (a1_3 : List UInt8) (a1_4 : Int) (a2_1 : Int) : runE G ext (n + 1) 24 [.blob a0_1, .agg [.int a1_1, .blob a1_2, .blob a1_3, .int a1_4], .int a2_1] = f24 (runE G ext n) n a0_1 a1_1 a1_2 a1_3 a1_4 a2_1 := runE_succ f24_at f24_in

noncomputable def f82 (run : Run) (n : Nat) (a0_1 : List UInt8) (a1_1 : Int) (a2_1 : List AV) (a3_1 : List AV) (a4_1 : Int) (a5_1 : Int) : Option Res := evalK G run n f82_info.keep 0 f82_info.body (retE G f82_info) (f82_info.start [.blob a0_1, .int a1_1, .slice a2_1, .slice a3_1, .int a4_1, .int a5_1])
theorem f82_eq (run : Run) (n : Nat) (a0_1 : List UInt8) (a1_1 : Int) (a2_1 : List AV) (a3_1 : List AV) (a4_1 : Int) (a5_1 : Int) : f82 run n a0_1 a1_1 a2_1 a3_1 a4_1 a5_1 =
  (run 106 [.slice a3_1]).bind fun r1 =>
    nilV r1.outs (consV r1.vals fun v1 vs1 =>
    nilV vs1 (bif !(eqI v1.toInt 0) then
    some ⟨[.agg [.agg [.int 0, .blob (List.replicate 32 0), .blob (List.replicate 32 0), .int 0], .slice []], .int v1.toInt], [], f82_fresh⟩
  else
    (run 107 [.int (IntKind.wrap .u32 a1_1), .slice a2_1, .slice a3_1, .int a4_1]).bind fun r2 =>
    nilV r2.outs (consV r2.vals fun v2 vs2 =>
    nilV vs2 ((run 24 [.blob a0_1, .agg [.int (((v2.fld 0).fld 0).toInt), .blob (((v2.fld 0).fld 1).toBlob), .blob (((v2.fld 0).fld 2).toBlob), .int (((v2.fld 0).fld 3).toInt)], .int a5_1]).bind fun r3 =>
    nilV r3.outs (consV r3.vals fun v3 vs3 =>
    consV vs3 fun v4 vs4 =>
    nilV vs4 (bif !v4.toBool then
    some ⟨[.agg [.agg [.int 0, .blob (List.replicate 32 0), .blob (List.replicate 32 0), .int 0], .slice []], .int 9], [], f82_fresh⟩
  else
    some ⟨[.agg [.agg [.int ((v3.fld 0).toInt), .blob ((v3.fld 1).toBlob), .blob ((v3.fld 2).toBlob), .int ((v3.fld 3).toInt)], .slice ((v2.fld 1).toSlice)], .int 0], [], f82_fresh⟩)))))) := by kernel_rfl
theorem f82_run (ext : Run) (n : Nat) (a0_1 : List UInt8) (a1_1 : Int) (a2_1 : List AV) (a3_1 : List AV) (a4_1 : Int) (a5_1 : Int) : runE G ext (n + 1) 82 [.blob a0_1, .int a1_1, .slice a2_1, .slice a3_1, .int a4_1, .int a5_1] = f82 (runE G ext n) n a0_1 a1_1 a2_1 a3_1 a4_1 a5_1 := runE_succ f82_at f82_in

noncomputable def f49 (run : Run) (n : Nat) (a0_1 : List UInt8) (a1_1 : List AV) (a2_1 : Int) (a3_1 : Int) : Option Res := evalK G run n f49_info.keep 0 f49_info.body (retE G f49_info) (f49_info.start [.blob a0_1, .slice a1_1, .int a2_1, .int a3_1])
theorem f49_eq (run : Run) (n : Nat) (a0_1 : List UInt8) (a1_1 : List AV) (a2_1 : Int) (a3_1 : Int) : f49 run n a0_1 a1_1 a2_1 a3_1 =
  (run 82 [.blob a0_1, .int 0, .slice [], .slice a1_1, .int a2_1, .int a3_1]).bind fun r1 =>
    nilV r1.outs (consV r1.vals fun v1 vs1 =>
    consV vs1 fun v2 vs2 =>
    nilV vs2 (some ⟨[.agg [.agg [.int (((v1.fld 0).fld 0).toInt), .blob (((v1.fld 0).fld 1).toBlob), .blob (((v1.fld 0).fld 2).toBlob), .int (((v1.fld 0).fld 3).toInt)], .slice ((v1.fld 1).toSlice)], .int v2.toInt], [], f49_fresh⟩)) := by kernel_rfl
theorem f49_run (ext : Run) (n : Nat) (a0_1 : List UInt8) (a1_1 : List AV) (a2_1 : Int) (a3_1 : Int) : runE G ext (n + 1) 49 [.blob a0_1, .slice a1_1, .int a2_1, .int a3_1] = f49 (runE G ext n) n a0_1 a1_1 a2_1 a3_1 := runE_succ f49_at f49_in

noncomputable def f91 (run : Run) (n : Nat) (a0_1 : Int) (a0_2 : List UInt8) (a0_3 : List UInt8) (a0_4 : Int) (a0_5 : List AV) : Option Res := evalK G run n f91_info.keep 0 f91_info.body (retE G f91_info) (f91_info.start [.agg [.agg [.int a0_1, .blob a0_2, .blob a0_3, .int a0_4], .slice a0_5]])
theorem f91_eq (run : Run) (n : Nat) (a0_1 : Int) (a0_2 : List UInt8) (a0_3 : List UInt8) (a0_4 : Int) (a0_5 : List AV) : f91 run n a0_1 a0_2 a0_3 a0_4 a0_5 =
  (run 19 [.agg [.int a0_1, .blob a0_2, .blob a0_3, .int a0_4]]).bind fun r1 =>
    nilV r1.outs (consV r1.vals fun v1 vs1 =>
    nilV vs1 (some ⟨[.blob v1.toBlob], [], f91_fresh⟩)) := by kernel_rfl
theorem f91_run (ext : Run) (n : Nat) (a0_1 : Int) (a0_2 : List UInt8) (a0_3 : List UInt8) (a0_4 : Int) (a0_5 : List AV) : runE G ext (n + 1) 91 [.agg [.agg [.int a0_1, .blob a0_2, .blob a0_3, .int a0_4], .slice a0_5]] = f91 (runE G ext n) n a0_1 a0_2 a0_3 a0_4 a0_5 := runE_succ f91_at f91_in

noncomputable def f92 (run : Run) (n : Nat) (a0_1 : List UInt8) : Option Res := evalK G run n f92_info.keep 0 f92_info.body (retE G f92_info) (f92_info.start [.blob a0_1])
theorem f92_eq (run : Run) (n : Nat) (a0_1 : List UInt8) : f92 run n a0_1 =
  some ⟨[.slice [.blob a0_1]], [], f92_fresh⟩ := by kernel_rfl
theorem f92_run (ext : Run) (n : Nat) (a0_1 : List UInt8) : runE G ext (n + 1) 92 [.blob a0_1] = f92 (runE G ext n) n a0_1 := runE_succ f92_at f92_in

end Go.Proofs.Ytddcooedbibehaa.Ev
