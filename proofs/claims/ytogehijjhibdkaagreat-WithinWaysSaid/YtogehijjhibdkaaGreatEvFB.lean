/- What the evaluator does with the functions, as programs over plain values: printed by gen.py, checked by the kernel. -/
import Derived.Test.YtogehijjhibdkaaGreatEvFA
namespace Go.Proofs.YtogehijjhibdkaaGreat.Ev
open Go Go.RowKit
set_option maxRecDepth 100000


noncomputable def f37_l0 (run : Run) (n : Nat) (k0 : Nat) (x0_1 : List AV) (x3_1 : Int) (x4_1 : Int) : Option Res :=
  iterK (evalK G run n f37_keep 0 (sub [1, 1, 0, 1, 0, 0] f37_body)) f37_t0 f37_o0 (blockK 0 (seqK (evalK G run n f37_keep 0 (sub [1, 1, 1] f37_body) (retE G f37_info)) (retE G f37_info))) k0
    ⟨[.val (.slice .str) none (.slice x0_1), .any, .any, .val (.int .i64) none (.int x3_1), .val (.int .i64) none (.int x4_1), .any, .any, .any, .any, .any, .any, .any, .any, .any, .any, .any, .any, .any, .any, .any, .any, .any, .any, .any, .any, .any, .any, .any, .any, .any, .any, .any, .any, .any, .any, .any, .any, .any, .any, .any, .any], [⟨0, none⟩, ⟨0, none⟩, ⟨0, none⟩, ⟨0, none⟩, ⟨0, none⟩, ⟨0, none⟩, ⟨0, none⟩, ⟨0, none⟩, ⟨0, none⟩, ⟨0, none⟩, ⟨0, none⟩, ⟨0, none⟩, ⟨0, none⟩, ⟨0, none⟩, ⟨0, none⟩, ⟨0, none⟩, ⟨0, none⟩, ⟨0, none⟩, ⟨0, none⟩, ⟨0, none⟩, ⟨0, none⟩, ⟨0, none⟩, ⟨0, none⟩, ⟨0, none⟩, ⟨0, none⟩, ⟨0, none⟩, ⟨0, none⟩, ⟨0, none⟩, ⟨0, none⟩, ⟨0, none⟩, ⟨0, none⟩, ⟨0, none⟩, ⟨0, none⟩, ⟨0, none⟩, ⟨0, none⟩, ⟨0, none⟩, ⟨0, none⟩, ⟨0, none⟩, ⟨0, none⟩, ⟨0, none⟩, ⟨0, none⟩], List.replicate 41 0⟩
theorem f37_l0_eq (run : Run) (n : Nat) (k0 : Nat) (x0_1 : List AV) (x3_1 : Int) (x4_1 : Int) : f37_l0 run n (k0 + 1) x0_1 x3_1 x4_1 =
  bif ltI x4_1 (x0_1.length : Int) then
    bif ltI x4_1 1100 then
    bif inR x4_1 x0_1.length then
    f37_l0 run n k0 x0_1 (mn2 (IntKind.wrap .i64 (IntKind.wrap .i64 (x3_1 + 1) + (((nth x0_1 (Int.toNat x4_1)).toStr).length : Int))) 1048576) (IntKind.wrap .i64 (x4_1 + 1))
  else none
  else
    bif ltI 60 (x0_1.length : Int) then
    bif leI (x0_1.length : Int) 1024 then
    some ⟨[.bool true], [], f37_fresh⟩
  else
    bif ltI 1050 (x0_1.length : Int) then
    some ⟨[.bool true], [], f37_fresh⟩
  else
    some ⟨[.bool (ltI 6000 x3_1)], [], f37_fresh⟩
  else
    bif ltI 1050 (x0_1.length : Int) then
    some ⟨[.bool true], [], f37_fresh⟩
  else
    some ⟨[.bool (ltI 6000 x3_1)], [], f37_fresh⟩
  else
    bif ltI 60 (x0_1.length : Int) then
    bif leI (x0_1.length : Int) 1024 then
    some ⟨[.bool true], [], f37_fresh⟩
  else
    bif ltI 1050 (x0_1.length : Int) then
    some ⟨[.bool true], [], f37_fresh⟩
  else
    some ⟨[.bool (ltI 6000 x3_1)], [], f37_fresh⟩
  else
    bif ltI 1050 (x0_1.length : Int) then
    some ⟨[.bool true], [], f37_fresh⟩
  else
    some ⟨[.bool (ltI 6000 x3_1)], [], f37_fresh⟩ := by kernel_rfl
noncomputable def f37 (run : Run) (n : Nat) (a0_1 : List AV) : Option Res := evalK G run n f37_info.keep 0 f37_info.body (retE G f37_info) (f37_info.start [.slice a0_1])
theorem f37_eq (run : Run) (n : Nat) (a0_1 : List AV) : f37 run n a0_1 =
  f37_l0 run n n a0_1 0 0 := by kernel_rfl
theorem f37_run (ext : Run) (n : Nat) (a0_1 : List AV) : runE G ext (n + 1) 37 [.slice a0_1] = f37 (runE G ext n) n a0_1 := runE_succ f37_at f37_in

noncomputable def f9_l0 (run : Run) (n : Nat) (k0 : Nat) (x0_1 : List AV) (x3_1 : Int) (x4_1 : Int) : Option Res :=
  iterK (evalK G run n f9_keep 0 (sub [1, 1, 0, 1, 0, 0] f9_body)) f9_t0 f9_o0 (blockK 0 (seqK (evalK G run n f9_keep 0 (sub [1, 1, 1] f9_body) (retE G f9_info)) (retE G f9_info))) k0
    ⟨[.val (.slice (.struct [(.struct [(.int .u32), (.blob 32), (.blob 32), (.int .u64)]), (.slice .str)])) none (.slice x0_1), .any, .any, .val (.int .i64) none (.int x3_1), .val (.int .i64) none (.int x4_1), .any, .any, .any, .any, .any, .any, .any, .any, .any, .any, .any, .any, .any, .any, .any, .any, .any, .any, .any, .any, .any, .any, .any, .any, .any, .any, .any, .any, .any, .any, .any], [⟨0, none⟩, ⟨0, none⟩, ⟨0, none⟩, ⟨0, none⟩, ⟨0, none⟩, ⟨0, none⟩, ⟨0, none⟩, ⟨0, none⟩, ⟨0, none⟩, ⟨0, none⟩, ⟨0, none⟩, ⟨0, none⟩, ⟨0, none⟩, ⟨0, none⟩, ⟨0, none⟩, ⟨0, none⟩, ⟨0, none⟩, ⟨0, none⟩, ⟨0, none⟩, ⟨0, none⟩, ⟨0, none⟩, ⟨0, none⟩, ⟨0, none⟩, ⟨0, none⟩, ⟨0, none⟩, ⟨0, none⟩, ⟨0, none⟩, ⟨0, none⟩, ⟨0, none⟩, ⟨0, none⟩, ⟨0, none⟩, ⟨0, none⟩, ⟨0, none⟩, ⟨0, none⟩, ⟨0, none⟩, ⟨0, none⟩], List.replicate 36 0⟩
theorem f9_l0_eq (run : Run) (n : Nat) (k0 : Nat) (x0_1 : List AV) (x3_1 : Int) (x4_1 : Int) : f9_l0 run n (k0 + 1) x0_1 x3_1 x4_1 =
  bif ltI x4_1 (x0_1.length : Int) then
    bif ltI x4_1 30 then
    bif inR x4_1 x0_1.length then
    (run 37 [.slice (((nth x0_1 (Int.toNat x4_1)).fld 1).toSlice)]).bind fun r1 =>
    nilV r1.outs (consV r1.vals fun v1 vs1 =>
    nilV vs1 (bif v1.toBool then
    some ⟨[.bool true], [], f9_fresh⟩
  else
    bif inR x4_1 x0_1.length then
    f9_l0 run n k0 x0_1 (IntKind.wrap .i64 (x3_1 + ((((nth x0_1 (Int.toNat x4_1)).fld 1).toSlice).length : Int))) (IntKind.wrap .i64 (x4_1 + 1))
  else none))
  else none
  else
    bif ltI 24 (x0_1.length : Int) then
    some ⟨[.bool true], [], f9_fresh⟩
  else
    some ⟨[.bool (ltI 100 x3_1)], [], f9_fresh⟩
  else
    bif ltI 24 (x0_1.length : Int) then
    some ⟨[.bool true], [], f9_fresh⟩
  else
    some ⟨[.bool (ltI 100 x3_1)], [], f9_fresh⟩ := by kernel_rfl
noncomputable def f9 (run : Run) (n : Nat) (a0_1 : List AV) : Option Res := evalK G run n f9_info.keep 0 f9_info.body (retE G f9_info) (f9_info.start [.slice a0_1])
theorem f9_eq (run : Run) (n : Nat) (a0_1 : List AV) : f9 run n a0_1 =
  f9_l0 run n n a0_1 0 0 := by kernel_rfl
theorem f9_run (ext : Run) (n : Nat) (a0_1 : List AV) : runE G ext (n + 1) 9 [.slice a0_1] = f9 (runE G ext n) n a0_1 := runE_succ f9_at f9_in

noncomputable def f69 (run : Run) (n : Nat) (a0_1 : Int) (a1_1 : Int) (a1_2 : List AV) (a1_3 : Int) (a1_4 : Int) (a1_5 : List AV) (a1_6 : Int) (a1_7 : List UInt8) (a1_8 : Int) (a1_9 : Int) (a1_10 : List AV) : Option Res := evalK G run n f69_info.keep 0 f69_info.body (retE G f69_info) (f69_info.start [.int a0_1, .agg [.int a1_1, .slice a1_2, .agg [.int a1_3, .int a1_4, .slice a1_5], .int a1_6, .str a1_7, .agg [.int a1_8, .int a1_9, .slice a1_10]]])
theorem f69_eq (run : Run) (n : Nat) (a0_1 : Int) (a1_1 : Int) (a1_2 : List AV) (a1_3 : Int) (a1_4 : Int) (a1_5 : List AV) (a1_6 : Int) (a1_7 : List UInt8) (a1_8 : Int) (a1_9 : Int) (a1_10 : List AV) : f69 run n a0_1 a1_1 a1_2 a1_3 a1_4 a1_5 a1_6 a1_7 a1_8 a1_9 a1_10 =
  bif ltI a1_1 0 then
    some ⟨[.int 15], [], f69_fresh⟩
  else
    bif leI a0_1 a1_1 then
    some ⟨[.int 15], [], f69_fresh⟩
  else
    bif ltI a1_6 0 then
    some ⟨[.int 15], [], f69_fresh⟩
  else
    bif leI (mx2 (a1_2.length : Int) 1) a1_6 then
    some ⟨[.int 15], [], f69_fresh⟩
  else
    bif ltI 0 (a1_2.length : Int) then
    bif eqI a1_1 0 then
    some ⟨[.int 15], [], f69_fresh⟩
  else
    bif ltI 1024 (a1_2.length : Int) then
    some ⟨[.int 4], [], f69_fresh⟩
  else
    some ⟨[.int 0], [], f69_fresh⟩
  else
    bif ltI 1024 (a1_2.length : Int) then
    some ⟨[.int 4], [], f69_fresh⟩
  else
    some ⟨[.int 0], [], f69_fresh⟩ := by kernel_rfl
theorem f69_run (ext : Run) (n : Nat) (a0_1 : Int) (a1_1 : Int) (a1_2 : List AV) (a1_3 : Int) (a1_4 : Int) (a1_5 : List AV) (a1_6 : Int) (a1_7 : List UInt8) (a1_8 : Int) (a1_9 : Int) (a1_10 : List AV) : runE G ext (n + 1) 69 [.int a0_1, .agg [.int a1_1, .slice a1_2, .agg [.int a1_3, .int a1_4, .slice a1_5], .int a1_6, .str a1_7, .agg [.int a1_8, .int a1_9, .slice a1_10]]] = f69 (runE G ext n) n a0_1 a1_1 a1_2 a1_3 a1_4 a1_5 a1_6 a1_7 a1_8 a1_9 a1_10 := runE_succ f69_at f69_in

noncomputable def f35 (run : Run) (n : Nat) (a0_1 : List AV) (a1_1 : Int) (a1_2 : List AV) (a1_3 : Int) (a1_4 : Int) (a1_5 : List AV) (a1_6 : Int) (a1_7 : List UInt8) (a1_8 : Int) (a1_9 : Int) (a1_10 : List AV) : Option Res := evalK G run n f35_info.keep 0 f35_info.body (retE G f35_info) (f35_info.start [.slice a0_1, .agg [.int a1_1, .slice a1_2, .agg [.int a1_3, .int a1_4, .slice a1_5], .int a1_6, .str a1_7, .agg [.int a1_8, .int a1_9, .slice a1_10]]])
theorem f35_eq (run : Run) (n : Nat) (a0_1 : List AV) (a1_1 : Int) (a1_2 : List AV) (a1_3 : Int) (a1_4 : Int) (a1_5 : List AV) (a1_6 : Int) (a1_7 : List UInt8) (a1_8 : Int) (a1_9 : Int) (a1_10 : List AV) : f35 run n a0_1 a1_1 a1_2 a1_3 a1_4 a1_5 a1_6 a1_7 a1_8 a1_9 a1_10 =
  (run 69 [.int (a0_1.length : Int), .agg [.int a1_1, .slice a1_2, .agg [.int a1_3, .int a1_4, .slice a1_5], .int a1_6, .str a1_7, .agg [.int a1_8, .int a1_9, .slice a1_10]]]).bind fun r1 =>
    nilV r1.outs (consV r1.vals fun v1 vs1 =>
    nilV vs1 (bif !(eqI v1.toInt 0) then
    some ⟨[.agg [.int 0, .blob (List.replicate 32 0), .blob (List.replicate 32 0), .int 0], .bool false], [], f35_fresh⟩
  else
    bif ltI 0 (a1_2.length : Int) then
    bif inR a1_6 a1_2.length then
    some ⟨[.agg [.int ((((nth a1_2 (Int.toNat a1_6)).fld 0).fld 0).toInt), .blob ((((nth a1_2 (Int.toNat a1_6)).fld 0).fld 1).toBlob), .blob ((((nth a1_2 (Int.toNat a1_6)).fld 0).fld 2).toBlob), .int ((((nth a1_2 (Int.toNat a1_6)).fld 0).fld 3).toInt)], .bool true], [], f35_fresh⟩
  else none
  else
    bif inR a1_1 a0_1.length then
    some ⟨[.agg [.int ((((nth a0_1 (Int.toNat a1_1)).fld 0).fld 0).toInt), .blob ((((nth a0_1 (Int.toNat a1_1)).fld 0).fld 1).toBlob), .blob ((((nth a0_1 (Int.toNat a1_1)).fld 0).fld 2).toBlob), .int ((((nth a0_1 (Int.toNat a1_1)).fld 0).fld 3).toInt)], .bool true], [], f35_fresh⟩
  else none)) := by kernel_rfl
theorem f35_run (ext : Run) (n : Nat) (a0_1 : List AV) (a1_1 : Int) (a1_2 : List AV) (a1_3 : Int) (a1_4 : Int) (a1_5 : List AV) (a1_6 : Int) (a1_7 : List UInt8) (a1_8 : Int) (a1_9 : Int) (a1_10 : List AV) : runE G ext (n + 1) 35 [.slice a0_1, .agg [.int a1_1, .slice a1_2, .agg [.int a1_3, .int a1_4, .slice a1_5], .int a1_6, .str a1_7, .agg [.int a1_8, .int a1_9, .slice a1_10]]] = f35 (runE G ext n) n a0_1 a1_1 a1_2 a1_3 a1_4 a1_5 a1_6 a1_7 a1_8 a1_9 a1_10 := runE_succ f35_at f35_in

noncomputable def f135_l0 (run : Run) (n : Nat) (k0 : Nat) (x29_1 : Int) (x30_1 : Int) (o2_1 : Int) (o2_2 : Int) (o2_3 : List AV) (o3_1 : Int) (o3_2 : Int) (o3_3 : List AV) : Option Res :=
  iterK (evalK G run n f135_keep 0 (sub [1, 1, 0, 1, 0, 0] f135_body)) f135_t0 f135_o0 (blockK 0 (seqK (evalK G run n f135_keep 0 (sub [1, 1, 1] f135_body) (retE G f135_info)) (retE G f135_info))) k0
    ⟨[.any, .any, .ptr ⟨(.struct [(.int .i64), (.int .i64), (.slice (.blob 32))]), 2, 1, []⟩, .ptr ⟨(.struct [(.int .i64), (.int .i64), (.slice (.blob 32))]), 3, 1, []⟩, .any, .any, .any, .any, .any, .any, .any, .any, .any, .any, .any, .any, .any, .any, .any, .any, .any, .any, .any, .any, .any, .any, .any, .any, .any, .val (.int .i64) none (.int x29_1), .val (.int .i64) none (.int x30_1), .any, .any, .any, .any, .any, .any, .any, .any, .any, .any, .any, .any, .any, .any], [⟨0, none⟩, ⟨0, none⟩, ⟨1, some ⟨(.struct [(.int .i64), (.int .i64), (.slice (.blob 32))]), .agg [.int o2_1, .int o2_2, .slice o2_3]⟩⟩, ⟨1, some ⟨(.struct [(.int .i64), (.int .i64), (.slice (.blob 32))]), .agg [.int o3_1, .int o3_2, .slice o3_3]⟩⟩, ⟨0, none⟩, ⟨0, none⟩, ⟨0, none⟩, ⟨0, none⟩, ⟨0, none⟩, ⟨0, none⟩, ⟨0, none⟩, ⟨0, none⟩, ⟨0, none⟩, ⟨0, none⟩, ⟨0, none⟩, ⟨0, none⟩, ⟨0, none⟩, ⟨0, none⟩, ⟨0, none⟩, ⟨0, none⟩, ⟨0, none⟩, ⟨0, none⟩, ⟨0, none⟩, ⟨0, none⟩, ⟨0, none⟩, ⟨0, none⟩, ⟨0, none⟩, ⟨0, none⟩, ⟨0, none⟩, ⟨0, none⟩, ⟨0, none⟩, ⟨0, none⟩, ⟨0, none⟩, ⟨0, none⟩, ⟨0, none⟩, ⟨0, none⟩, ⟨0, none⟩, ⟨0, none⟩, ⟨0, none⟩, ⟨0, none⟩, ⟨0, none⟩, ⟨0, none⟩, ⟨0, none⟩, ⟨0, none⟩, ⟨0, none⟩], List.replicate 45 0⟩
theorem f135_l0_eq (run : Run) (n : Nat) (k0 : Nat) (x29_1 : Int) (x30_1 : Int) (o2_1 : Int) (o2_2 : Int) (o2_3 : List AV) (o3_1 : Int) (o3_2 : Int) (o3_3 : List AV) : f135_l0 run n (k0 + 1) x29_1 x30_1 o2_1 o2_2 o2_3 o3_1 o3_2 o3_3 =
  bif ltI x30_1 x29_1 then
    bif inR x30_1 o2_3.length then
    bif inR x30_1 o3_3.length then
    bif !(eqS ((nth o2_3 (Int.toNat x30_1)).toBlob) ((nth o3_3 (Int.toNat x30_1)).toBlob)) then
    some ⟨[.bool false], [], f135_fresh⟩
  else
    f135_l0 run n k0 x29_1 (IntKind.wrap .i64 (x30_1 + 1)) o2_1 o2_2 o2_3 o3_1 o3_2 o3_3
  else none
  else none
  else
    some ⟨[.bool true], [], f135_fresh⟩ := by kernel_rfl
noncomputable def f135 (run : Run) (n : Nat) (a0_1 : Int) (a0_2 : Int) (a0_3 : List AV) (a1_1 : Int) (a1_2 : Int) (a1_3 : List AV) : Option Res := evalK G run n f135_info.keep 0 f135_info.body (retE G f135_info) (f135_info.start [.agg [.int a0_1, .int a0_2, .slice a0_3], .agg [.int a1_1, .int a1_2, .slice a1_3]])
theorem f135_eq (run : Run) (n : Nat) (a0_1 : Int) (a0_2 : Int) (a0_3 : List AV) (a1_1 : Int) (a1_2 : Int) (a1_3 : List AV) : f135 run n a0_1 a0_2 a0_3 a1_1 a1_2 a1_3 =
  bif !(eqI a0_1 a1_1) then
    some ⟨[.bool false], [], f135_fresh⟩
  else
    bif !(eqI a0_2 a1_2) then
    some ⟨[.bool false], [], f135_fresh⟩
  else
    bif !(eqI (a0_3.length : Int) (a1_3.length : Int)) then
    some ⟨[.bool false], [], f135_fresh⟩
  else
    f135_l0 run n n (a0_3.length : Int) 0 a0_1 a0_2 a0_3 a1_1 a1_2 a1_3 := by kernel_rfl
theorem f135_run (ext : Run) (n : Nat) (a0_1 : Int) (a0_2 : Int) (a0_3 : List AV) (a1_1 : Int) (a1_2 : Int) (a1_3 : List AV) : runE G ext (n + 1) 135 [.agg [.int a0_1, .int a0_2, .slice a0_3], .agg [.int a1_1, .int a1_2, .slice a1_3]] = f135 (runE G ext n) n a0_1 a0_2 a0_3 a1_1 a1_2 a1_3 := runE_succ f135_at f135_in

noncomputable def f103 (run : Run) (n : Nat) (a0_1 : Int) (a0_2 : Int) (a0_3 : List AV) : Option Res := evalK G run n f103_info.keep 0 f103_info.body (retE G f103_info) (f103_info.start [.agg [.int a0_1, .int a0_2, .slice a0_3]])
theorem f103_eq (run : Run) (n : Nat) (a0_1 : Int) (a0_2 : Int) (a0_3 : List AV) : f103 run n a0_1 a0_2 a0_3 =
  (run 135 [.agg [.int a0_1, .int a0_2, .slice a0_3], .agg [.int 0, .int 0, .slice []]]).bind fun r1 =>
    nilV r1.outs (consV r1.vals fun v1 vs1 =>
    nilV vs1 (some ⟨[.bool v1.toBool], [], f103_fresh⟩)) := by kernel_rfl
theorem f103_run (ext : Run) (n : Nat) (a0_1 : Int) (a0_2 : Int) (a0_3 : List AV) : runE G ext (n + 1) 103 [.agg [.int a0_1, .int a0_2, .slice a0_3]] = f103 (runE G ext n) n a0_1 a0_2 a0_3 := runE_succ f103_at f103_in

noncomputable def f33 (run : Run) (n : Nat) (a0_1 : Int) (a0_2 : List UInt8) (a0_3 : List UInt8) (a0_4 : Int) (a1_1 : Int) (a1_2 : List UInt8) (a1_3 : List UInt8) (a1_4 : Int) : Option Res := evalK G run n f33_info.keep 0 f33_info.body (retE G f33_info) (f33_info.start [.agg [.int a0_1, .blob a0_2, .blob a0_3, .int a0_4], .agg [.int a1_1, .blob a1_2, .blob a1_3, .int a1_4]])
theorem f33_eq (run : Run) (n : Nat) (a0_1 : Int) (a0_2 : List UInt8) (a0_3 : List UInt8) (a0_4 : Int) (a1_1 : Int) (a1_2 : List UInt8) (a1_3 : List UInt8) (a1_4 : Int) : f33 run n a0_1 a0_2 a0_3 a0_4 a1_1 a1_2 a1_3 a1_4 =
  some ⟨[.bool (ltI a1_1 a0_1)], [], f33_fresh⟩ := by kernel_rfl
theorem f33_run (ext : Run) (n : Nat) (a0_1 : Int) (a0_2 : List UInt8) (a0_3 : List UInt8) (a0_4 : Int) (a1_1 : Int) (a1_2 : List UInt8) (a1_3 : List UInt8) (a1_4 : Int) : runE G ext (n + 1) 33 [.agg [.int a0_1, .blob a0_2, .blob a0_3, .int a0_4], .agg [.int a1_1, .blob a1_2, .blob a1_3, .int a1_4]] = f33 (runE G ext n) n a0_1 a0_2 a0_3 a0_4 a1_1 a1_2 a1_3 a1_4 := runE_succ f33_at f33_in

noncomputable def f174_l0 (run : Run) (n : Nat) (k0 : Nat) (x0_1 : Int) (x1_1 : Int) (m1 : Nat) (x9_1 : Int) (x10_1 : Int) (o8_1 : List AV) : Option Res :=
  iterK (evalK G run n f174_keep 0 (sub [1, 1, 0, 1, 0, 0] f174_body)) f174_t0 f174_o0 (blockK 0 (seqK (evalK G run n f174_keep 0 (sub [1, 1, 1] f174_body) (retE G f174_info)) (retE G f174_info))) k0
    ⟨[.val (.int .u64) none (.int x0_1), .val (.int .i64) none (.int x1_1), .any, .any, .any, .ref ⟨(.arr m1 (.int .u8)), 8, 1, []⟩ 0 m1, .any, .any, .any, .val (.int .i64) none (.int x9_1), .val (.int .i64) none (.int x10_1), .any, .any, .any, .any, .any, .any, .any, .any, .any, .any, .any, .any, .any, .any, .any], [⟨0, none⟩, ⟨0, none⟩, ⟨0, none⟩, ⟨0, none⟩, ⟨0, none⟩, ⟨0, none⟩, ⟨0, none⟩, ⟨0, none⟩, ⟨1, some ⟨(.arr m1 (.int .u8)), .agg o8_1⟩⟩, ⟨0, none⟩, ⟨0, none⟩, ⟨0, none⟩, ⟨0, none⟩, ⟨0, none⟩, ⟨0, none⟩, ⟨0, none⟩, ⟨0, none⟩, ⟨0, none⟩, ⟨0, none⟩, ⟨0, none⟩, ⟨0, none⟩, ⟨0, none⟩, ⟨0, none⟩, ⟨0, none⟩, ⟨0, none⟩, ⟨0, none⟩], List.replicate 26 0⟩
theorem f174_l0_eq (run : Run) (n : Nat) (k0 : Nat) (x0_1 : Int) (x1_1 : Int) (m1 : Nat) (x9_1 : Int) (x10_1 : Int) (o8_1 : List AV) : f174_l0 run n (k0 + 1) x0_1 x1_1 m1 x9_1 x10_1 o8_1 =
  bif ltI x10_1 x9_1 then
    bif inR (IntKind.wrap .i64 (IntKind.wrap .i64 (x1_1 - 1) - x10_1)) m1 then
    f174_l0 run n k0 (Int.fdiv x0_1 (2 ^ 8)) x1_1 m1 x9_1 (IntKind.wrap .i64 (x10_1 + 1)) (o8_1.set (0 + (Int.toNat (IntKind.wrap .i64 (IntKind.wrap .i64 (x1_1 - 1) - x10_1)))) (.int (IntKind.wrap .u8 x0_1)))
  else none
  else
    some ⟨[.str (bytesOf (List.drop 0 (List.take m1 o8_1)))], [], f174_fresh⟩ := by kernel_rfl
noncomputable def f174 (run : Run) (n : Nat) (a0_1 : Int) (a1_1 : Int) : Option Res := evalK G run n f174_info.keep 0 f174_info.body (retE G f174_info) (f174_info.start [.int a0_1, .int a1_1])
theorem f174_eq (run : Run) (n : Nat) (a0_1 : Int) (a1_1 : Int) : f174 run n a0_1 a1_1 =
  bif eqI a1_1 a1_1 && leI 0 a1_1 && Nat.ble (Int.toNat a1_1 * 1) 140737488355328 then
    f174_l0 run n n a0_1 a1_1 (Int.toNat a1_1) a1_1 0 (List.replicate (Int.toNat a1_1) (.int 0))
  else none := by kernel_rfl
theorem f174_run (ext : Run) (n : Nat) (a0_1 : Int) (a1_1 : Int) : runE G ext (n + 1) 174 [.int a0_1, .int a1_1] = f174 (runE G ext n) n a0_1 a1_1 := runE_succ f174_at f174_in

noncomputable def f144 (run : Run) (n : Nat) (a0_1 : Int) : Option Res := evalK G run n f144_info.keep 0 f144_info.body (retE G f144_info) (f144_info.start [.int a0_1])
theorem f144_eq (run : Run) (n : Nat) (a0_1 : Int) : f144 run n a0_1 =
  (run 174 [.int (IntKind.wrap .u64 a0_1), .int 4]).bind fun r1 =>
    nilV r1.outs (consV r1.vals fun v1 vs1 =>
    nilV vs1 (some ⟨[.str v1.toStr], [], f144_fresh⟩)) := by kernel_rfl
theorem f144_run (ext : Run) (n : Nat) (a0_1 : Int) : runE G ext (n + 1) 144 [.int a0_1] = f144 (runE G ext n) n a0_1 := runE_succ f144_at f144_in

noncomputable def f145 (run : Run) (n : Nat) (a0_1 : Int) : Option Res := evalK G run n f145_info.keep 0 f145_info.body (retE G f145_info) (f145_info.start [.int a0_1])
theorem f145_eq (run : Run) (n : Nat) (a0_1 : Int) : f145 run n a0_1 =
  (run 174 [.int a0_1, .int 8]).bind fun r1 =>
    nilV r1.outs (consV r1.vals fun v1 vs1 =>
    nilV vs1 (some ⟨[.str v1.toStr], [], f145_fresh⟩)) := by kernel_rfl
theorem f145_run (ext : Run) (n : Nat) (a0_1 : Int) : runE G ext (n + 1) 145 [.int a0_1] = f145 (runE G ext n) n a0_1 := runE_succ f145_at f145_in

noncomputable def f115 (run : Run) (n : Nat) (a0_1 : Int) (a0_2 : List UInt8) (a0_3 : List UInt8) (a0_4 : Int) : Option Res := evalK G run n f115_info.keep 0 f115_info.body (retE G f115_info) (f115_info.start [.agg [.int a0_1, .blob a0_2, .blob a0_3, .int a0_4]])
theorem f115_eq (run : Run) (n : Nat) (a0_1 : Int) (a0_2 : List UInt8) (a0_3 : List UInt8) (a0_4 : Int) : f115 run n a0_1 a0_2 a0_3 a0_4 =
  (run 144 [.int a0_1]).bind fun r1 =>
    nilV r1.outs (consV r1.vals fun v1 vs1 =>
    nilV vs1 (bif Nat.ble (v1.toStr.length + (bytesOf (List.drop 0 (List.take 32 (ofBytes a0_2)))).length) maxLen then
    bif Nat.ble ((v1.toStr ++ (bytesOf (List.drop 0 (List.take 32 (ofBytes a0_2))))).length + (bytesOf (List.drop 0 (List.take 32 (ofBytes a0_3)))).length) maxLen then
    (run 145 [.int a0_4]).bind fun r2 =>
    nilV r2.outs (consV r2.vals fun v2 vs2 =>
    nilV vs2 (bif Nat.ble (((v1.toStr ++ (bytesOf (List.drop 0 (List.take 32 (ofBytes a0_2))))) ++ (bytesOf (List.drop 0 (List.take 32 (ofBytes a0_3))))).length + v2.toStr.length) maxLen then
    some ⟨[.str (((v1.toStr ++ (bytesOf (List.drop 0 (List.take 32 (ofBytes a0_2))))) ++ (bytesOf (List.drop 0 (List.take 32 (ofBytes a0_3))))) ++ v2.toStr)], [], f115_fresh⟩
  else none))
  else none
  else none)) := by kernel_rfl
theorem f115_run (ext : Run) (n : Nat) (a0_1 : Int) (a0_2 : List UInt8) (a0_3 : List UInt8) (a0_4 : Int) : runE G ext (n + 1) 115 [.agg [.int a0_1, .blob a0_2, .blob a0_3, .int a0_4]] = f115 (runE G ext n) n a0_1 a0_2 a0_3 a0_4 := runE_succ f115_at f115_in

noncomputable def f173 (run : Run) (n : Nat) (a0_1 : Int) (a1_1 : List AV) : Option Res := evalK G run n f173_info.keep 0 f173_info.body (retE G f173_info) (f173_info.start [.int a0_1, .slice a1_1])
theorem f173_eq (run : Run) (n : Nat) (a0_1 : Int) (a1_1 : List AV) : f173 run n a0_1 a1_1 =
  (run 195 [.slice a1_1, .str []]).bind fun r1 =>
    nilV r1.outs (consV r1.vals fun v1 vs1 =>
    nilV vs1 (bif Nat.ble ((bytesOf [.int a0_1]).length + v1.toStr.length) maxLen then
    some ⟨[.str ((bytesOf [.int a0_1]) ++ v1.toStr)], [], f173_fresh⟩
  else none)) := by kernel_rfl
theorem f173_run (ext : Run) (n : Nat) (a0_1 : Int) (a1_1 : List AV) : runE G ext (n + 1) 173 [.int a0_1, .slice a1_1] = f173 (runE G ext n) n a0_1 a1_1 := runE_succ f173_at f173_in

noncomputable def f143 (run : Run) (n : Nat) (a0_1 : List UInt8) : Option Res := evalK G run n f143_info.keep 0 f143_info.body (retE G f143_info) (f143_info.start [.str a0_1])
theorem f143_eq (run : Run) (n : Nat) (a0_1 : List UInt8) : f143 run n a0_1 =
  (run 173 [.int 3, .slice [.str a0_1]]).bind fun r1 =>
    nilV r1.outs (consV r1.vals fun v1 vs1 =>
    nilV vs1 (some ⟨[.str v1.toStr], [], f143_fresh⟩)) := by kernel_rfl
theorem f143_run (ext : Run) (n : Nat) (a0_1 : List UInt8) : runE G ext (n + 1) 143 [.str a0_1] = f143 (runE G ext n) n a0_1 := runE_succ f143_at f143_in

noncomputable def f170 (run : Run) (n : Nat) : Option Res := evalK G run n f170_info.keep 0 f170_info.body (retE G f170_info) (f170_info.start [])
theorem f170_eq (run : Run) (n : Nat) : f170 run n  =
  some ⟨[.agg [.agg (List.replicate 8 (.int 0)), .str [], .int 0, .bool false]], [], f170_fresh⟩ := by kernel_rfl
theorem f170_run (ext : Run) (n : Nat) : runE G ext (n + 1) 170 [] = f170 (runE G ext n) n  := runE_succ f170_at f170_in

noncomputable def f192 (run : Run) (n : Nat) : Option Res := evalK G run n f192_info.keep 0 f192_info.body (retE G f192_info) (f192_info.start [])
theorem f192_eq (run : Run) (n : Nat) : f192 run n  =
  some ⟨[.agg [.int 1779033703, .int 3144134277, .int 1013904242, .int 2773480762, .int 1359893119, .int 2600822924, .int 528734635, .int 1541459225]], [], f192_fresh⟩ := by kernel_rfl
theorem f192_run (ext : Run) (n : Nat) : runE G ext (n + 1) 192 [] = f192 (runE G ext n) n  := runE_succ f192_at f192_in

noncomputable def f141_l0 (run : Run) (n : Nat) (k0 : Nat) (x0_1 : List UInt8) (x1_1 : Int) (x7_1 : Int) (x9_1 : Int) (x10_1 : Int) : Option Res :=
  iterK (evalK G run n f141_keep 0 (sub [1, 1, 0, 1, 0, 0] f141_body)) f141_t0 f141_o0 (blockK 0 (seqK (evalK G run n f141_keep 0 (sub [1, 1, 1] f141_body) (retE G f141_info)) (retE G f141_info))) k0
    ⟨[.val .str none (.str x0_1), .val (.int .i64) none (.int x1_1), .any, .any, .any, .any, .any, .val (.int .u64) none (.int x7_1), .any, .val (.int .i64) none (.int x9_1), .val (.int .i64) none (.int x10_1), .any, .any, .any, .any, .any, .any, .any, .any, .any, .any, .any, .any, .any, .any, .any, .any, .any, .any, .any, .any, .any, .any, .any, .any, .any, .any, .any, .any, .any, .any], [⟨0, none⟩, ⟨0, none⟩, ⟨0, none⟩, ⟨0, none⟩, ⟨0, none⟩, ⟨0, none⟩, ⟨0, none⟩, ⟨0, none⟩, ⟨0, none⟩, ⟨0, none⟩, ⟨0, none⟩, ⟨0, none⟩, ⟨0, none⟩, ⟨0, none⟩, ⟨0, none⟩, ⟨0, none⟩, ⟨0, none⟩, ⟨0, none⟩, ⟨0, none⟩, ⟨0, none⟩, ⟨0, none⟩, ⟨0, none⟩, ⟨0, none⟩, ⟨0, none⟩, ⟨0, none⟩, ⟨0, none⟩, ⟨0, none⟩, ⟨0, none⟩, ⟨0, none⟩, ⟨0, none⟩, ⟨0, none⟩, ⟨0, none⟩, ⟨0, none⟩, ⟨0, none⟩, ⟨0, none⟩, ⟨0, none⟩, ⟨0, none⟩, ⟨0, none⟩, ⟨0, none⟩, ⟨0, none⟩, ⟨0, none⟩], List.replicate 41 0⟩
theorem f141_l0_eq (run : Run) (n : Nat) (k0 : Nat) (x0_1 : List UInt8) (x1_1 : Int) (x7_1 : Int) (x9_1 : Int) (x10_1 : Int) : f141_l0 run n (k0 + 1) x0_1 x1_1 x7_1 x9_1 x10_1 =
  bif ltI x10_1 x9_1 then
    bif leI 0 x1_1 then
    bif ltI x1_1 (x0_1.length : Int) then
    bif ltI x10_1 (IntKind.wrap .i64 ((x0_1.length : Int) - x1_1)) then
    bif inR (IntKind.wrap .i64 (x1_1 + x10_1)) x0_1.length then
    f141_l0 run n k0 x0_1 x1_1 (IntKind.wrap .u64 (BitVec.toNat (BitVec.ofInt 64 (IntKind.wrap .u64 (x7_1 * 2 ^ 8)) ||| BitVec.ofInt 64 (IntKind.wrap .u64 ((x0_1.getD (Int.toNat (IntKind.wrap .i64 (x1_1 + x10_1))) 0).toNat : Int))))) x9_1 (IntKind.wrap .i64 (x10_1 + 1))
  else none
  else
    f141_l0 run n k0 x0_1 x1_1 (IntKind.wrap .u64 (x7_1 * 2 ^ 8)) x9_1 (IntKind.wrap .i64 (x10_1 + 1))
  else
    f141_l0 run n k0 x0_1 x1_1 (IntKind.wrap .u64 (x7_1 * 2 ^ 8)) x9_1 (IntKind.wrap .i64 (x10_1 + 1))
  else
    f141_l0 run n k0 x0_1 x1_1 (IntKind.wrap .u64 (x7_1 * 2 ^ 8)) x9_1 (IntKind.wrap .i64 (x10_1 + 1))
  else
    some ⟨[.int x7_1], [], f141_fresh⟩ := by kernel_rfl
noncomputable def f141 (run : Run) (n : Nat) (a0_1 : List UInt8) (a1_1 : Int) (a2_1 : Int) : Option Res := evalK G run n f141_info.keep 0 f141_info.body (retE G f141_info) (f141_info.start [.str a0_1, .int a1_1, .int a2_1])
theorem f141_eq (run : Run) (n : Nat) (a0_1 : List UInt8) (a1_1 : Int) (a2_1 : Int) : f141 run n a0_1 a1_1 a2_1 =
  f141_l0 run n n a0_1 a1_1 0 a2_1 0 := by kernel_rfl
theorem f141_run (ext : Run) (n : Nat) (a0_1 : List UInt8) (a1_1 : Int) (a2_1 : Int) : runE G ext (n + 1) 141 [.str a0_1, .int a1_1, .int a2_1] = f141 (runE G ext n) n a0_1 a1_1 a2_1 := runE_succ f141_at f141_in

noncomputable def f218 (run : Run) (n : Nat) (a0_1 : List UInt8) (a1_1 : Int) : Option Res := evalK G run n f218_info.keep 0 f218_info.body (retE G f218_info) (f218_info.start [.str a0_1, .int a1_1])
theorem f218_eq (run : Run) (n : Nat) (a0_1 : List UInt8) (a1_1 : Int) : f218 run n a0_1 a1_1 =
  (run 141 [.str a0_1, .int a1_1, .int 4]).bind fun r1 =>
    nilV r1.outs (consV r1.vals fun v1 vs1 =>
    nilV vs1 (some ⟨[.int (IntKind.wrap .u32 v1.toInt)], [], f218_fresh⟩)) := by kernel_rfl
theorem f218_run (ext : Run) (n : Nat) (a0_1 : List UInt8) (a1_1 : Int) : runE G ext (n + 1) 218 [.str a0_1, .int a1_1] = f218 (runE G ext n) n a0_1 a1_1 := runE_succ f218_at f218_in

noncomputable def f210 (run : Run) (n : Nat) (a0_1 : Int) (a1_1 : Int) : Option Res := evalK G run n f210_info.keep 0 f210_info.body (retE G f210_info) (f210_info.start [.int a0_1, .int a1_1])
theorem f210_eq (run : Run) (n : Nat) (a0_1 : Int) (a1_1 : Int) : f210 run n a0_1 a1_1 =
  bif leI 0 (IntKind.wrap .u64 (BitVec.toNat (BitVec.ofInt 64 (IntKind.wrap .u64 a1_1) &&& BitVec.ofInt 64 31))) then
    bif leI 0 (IntKind.wrap .u64 (32 - IntKind.wrap .u64 (BitVec.toNat (BitVec.ofInt 64 (IntKind.wrap .u64 a1_1) &&& BitVec.ofInt 64 31)))) then
    some ⟨[.int (IntKind.wrap .u32 (BitVec.toNat (BitVec.ofInt 32 (Int.fdiv a0_1 (2 ^ (min (Int.toNat (IntKind.wrap .u64 (BitVec.toNat (BitVec.ofInt 64 (IntKind.wrap .u64 a1_1) &&& BitVec.ofInt 64 31)))) 32))) ||| BitVec.ofInt 32 (IntKind.wrap .u32 (a0_1 * 2 ^ (min (Int.toNat (IntKind.wrap .u64 (32 - IntKind.wrap .u64 (BitVec.toNat (BitVec.ofInt 64 (IntKind.wrap .u64 a1_1) &&& BitVec.ofInt 64 31))))) 32))))))], [], f210_fresh⟩
  else none
  else none := by kernel_rfl
theorem f210_run (ext : Run) (n : Nat) (a0_1 : Int) (a1_1 : Int) : runE G ext (n + 1) 210 [.int a0_1, .int a1_1] = f210 (runE G ext n) n a0_1 a1_1 := runE_succ f210_at f210_in

noncomputable def f208_l0 (run : Run) (n : Nat) (k0 : Nat) (x0_1 : List UInt8) (x9_1 : Int) (o2_1 : List AV) (o3_1 : List AV) : Option Res :=
  iterK (evalK G run n f208_keep 0 (sub [1, 1, 0, 1, 0, 0] f208_body)) f208_t0 f208_o0 (blockK 0 (seqK (evalK G run n f208_keep 0 (sub [1, 1, 1] f208_body) (retE G f208_info)) (retE G f208_info))) k0
    ⟨[.val .str none (.str x0_1), .any, .ptr ⟨(.arr 64 (.int .u32)), 2, 1, []⟩, .ptr ⟨(.arr 64 (.int .u32)), 3, 1, []⟩, .any, .any, .any, .any, .any, .val (.int .i64) none (.int x9_1), .any, .any, .any, .any, .any, .any, .any, .any, .any, .any, .any, .any, .any, .any, .any, .any, .any, .any, .any, .any, .any, .any, .any, .any, .any, .any, .any, .any, .any, .any, .any, .any, .any, .any, .any, .any, .any, .any, .any, .any, .any, .any, .any, .any, .any, .any, .any, .any, .any, .any, .any], [⟨0, none⟩, ⟨0, none⟩, ⟨1, some ⟨(.arr 64 (.int .u32)), .agg o2_1⟩⟩, ⟨1, some ⟨(.arr 64 (.int .u32)), .agg o3_1⟩⟩, ⟨0, none⟩, ⟨0, none⟩, ⟨0, none⟩, ⟨0, none⟩, ⟨0, none⟩, ⟨0, none⟩, ⟨0, none⟩, ⟨0, none⟩, ⟨0, none⟩, ⟨0, none⟩, ⟨0, none⟩, ⟨0, none⟩, ⟨0, none⟩, ⟨0, none⟩, ⟨0, none⟩, ⟨0, none⟩, ⟨0, none⟩, ⟨0, none⟩, ⟨0, none⟩, ⟨0, none⟩, ⟨0, none⟩, ⟨0, none⟩, ⟨0, none⟩, ⟨0, none⟩, ⟨0, none⟩, ⟨0, none⟩, ⟨0, none⟩, ⟨0, none⟩, ⟨0, none⟩, ⟨0, none⟩, ⟨0, none⟩, ⟨0, none⟩, ⟨0, none⟩, ⟨0, none⟩, ⟨0, none⟩, ⟨0, none⟩, ⟨0, none⟩, ⟨0, none⟩, ⟨0, none⟩, ⟨0, none⟩, ⟨0, none⟩, ⟨0, none⟩, ⟨0, none⟩, ⟨0, none⟩, ⟨0, none⟩, ⟨0, none⟩, ⟨0, none⟩, ⟨0, none⟩, ⟨0, none⟩, ⟨0, none⟩, ⟨0, none⟩, ⟨0, none⟩, ⟨0, none⟩, ⟨0, none⟩, ⟨0, none⟩, ⟨0, none⟩, ⟨0, none⟩], List.replicate 61 0⟩
theorem f208_l0_eq (run : Run) (n : Nat) (k0 : Nat) (x0_1 : List UInt8) (x9_1 : Int) (o2_1 : List AV) (o3_1 : List AV) : f208_l0 run n (k0 + 1) x0_1 x9_1 o2_1 o3_1 =
  bif ltI x9_1 64 then
    bif ltI x9_1 16 then
    (run 218 [.str x0_1, .int (IntKind.wrap .i64 (4 * x9_1))]).bind fun r1 =>
    nilV r1.outs (consV r1.vals fun v1 vs1 =>
    nilV vs1 (bif inR x9_1 64 then
    f208_l0 run n k0 x0_1 (IntKind.wrap .i64 (x9_1 + 1)) o2_1 (o3_1.set (Int.toNat x9_1) (.int v1.toInt))
  else none))
  else
    bif inR (IntKind.wrap .i64 (x9_1 - 15)) 64 then
    bif inR (IntKind.wrap .i64 (x9_1 - 2)) 64 then
    (run 210 [.int ((AV.fld (.agg o3_1) (Int.toNat (IntKind.wrap .i64 (x9_1 - 15)))).toInt), .int 7]).bind fun r2 =>
    nilV r2.outs (consV r2.vals fun v2 vs2 =>
    nilV vs2 ((run 210 [.int ((AV.fld (.agg o3_1) (Int.toNat (IntKind.wrap .i64 (x9_1 - 15)))).toInt), .int 18]).bind fun r3 =>
    nilV r3.outs (consV r3.vals fun v3 vs3 =>
    nilV vs3 ((run 210 [.int ((AV.fld (.agg o3_1) (Int.toNat (IntKind.wrap .i64 (x9_1 - 2)))).toInt), .int 17]).bind fun r4 =>
    nilV r4.outs (consV r4.vals fun v4 vs4 =>
    nilV vs4 ((run 210 [.int ((AV.fld (.agg o3_1) (Int.toNat (IntKind.wrap .i64 (x9_1 - 2)))).toInt), .int 19]).bind fun r5 =>
    nilV r5.outs (consV r5.vals fun v5 vs5 =>
    nilV vs5 (bif inR (IntKind.wrap .i64 (x9_1 - 16)) 64 then
    bif inR (IntKind.wrap .i64 (x9_1 - 7)) 64 then
    bif inR x9_1 64 then
    f208_l0 run n k0 x0_1 (IntKind.wrap .i64 (x9_1 + 1)) o2_1 (o3_1.set (Int.toNat x9_1) (.int (IntKind.wrap .u32 (IntKind.wrap .u32 (IntKind.wrap .u32 ((AV.fld (.agg o3_1) (Int.toNat (IntKind.wrap .i64 (x9_1 - 16)))).toInt + IntKind.wrap .u32 (BitVec.toNat (BitVec.ofInt 32 (IntKind.wrap .u32 (BitVec.toNat (BitVec.ofInt 32 v2.toInt ^^^ BitVec.ofInt 32 v3.toInt))) ^^^ BitVec.ofInt 32 (Int.fdiv ((AV.fld (.agg o3_1) (Int.toNat (IntKind.wrap .i64 (x9_1 - 15)))).toInt) (2 ^ 3))))) + (AV.fld (.agg o3_1) (Int.toNat (IntKind.wrap .i64 (x9_1 - 7)))).toInt) + IntKind.wrap .u32 (BitVec.toNat (BitVec.ofInt 32 (IntKind.wrap .u32 (BitVec.toNat (BitVec.ofInt 32 v4.toInt ^^^ BitVec.ofInt 32 v5.toInt))) ^^^ BitVec.ofInt 32 (Int.fdiv ((AV.fld (.agg o3_1) (Int.toNat (IntKind.wrap .i64 (x9_1 - 2)))).toInt) (2 ^ 10))))))))
  else none
  else none
  else none))))))))
  else none
  else none
  else
    some ⟨[.agg o3_1], [], f208_fresh⟩ := by kernel_rfl
noncomputable def f208 (run : Run) (n : Nat) (a0_1 : List UInt8) : Option Res := evalK G run n f208_info.keep 0 f208_info.body (retE G f208_info) (f208_info.start [.str a0_1])
theorem f208_eq (run : Run) (n : Nat) (a0_1 : List UInt8) : f208 run n a0_1 =
  f208_l0 run n n a0_1 0 (List.replicate 64 (.int 0)) (List.replicate 64 (.int 0)) := by kernel_rfl
theorem f208_run (ext : Run) (n : Nat) (a0_1 : List UInt8) : runE G ext (n + 1) 208 [.str a0_1] = f208 (runE G ext n) n a0_1 := runE_succ f208_at f208_in

noncomputable def f209 (run : Run) (n : Nat) : Option Res := evalK G run n f209_info.keep 0 f209_info.body (retE G f209_info) (f209_info.start [])
theorem f209_eq (run : Run) (n : Nat) : f209 run n  =
  some ⟨[.agg [.int 1116352408, .int 1899447441, .int 3049323471, .int 3921009573, .int 961987163, .int 1508970993, .int 2453635748, .int 2870763221, .int 3624381080, .int 310598401, .int 607225278, .int 1426881987, .int 1925078388, .int 2162078206, .int 2614888103, .int 3248222580, .int 3835390401, .int 4022224774, .int 264347078, .int 604807628, .int 770255983, .int 1249150122, .int 1555081692, .int 1996064986, .int 2554220882, .int 2821834349, .int 2952996808, .int 3210313671, .int 3336571891, .int 3584528711, .int 113926993, .int 338241895, .int 666307205, .int 773529912, .int 1294757372, .int 1396182291, .int 1695183700, .int 1986661051, .int 2177026350, .int 2456956037, .int 2730485921, .int 2820302411, .int 3259730800, .int 3345764771, .int 3516065817, .int 3600352804, .int 4094571909, .int 275423344, .int 430227734, .int 506948616, .int 659060556, .int 883997877, .int 958139571, .int 1322822218, .int 1537002063, .int 1747873779, .int 1955562222, .int 2024104815, .int 2227730452, .int 2361852424, .int 2428436474, .int 2756734187, .int 3204031479, .int 3329325298]], [], f209_fresh⟩ := by kernel_rfl
theorem f209_run (ext : Run) (n : Nat) : runE G ext (n + 1) 209 [] = f209 (runE G ext n) n  := runE_succ f209_at f209_in

noncomputable def f193_l2 (run : Run) (n : Nat) (_k0 : Nat) (k2 : Nat) (x109_1 : Int) (o2_3 : List AV) (o4_3 : List AV) (o7_3 : List AV) : Option Res :=
  iterK (evalK G run n f193_keep 2 (sub [1, 1, 1, 1, 0, 1, 0, 0] f193_body)) f193_t2 f193_o2 (blockK 2 (seqK (evalK G run n f193_keep 0 (sub [1, 1, 1, 1, 1] f193_body) (retE G f193_info)) (retE G f193_info))) k2
    ⟨[.any, .any, .ptr ⟨(.arr 8 (.int .u32)), 2, 1, []⟩, .any, .ptr ⟨(.arr 8 (.int .u32)), 4, 1, []⟩, .any, .any, .ptr ⟨(.arr 8 (.int .u32)), 7, 1, []⟩, .any, .any, .any, .any, .any, .any, .any, .any, .any, .any, .any, .any, .any, .any, .any, .any, .any, .any, .any, .any, .any, .any, .any, .any, .any, .any, .any, .any, .any, .any, .any, .any, .any, .any, .any, .any, .any, .any, .any, .any, .any, .any, .any, .any, .any, .any, .any, .any, .any, .any, .any, .any, .any, .any, .any, .any, .any, .any, .any, .any, .any, .any, .any, .any, .any, .any, .any, .any, .any, .any, .any, .any, .any, .any, .any, .any, .any, .any, .any, .any, .any, .any, .any, .any, .any, .any, .any, .any, .any, .any, .any, .any, .any, .any, .any, .any, .any, .any, .any, .any, .any, .val (.int .i64) none (.int x109_1), .any, .any, .any, .any, .any, .any, .any, .any, .any, .any, .any, .any], [⟨0, none⟩, ⟨0, none⟩, ⟨1, some ⟨(.arr 8 (.int .u32)), .agg o2_3⟩⟩, ⟨0, none⟩, ⟨1, some ⟨(.arr 8 (.int .u32)), .agg o4_3⟩⟩, ⟨0, none⟩, ⟨0, none⟩, ⟨1, some ⟨(.arr 8 (.int .u32)), .agg o7_3⟩⟩, ⟨0, none⟩, ⟨0, none⟩, ⟨0, none⟩, ⟨0, none⟩, ⟨0, none⟩, ⟨0, none⟩, ⟨0, none⟩, ⟨0, none⟩, ⟨0, none⟩, ⟨0, none⟩, ⟨0, none⟩, ⟨0, none⟩, ⟨0, none⟩, ⟨0, none⟩, ⟨0, none⟩, ⟨0, none⟩, ⟨0, none⟩, ⟨0, none⟩, ⟨0, none⟩, ⟨0, none⟩, ⟨0, none⟩, ⟨0, none⟩, ⟨0, none⟩, ⟨0, none⟩, ⟨0, none⟩, ⟨0, none⟩, ⟨0, none⟩, ⟨0, none⟩, ⟨0, none⟩, ⟨0, none⟩, ⟨0, none⟩, ⟨0, none⟩, ⟨0, none⟩, ⟨0, none⟩, ⟨0, none⟩, ⟨0, none⟩, ⟨0, none⟩, ⟨0, none⟩, ⟨0, none⟩, ⟨0, none⟩, ⟨0, none⟩, ⟨0, none⟩, ⟨0, none⟩, ⟨0, none⟩, ⟨0, none⟩, ⟨0, none⟩, ⟨0, none⟩, ⟨0, none⟩, ⟨0, none⟩, ⟨0, none⟩, ⟨0, none⟩, ⟨0, none⟩, ⟨0, none⟩, ⟨0, none⟩, ⟨0, none⟩, ⟨0, none⟩, ⟨0, none⟩, ⟨0, none⟩, ⟨0, none⟩, ⟨0, none⟩, ⟨0, none⟩, ⟨0, none⟩, ⟨0, none⟩, ⟨0, none⟩, ⟨0, none⟩, ⟨0, none⟩, ⟨0, none⟩, ⟨0, none⟩, ⟨0, none⟩, ⟨0, none⟩, ⟨0, none⟩, ⟨0, none⟩, ⟨0, none⟩, ⟨0, none⟩, ⟨0, none⟩, ⟨0, none⟩, ⟨0, none⟩, ⟨0, none⟩, ⟨0, none⟩, ⟨0, none⟩, ⟨0, none⟩, ⟨0, none⟩, ⟨0, none⟩, ⟨0, none⟩, ⟨0, none⟩, ⟨0, none⟩, ⟨0, none⟩, ⟨0, none⟩, ⟨0, none⟩, ⟨0, none⟩, ⟨0, none⟩, ⟨0, none⟩, ⟨0, none⟩, ⟨0, none⟩, ⟨0, none⟩, ⟨0, none⟩, ⟨0, none⟩, ⟨0, none⟩, ⟨0, none⟩, ⟨0, none⟩, ⟨0, none⟩, ⟨0, none⟩, ⟨0, none⟩, ⟨0, none⟩, ⟨0, none⟩, ⟨0, none⟩, ⟨0, none⟩, ⟨0, none⟩, ⟨0, none⟩, ⟨0, none⟩, ⟨0, none⟩, ⟨0, none⟩, ⟨0, none⟩, ⟨0, none⟩], List.replicate 122 0⟩
noncomputable def f193_l0 (run : Run) (n : Nat) (k0 : Nat) (x18_1 : Int) (o2_1 : List AV) (o4_1 : List AV) (o5_1 : List AV) (o6_1 : List AV) (o7_1 : List AV) : Option Res :=
  iterK (evalK G run n f193_keep 0 (sub [1, 1, 1, 0, 1, 0, 0] f193_body)) f193_t0 f193_o0 (blockK 0 (seqK (evalK G run n f193_keep 0 (sub [1, 1, 1, 1] f193_body) (retE G f193_info)) (retE G f193_info))) k0
    ⟨[.any, .any, .ptr ⟨(.arr 8 (.int .u32)), 2, 1, []⟩, .any, .ptr ⟨(.arr 8 (.int .u32)), 4, 1, []⟩, .ptr ⟨(.arr 64 (.int .u32)), 5, 1, []⟩, .ptr ⟨(.arr 64 (.int .u32)), 6, 1, []⟩, .ptr ⟨(.arr 8 (.int .u32)), 7, 1, []⟩, .any, .any, .any, .any, .any, .any, .any, .any, .any, .any, .val (.int .i64) none (.int x18_1), .any, .any, .any, .any, .any, .any, .any, .any, .any, .any, .any, .any, .any, .any, .any, .any, .any, .any, .any, .any, .any, .any, .any, .any, .any, .any, .any, .any, .any, .any, .any, .any, .any, .any, .any, .any, .any, .any, .any, .any, .any, .any, .any, .any, .any, .any, .any, .any, .any, .any, .any, .any, .any, .any, .any, .any, .any, .any, .any, .any, .any, .any, .any, .any, .any, .any, .any, .any, .any, .any, .any, .any, .any, .any, .any, .any, .any, .any, .any, .any, .any, .any, .any, .any, .any, .any, .any, .any, .any, .any, .any, .any, .any, .any, .any, .any, .any, .any, .any, .any, .any, .any, .any], [⟨0, none⟩, ⟨0, none⟩, ⟨1, some ⟨(.arr 8 (.int .u32)), .agg o2_1⟩⟩, ⟨0, none⟩, ⟨1, some ⟨(.arr 8 (.int .u32)), .agg o4_1⟩⟩, ⟨1, some ⟨(.arr 64 (.int .u32)), .agg o5_1⟩⟩, ⟨1, some ⟨(.arr 64 (.int .u32)), .agg o6_1⟩⟩, ⟨1, some ⟨(.arr 8 (.int .u32)), .agg o7_1⟩⟩, ⟨0, none⟩, ⟨0, none⟩, ⟨0, none⟩, ⟨0, none⟩, ⟨0, none⟩, ⟨0, none⟩, ⟨0, none⟩, ⟨0, none⟩, ⟨0, none⟩, ⟨0, none⟩, ⟨0, none⟩, ⟨0, none⟩, ⟨0, none⟩, ⟨0, none⟩, ⟨0, none⟩, ⟨0, none⟩, ⟨0, none⟩, ⟨0, none⟩, ⟨0, none⟩, ⟨0, none⟩, ⟨0, none⟩, ⟨0, none⟩, ⟨0, none⟩, ⟨0, none⟩, ⟨0, none⟩, ⟨0, none⟩, ⟨0, none⟩, ⟨0, none⟩, ⟨0, none⟩, ⟨0, none⟩, ⟨0, none⟩, ⟨0, none⟩, ⟨0, none⟩, ⟨0, none⟩, ⟨0, none⟩, ⟨0, none⟩, ⟨0, none⟩, ⟨0, none⟩, ⟨0, none⟩, ⟨0, none⟩, ⟨0, none⟩, ⟨0, none⟩, ⟨0, none⟩, ⟨0, none⟩, ⟨0, none⟩, ⟨0, none⟩, ⟨0, none⟩, ⟨0, none⟩, ⟨0, none⟩, ⟨0, none⟩, ⟨0, none⟩, ⟨0, none⟩, ⟨0, none⟩, ⟨0, none⟩, ⟨0, none⟩, ⟨0, none⟩, ⟨0, none⟩, ⟨0, none⟩, ⟨0, none⟩, ⟨0, none⟩, ⟨0, none⟩, ⟨0, none⟩, ⟨0, none⟩, ⟨0, none⟩, ⟨0, none⟩, ⟨0, none⟩, ⟨0, none⟩, ⟨0, none⟩, ⟨0, none⟩, ⟨0, none⟩, ⟨0, none⟩, ⟨0, none⟩, ⟨0, none⟩, ⟨0, none⟩, ⟨0, none⟩, ⟨0, none⟩, ⟨0, none⟩, ⟨0, none⟩, ⟨0, none⟩, ⟨0, none⟩, ⟨0, none⟩, ⟨0, none⟩, ⟨0, none⟩, ⟨0, none⟩, ⟨0, none⟩, ⟨0, none⟩, ⟨0, none⟩, ⟨0, none⟩, ⟨0, none⟩, ⟨0, none⟩, ⟨0, none⟩, ⟨0, none⟩, ⟨0, none⟩, ⟨0, none⟩, ⟨0, none⟩, ⟨0, none⟩, ⟨0, none⟩, ⟨0, none⟩, ⟨0, none⟩, ⟨0, none⟩, ⟨0, none⟩, ⟨0, none⟩, ⟨0, none⟩, ⟨0, none⟩, ⟨0, none⟩, ⟨0, none⟩, ⟨0, none⟩, ⟨0, none⟩, ⟨0, none⟩, ⟨0, none⟩, ⟨0, none⟩, ⟨0, none⟩, ⟨0, none⟩, ⟨0, none⟩], List.replicate 122 0⟩
theorem f193_l2_eq (run : Run) (n : Nat) (k0 : Nat) (k2 : Nat) (x109_1 : Int) (o2_3 : List AV) (o4_3 : List AV) (o7_3 : List AV) : f193_l2 run n k0 (k2 + 1) x109_1 o2_3 o4_3 o7_3 =
  bif ltI x109_1 8 then
    bif inR x109_1 8 then
    bif inR x109_1 8 then
    bif inR x109_1 8 then
    f193_l2 run n k0 k2 (IntKind.wrap .i64 (x109_1 + 1)) (o2_3.set (Int.toNat x109_1) (.int (IntKind.wrap .u32 ((AV.fld (.agg o2_3) (Int.toNat x109_1)).toInt + (AV.fld (.agg o7_3) (Int.toNat x109_1)).toInt)))) o4_3 o7_3
  else none
  else none
  else none
  else
    some ⟨[.agg o2_3], [], f193_fresh⟩ := by kernel_rfl
theorem f193_l0_eq (run : Run) (n : Nat) (k0 : Nat) (x18_1 : Int) (o2_1 : List AV) (o4_1 : List AV) (o5_1 : List AV) (o6_1 : List AV) (o7_1 : List AV) : f193_l0 run n (k0 + 1) x18_1 o2_1 o4_1 o5_1 o6_1 o7_1 =
  bif ltI x18_1 64 then
    (run 210 [.int ((AV.fld (.agg o7_1) 4).toInt), .int 6]).bind fun r3 =>
    nilV r3.outs (consV r3.vals fun v3 vs3 =>
    nilV vs3 ((run 210 [.int ((AV.fld (.agg o7_1) 4).toInt), .int 11]).bind fun r4 =>
    nilV r4.outs (consV r4.vals fun v4 vs4 =>
    nilV vs4 ((run 210 [.int ((AV.fld (.agg o7_1) 4).toInt), .int 25]).bind fun r5 =>
    nilV r5.outs (consV r5.vals fun v5 vs5 =>
    nilV vs5 (bif inR x18_1 64 then
    bif inR x18_1 64 then
    (run 210 [.int ((AV.fld (.agg o7_1) 0).toInt), .int 2]).bind fun r6 =>
    nilV r6.outs (consV r6.vals fun v6 vs6 =>
    nilV vs6 ((run 210 [.int ((AV.fld (.agg o7_1) 0).toInt), .int 13]).bind fun r7 =>
    nilV r7.outs (consV r7.vals fun v7 vs7 =>
    nilV vs7 ((run 210 [.int ((AV.fld (.agg o7_1) 0).toInt), .int 22]).bind fun r8 =>
    nilV r8.outs (consV r8.vals fun v8 vs8 =>
    nilV vs8 (f193_l0 run n k0 (IntKind.wrap .i64 (x18_1 + 1)) o2_1 o4_1 o5_1 o6_1 [.int (IntKind.wrap .u32 (IntKind.wrap .u32 (IntKind.wrap .u32 (IntKind.wrap .u32 (IntKind.wrap .u32 (IntKind.wrap .u32 ((AV.fld (.agg o7_1) 7).toInt + IntKind.wrap .u32 (BitVec.toNat (BitVec.ofInt 32 (IntKind.wrap .u32 (BitVec.toNat (BitVec.ofInt 32 v3.toInt ^^^ BitVec.ofInt 32 v4.toInt))) ^^^ BitVec.ofInt 32 v5.toInt))) + IntKind.wrap .u32 (BitVec.toNat (BitVec.ofInt 32 (IntKind.wrap .u32 (BitVec.toNat (BitVec.ofInt 32 ((AV.fld (.agg o7_1) 4).toInt) &&& BitVec.ofInt 32 ((AV.fld (.agg o7_1) 5).toInt)))) ^^^ BitVec.ofInt 32 (IntKind.wrap .u32 (BitVec.toNat (BitVec.ofInt 32 (IntKind.wrap .u32 (BitVec.toNat (BitVec.ofInt 32 4294967295 ^^^ BitVec.ofInt 32 ((AV.fld (.agg o7_1) 4).toInt)))) &&& BitVec.ofInt 32 ((AV.fld (.agg o7_1) 6).toInt))))))) + (AV.fld (.agg o6_1) (Int.toNat x18_1)).toInt) + (AV.fld (.agg o5_1) (Int.toNat x18_1)).toInt) + IntKind.wrap .u32 (BitVec.toNat (BitVec.ofInt 32 (IntKind.wrap .u32 (BitVec.toNat (BitVec.ofInt 32 v6.toInt ^^^ BitVec.ofInt 32 v7.toInt))) ^^^ BitVec.ofInt 32 v8.toInt))) + IntKind.wrap .u32 (BitVec.toNat (BitVec.ofInt 32 (IntKind.wrap .u32 (BitVec.toNat (BitVec.ofInt 32 (IntKind.wrap .u32 (BitVec.toNat (BitVec.ofInt 32 ((AV.fld (.agg o7_1) 0).toInt) &&& BitVec.ofInt 32 ((AV.fld (.agg o7_1) 1).toInt)))) ^^^ BitVec.ofInt 32 (IntKind.wrap .u32 (BitVec.toNat (BitVec.ofInt 32 ((AV.fld (.agg o7_1) 0).toInt) &&& BitVec.ofInt 32 ((AV.fld (.agg o7_1) 2).toInt))))))) ^^^ BitVec.ofInt 32 (IntKind.wrap .u32 (BitVec.toNat (BitVec.ofInt 32 ((AV.fld (.agg o7_1) 1).toInt) &&& BitVec.ofInt 32 ((AV.fld (.agg o7_1) 2).toInt)))))))), .int ((AV.fld (.agg o7_1) 0).toInt), .int ((AV.fld (.agg o7_1) 1).toInt), .int ((AV.fld (.agg o7_1) 2).toInt), .int (IntKind.wrap .u32 ((AV.fld (.agg o7_1) 3).toInt + IntKind.wrap .u32 (IntKind.wrap .u32 (IntKind.wrap .u32 (IntKind.wrap .u32 ((AV.fld (.agg o7_1) 7).toInt + IntKind.wrap .u32 (BitVec.toNat (BitVec.ofInt 32 (IntKind.wrap .u32 (BitVec.toNat (BitVec.ofInt 32 v3.toInt ^^^ BitVec.ofInt 32 v4.toInt))) ^^^ BitVec.ofInt 32 v5.toInt))) + IntKind.wrap .u32 (BitVec.toNat (BitVec.ofInt 32 (IntKind.wrap .u32 (BitVec.toNat (BitVec.ofInt 32 ((AV.fld (.agg o7_1) 4).toInt) &&& BitVec.ofInt 32 ((AV.fld (.agg o7_1) 5).toInt)))) ^^^ BitVec.ofInt 32 (IntKind.wrap .u32 (BitVec.toNat (BitVec.ofInt 32 (IntKind.wrap .u32 (BitVec.toNat (BitVec.ofInt 32 4294967295 ^^^ BitVec.ofInt 32 ((AV.fld (.agg o7_1) 4).toInt)))) &&& BitVec.ofInt 32 ((AV.fld (.agg o7_1) 6).toInt))))))) + (AV.fld (.agg o6_1) (Int.toNat x18_1)).toInt) + (AV.fld (.agg o5_1) (Int.toNat x18_1)).toInt))), .int ((AV.fld (.agg o7_1) 4).toInt), .int ((AV.fld (.agg o7_1) 5).toInt), .int ((AV.fld (.agg o7_1) 6).toInt)]))))))
  else none
  else none))))))
  else
    f193_l2 run n k0 n 0 o2_1 o4_1 o7_1 := by kernel_rfl
noncomputable def f193 (run : Run) (n : Nat) (a0_1 : List AV) (a1_1 : List UInt8) : Option Res := evalK G run n f193_info.keep 0 f193_info.body (retE G f193_info) (f193_info.start [.agg a0_1, .str a1_1])
theorem f193_eq (run : Run) (n : Nat) (a0_1 : List AV) (a1_1 : List UInt8) : f193 run n a0_1 a1_1 =
  (run 208 [.str a1_1]).bind fun r1 =>
    nilV r1.outs (consV r1.vals fun v1 vs1 =>
    nilV vs1 ((run 209 []).bind fun r2 =>
    nilV r2.outs (consV r2.vals fun v2 vs2 =>
    nilV vs2 (f193_l0 run n n 0 a0_1 (List.replicate 8 (.int 0)) v1.toAgg v2.toAgg a0_1)))) := by kernel_rfl
theorem f193_run (ext : Run) (n : Nat) (a0_1 : List AV) (a1_1 : List UInt8) : runE G ext (n + 1) 193 [.agg a0_1, .str a1_1] = f193 (runE G ext n) n a0_1 a1_1 := runE_succ f193_at f193_in

noncomputable def f171_l0 (run : Run) (n : Nat) (k0 : Nat) (x4_1 : Int) (o0_1 : List AV) (o0_2 : List UInt8) (o0_3 : Int) (o0_4 : Bool) : Option Res :=
  iterK (evalK G run n f171_keep 0 (sub [1, 1, 1, 1, 1, 0, 0, 0] f171_body)) f171_t0 f171_o0 (blockK 0 (seqK (evalK G run n f171_keep 0 (sub [1, 1, 1, 1, 1, 1] f171_body) (retE G f171_info)) (retE G f171_info))) k0
    ⟨[.ptr ⟨(.struct [(.arr 8 (.int .u32)), .str, (.int .u64), .bool]), 0, 0, []⟩, .any, .any, .any, .val (.int .i64) none (.int x4_1), .any, .any, .any, .any, .any, .any, .any, .any, .any, .any, .any, .any, .any, .any, .any, .any, .any, .any, .any, .any, .any, .any, .any, .any, .any, .any, .any, .any, .any, .any, .any, .any, .any, .any, .any, .any, .any, .any, .any, .any, .any, .any, .any, .any, .any, .any, .any, .any, .any, .any, .any, .any, .any, .any, .any, .any, .any, .any, .any, .any, .any, .any, .any, .any, .any, .any, .any], [⟨0, some ⟨(.struct [(.arr 8 (.int .u32)), .str, (.int .u64), .bool]), .agg [.agg o0_1, .str o0_2, .int o0_3, .bool o0_4]⟩⟩, ⟨0, none⟩, ⟨0, none⟩, ⟨0, none⟩, ⟨0, none⟩, ⟨0, none⟩, ⟨0, none⟩, ⟨0, none⟩, ⟨0, none⟩, ⟨0, none⟩, ⟨0, none⟩, ⟨0, none⟩, ⟨0, none⟩, ⟨0, none⟩, ⟨0, none⟩, ⟨0, none⟩, ⟨0, none⟩, ⟨0, none⟩, ⟨0, none⟩, ⟨0, none⟩, ⟨0, none⟩, ⟨0, none⟩, ⟨0, none⟩, ⟨0, none⟩, ⟨0, none⟩, ⟨0, none⟩, ⟨0, none⟩, ⟨0, none⟩, ⟨0, none⟩, ⟨0, none⟩, ⟨0, none⟩, ⟨0, none⟩, ⟨0, none⟩, ⟨0, none⟩, ⟨0, none⟩, ⟨0, none⟩, ⟨0, none⟩, ⟨0, none⟩, ⟨0, none⟩, ⟨0, none⟩, ⟨0, none⟩, ⟨0, none⟩, ⟨0, none⟩, ⟨0, none⟩, ⟨0, none⟩, ⟨0, none⟩, ⟨0, none⟩, ⟨0, none⟩, ⟨0, none⟩, ⟨0, none⟩, ⟨0, none⟩, ⟨0, none⟩, ⟨0, none⟩, ⟨0, none⟩, ⟨0, none⟩, ⟨0, none⟩, ⟨0, none⟩, ⟨0, none⟩, ⟨0, none⟩, ⟨0, none⟩, ⟨0, none⟩, ⟨0, none⟩, ⟨0, none⟩, ⟨0, none⟩, ⟨0, none⟩, ⟨0, none⟩, ⟨0, none⟩, ⟨0, none⟩, ⟨0, none⟩, ⟨0, none⟩, ⟨0, none⟩, ⟨0, none⟩], List.replicate 72 0⟩
theorem f171_l0_eq (run : Run) (n : Nat) (k0 : Nat) (x4_1 : Int) (o0_1 : List AV) (o0_2 : List UInt8) (o0_3 : Int) (o0_4 : Bool) : f171_l0 run n (k0 + 1) x4_1 o0_1 o0_2 o0_3 o0_4 =
  bif leI 64 (IntKind.wrap .i64 ((o0_2.length : Int) - x4_1)) then
    bif boundsOk x4_1 (IntKind.wrap .i64 (x4_1 + 64)) (o0_2.length : Int) (o0_2.length : Int) then
    (run 193 [.agg o0_1, .str (List.drop (Int.toNat x4_1) (List.take (Int.toNat (IntKind.wrap .i64 (x4_1 + 64))) o0_2))]).bind fun r2 =>
    nilV r2.outs (consV r2.vals fun v2 vs2 =>
    nilV vs2 (f171_l0 run n k0 (IntKind.wrap .i64 (x4_1 + 64)) v2.toAgg o0_2 o0_3 o0_4))
  else none
  else
    bif boundsOk x4_1 (o0_2.length : Int) (o0_2.length : Int) (o0_2.length : Int) then
    some ⟨[], [.agg [.agg o0_1, .str (List.drop (Int.toNat x4_1) (List.take (Int.toNat (o0_2.length : Int)) o0_2)), .int o0_3, .bool o0_4]], f171_fresh⟩
  else none := by kernel_rfl
noncomputable def f171 (run : Run) (n : Nat) (a0_1 : List AV) (a0_2 : List UInt8) (a0_3 : Int) (a0_4 : Bool) (a1_1 : List UInt8) : Option Res := evalK G run n f171_info.keep 0 f171_info.body (retE G f171_info) (f171_info.start [.agg [.agg a0_1, .str a0_2, .int a0_3, .bool a0_4], .str a1_1])
theorem f171_eq (run : Run) (n : Nat) (a0_1 : List AV) (a0_2 : List UInt8) (a0_3 : Int) (a0_4 : Bool) (a1_1 : List UInt8) : f171 run n a0_1 a0_2 a0_3 a0_4 a1_1 =
  bif !a0_4 then
    (run 192 []).bind fun r1 =>
    nilV r1.outs (consV r1.vals fun v1 vs1 =>
    nilV vs1 (bif Nat.ble (a0_2.length + a1_1.length) maxLen then
    f171_l0 run n n 0 v1.toAgg (a0_2 ++ a1_1) (IntKind.wrap .u64 (a0_3 + IntKind.wrap .u64 (a1_1.length : Int))) true
  else none))
  else
    bif Nat.ble (a0_2.length + a1_1.length) maxLen then
    f171_l0 run n n 0 a0_1 (a0_2 ++ a1_1) (IntKind.wrap .u64 (a0_3 + IntKind.wrap .u64 (a1_1.length : Int))) a0_4
  else none := by kernel_rfl
theorem f171_run (ext : Run) (n : Nat) (a0_1 : List AV) (a0_2 : List UInt8) (a0_3 : Int) (a0_4 : Bool) (a1_1 : List UInt8) : runE G ext (n + 1) 171 [.agg [.agg a0_1, .str a0_2, .int a0_3, .bool a0_4], .str a1_1] = f171 (runE G ext n) n a0_1 a0_2 a0_3 a0_4 a1_1 := runE_succ f171_at f171_in

noncomputable def f194 (run : Run) (n : Nat) (a0_1 : Int) : Option Res := evalK G run n f194_info.keep 0 f194_info.body (retE G f194_info) (f194_info.start [.int a0_1])
theorem f194_eq (run : Run) (n : Nat) (a0_1 : Int) : f194 run n a0_1 =
  (run 211 [.str [0], .int (IntKind.wrap .i64 (Int.tmod (IntKind.wrap .u64 (119 - Int.tmod a0_1 64)) 64))]).bind fun r1 =>
    nilV r1.outs (consV r1.vals fun v1 vs1 =>
    nilV vs1 (bif Nat.ble (1 + v1.toStr.length) maxLen then
    (run 145 [.int (IntKind.wrap .u64 (8 * a0_1))]).bind fun r2 =>
    nilV r2.outs (consV r2.vals fun v2 vs2 =>
    nilV vs2 (bif Nat.ble (([128] ++ v1.toStr).length + v2.toStr.length) maxLen then
    some ⟨[.str (([128] ++ v1.toStr) ++ v2.toStr)], [], f194_fresh⟩
  else none))
  else none)) := by kernel_rfl
theorem f194_run (ext : Run) (n : Nat) (a0_1 : Int) : runE G ext (n + 1) 194 [.int a0_1] = f194 (runE G ext n) n a0_1 := runE_succ f194_at f194_in

noncomputable def f172_l0 (run : Run) (n : Nat) (k0 : Nat) (x18_1 : List AV) (x19_1 : Int) (o0_1 : List AV) (o0_2 : List UInt8) (o0_3 : Int) (o0_4 : Bool) (o2_1 : List UInt8) (o4_1 : List UInt8) : Option Res :=
  iterK (evalK G run n f172_keep 0 (sub [1, 1, 1, 1, 1, 0, 1, 0, 0] f172_body)) f172_t0 f172_o0 (blockK 0 (seqK (evalK G run n f172_keep 0 (sub [1, 1, 1, 1, 1, 1] f172_body) (retE G f172_info)) (retE G f172_info))) k0
    ⟨[.ptr ⟨(.struct [(.arr 8 (.int .u32)), .str, (.int .u64), .bool]), 0, 0, []⟩, .any, .ptr ⟨(.blob 32), 2, 1, []⟩, .any, .ptr ⟨(.blob 32), 4, 1, []⟩, .any, .any, .any, .any, .any, .any, .any, .any, .any, .any, .any, .any, .any, .val (.arr 8 (.int .u32)) none (.agg x18_1), .val (.int .i64) none (.int x19_1), .any, .any, .any, .any, .any, .any, .any, .any, .any, .any, .any, .any, .any, .any, .any, .any, .any], [⟨0, some ⟨(.struct [(.arr 8 (.int .u32)), .str, (.int .u64), .bool]), .agg [.agg o0_1, .str o0_2, .int o0_3, .bool o0_4]⟩⟩, ⟨0, none⟩, ⟨1, some ⟨(.blob 32), .blob o2_1⟩⟩, ⟨0, none⟩, ⟨1, some ⟨(.blob 32), .blob o4_1⟩⟩, ⟨0, none⟩, ⟨0, none⟩, ⟨0, none⟩, ⟨0, none⟩, ⟨0, none⟩, ⟨0, none⟩, ⟨0, none⟩, ⟨0, none⟩, ⟨0, none⟩, ⟨0, none⟩, ⟨0, none⟩, ⟨0, none⟩, ⟨0, none⟩, ⟨0, none⟩, ⟨0, none⟩, ⟨0, none⟩, ⟨0, none⟩, ⟨0, none⟩, ⟨0, none⟩, ⟨0, none⟩, ⟨0, none⟩, ⟨0, none⟩, ⟨0, none⟩, ⟨0, none⟩, ⟨0, none⟩, ⟨0, none⟩, ⟨0, none⟩, ⟨0, none⟩, ⟨0, none⟩, ⟨0, none⟩, ⟨0, none⟩, ⟨0, none⟩], List.replicate 37 0⟩
theorem f172_l0_eq (run : Run) (n : Nat) (k0 : Nat) (x18_1 : List AV) (x19_1 : Int) (o0_1 : List AV) (o0_2 : List UInt8) (o0_3 : Int) (o0_4 : Bool) (o2_1 : List UInt8) (o4_1 : List UInt8) : f172_l0 run n (k0 + 1) x18_1 x19_1 o0_1 o0_2 o0_3 o0_4 o2_1 o4_1 =
  bif ltI x19_1 8 then
    bif inR x19_1 8 then
    bif boundsOk (IntKind.wrap .i64 (4 * x19_1)) (IntKind.wrap .i64 (IntKind.wrap .i64 (4 * x19_1) + 4)) (IntKind.wrap .i64 (IntKind.wrap .i64 (4 * x19_1) + 4)) 32 && true then
    (run 144 [.int ((AV.fld (.agg x18_1) (Int.toNat x19_1)).toInt)]).bind fun r3 =>
    nilV r3.outs (consV r3.vals fun v2 vs2 =>
    nilV vs2 (f172_l0 run n k0 x18_1 (IntKind.wrap .i64 (x19_1 + 1)) o0_1 o0_2 o0_3 o0_4 o2_1 (bytesOf (splice (ofBytes o4_1) (Int.toNat (IntKind.wrap .i64 (4 * x19_1))) (List.take ((Int.toNat (IntKind.wrap .i64 (IntKind.wrap .i64 (4 * x19_1) + 4))) - (Int.toNat (IntKind.wrap .i64 (4 * x19_1)))) (ofBytes v2.toStr))))))
  else none
  else none
  else
    some ⟨[.blob o4_1], [.agg [.agg o0_1, .str o0_2, .int o0_3, .bool o0_4]], f172_fresh⟩ := by kernel_rfl
noncomputable def f172 (run : Run) (n : Nat) (a0_1 : List AV) (a0_2 : List UInt8) (a0_3 : Int) (a0_4 : Bool) : Option Res := evalK G run n f172_info.keep 0 f172_info.body (retE G f172_info) (f172_info.start [.agg [.agg a0_1, .str a0_2, .int a0_3, .bool a0_4]])
theorem f172_eq (run : Run) (n : Nat) (a0_1 : List AV) (a0_2 : List UInt8) (a0_3 : Int) (a0_4 : Bool) : f172 run n a0_1 a0_2 a0_3 a0_4 =
  (run 194 [.int a0_3]).bind fun r1 =>
    nilV r1.outs (consV r1.vals fun v1 vs1 =>
    nilV vs1 ((run 171 [.agg [.agg a0_1, .str a0_2, .int a0_3, .bool a0_4], .str v1.toStr]).bind fun r2 =>
    consV r2.outs fun y1 ys1 =>
    nilV ys1 (nilV r2.vals (f172_l0 run n n ((y1.fld 0).toAgg) 0 a0_1 a0_2 a0_3 a0_4 (List.replicate 32 0) (List.replicate 32 0))))) := by kernel_rfl
theorem f172_run (ext : Run) (n : Nat) (a0_1 : List AV) (a0_2 : List UInt8) (a0_3 : Int) (a0_4 : Bool) : runE G ext (n + 1) 172 [.agg [.agg a0_1, .str a0_2, .int a0_3, .bool a0_4]] = f172 (runE G ext n) n a0_1 a0_2 a0_3 a0_4 := runE_succ f172_at f172_in

noncomputable def f142 (run : Run) (n : Nat) (a0_1 : List UInt8) : Option Res := evalK G run n f142_info.keep 0 f142_info.body (retE G f142_info) (f142_info.start [.str a0_1])
theorem f142_eq (run : Run) (n : Nat) (a0_1 : List UInt8) : f142 run n a0_1 =
  (run 170 []).bind fun r1 =>
    nilV r1.outs (consV r1.vals fun v1 vs1 =>
    nilV vs1 ((run 171 [.agg [.agg ((v1.fld 0).toAgg), .str ((v1.fld 1).toStr), .int ((v1.fld 2).toInt), .bool ((v1.fld 3).toBool)], .str a0_1]).bind fun r2 =>
    consV r2.outs fun y1 ys1 =>
    nilV ys1 (nilV r2.vals ((run 172 [.agg [.agg ((y1.fld 0).toAgg), .str ((y1.fld 1).toStr), .int ((y1.fld 2).toInt), .bool ((y1.fld 3).toBool)]]).bind fun r3 =>
    consV r3.outs fun _y2 ys2 =>
    nilV ys2 (consV r3.vals fun v2 vs2 =>
    nilV vs2 (some ⟨[.blob v2.toBlob], [], f142_fresh⟩)))))) := by kernel_rfl
theorem f142_run (ext : Run) (n : Nat) (a0_1 : List UInt8) : runE G ext (n + 1) 142 [.str a0_1] = f142 (runE G ext n) n a0_1 := runE_succ f142_at f142_in

noncomputable def f114 (run : Run) (n : Nat) (a0_1 : List UInt8) : Option Res := evalK G run n f114_info.keep 0 f114_info.body (retE G f114_info) (f114_info.start [.str a0_1])
theorem f114_eq (run : Run) (n : Nat) (a0_1 : List UInt8) : f114 run n a0_1 =
  (run 143 [.str a0_1]).bind fun r1 =>
    nilV r1.outs (consV r1.vals fun v1 vs1 =>
    nilV vs1 ((run 142 [.str v1.toStr]).bind fun r2 =>
    nilV r2.outs (consV r2.vals fun v2 vs2 =>
    nilV vs2 (some ⟨[.blob v2.toBlob], [], f114_fresh⟩)))) := by kernel_rfl
theorem f114_run (ext : Run) (n : Nat) (a0_1 : List UInt8) : runE G ext (n + 1) 114 [.str a0_1] = f114 (runE G ext n) n a0_1 := runE_succ f114_at f114_in

noncomputable def f79 (run : Run) (n : Nat) (a0_1 : Int) (a0_2 : List UInt8) (a0_3 : List UInt8) (a0_4 : Int) : Option Res := evalK G run n f79_info.keep 0 f79_info.body (retE G f79_info) (f79_info.start [.agg [.int a0_1, .blob a0_2, .blob a0_3, .int a0_4]])
theorem f79_eq (run : Run) (n : Nat) (a0_1 : Int) (a0_2 : List UInt8) (a0_3 : List UInt8) (a0_4 : Int) : f79 run n a0_1 a0_2 a0_3 a0_4 =
  (run 115 [.agg [.int a0_1, .blob a0_2, .blob a0_3, .int a0_4]]).bind fun r1 =>
    nilV r1.outs (consV r1.vals fun v1 vs1 =>
    nilV vs1 ((run 114 [.str v1.toStr]).bind fun r2 =>
    nilV r2.outs (consV r2.vals fun v2 vs2 =>
    nilV vs2 (some ⟨[.blob v2.toBlob], [], f79_fresh⟩)))) := by kernel_rfl
theorem f79_run (ext : Run) (n : Nat) (a0_1 : Int) (a0_2 : List UInt8) (a0_3 : List UInt8) (a0_4 : Int) : runE G ext (n + 1) 79 [.agg [.int a0_1, .blob a0_2, .blob a0_3, .int a0_4]] = f79 (runE G ext n) n a0_1 a0_2 a0_3 a0_4 := runE_succ f79_at f79_in

noncomputable def f113 (run : Run) (n : Nat) (a0_1 : List UInt8) (a1_1 : Int) : Option Res := evalK G run n f113_info.keep 0 f113_info.body (retE G f113_info) (f113_info.start [.str a0_1, .int a1_1])
theorem f113_eq (run : Run) (n : Nat) (a0_1 : List UInt8) (a1_1 : Int) : f113 run n a0_1 a1_1 =
  (run 141 [.str a0_1, .int a1_1, .int 8]).bind fun r1 =>
    nilV r1.outs (consV r1.vals fun v1 vs1 =>
    nilV vs1 (some ⟨[.int v1.toInt], [], f113_fresh⟩)) := by kernel_rfl
theorem f113_run (ext : Run) (n : Nat) (a0_1 : List UInt8) (a1_1 : Int) : runE G ext (n + 1) 113 [.str a0_1, .int a1_1] = f113 (runE G ext n) n a0_1 a1_1 := runE_succ f113_at f113_in

noncomputable def f76_l0 (run : Run) (n : Nat) (k0 : Nat) (x5_1 : Int) (o1_1 : List UInt8) (o2_1 : List AV) (o3_1 : List AV) : Option Res :=
  iterK (evalK G run n f76_keep 0 (sub [1, 1, 0, 1, 0, 0] f76_body)) f76_t0 f76_o0 (blockK 0 (seqK (evalK G run n f76_keep 0 (sub [1, 1, 1] f76_body) (retE G f76_info)) (retE G f76_info))) k0
    ⟨[.any, .ptr ⟨(.blob 32), 1, 1, []⟩, .ptr ⟨(.arr 4 (.int .u64)), 2, 1, []⟩, .ptr ⟨(.arr 4 (.int .u64)), 3, 1, []⟩, .any, .val (.int .i64) none (.int x5_1), .any, .any, .any, .any, .any, .any, .any, .any, .any, .any, .any, .any], [⟨0, none⟩, ⟨1, some ⟨(.blob 32), .blob o1_1⟩⟩, ⟨1, some ⟨(.arr 4 (.int .u64)), .agg o2_1⟩⟩, ⟨1, some ⟨(.arr 4 (.int .u64)), .agg o3_1⟩⟩, ⟨0, none⟩, ⟨0, none⟩, ⟨0, none⟩, ⟨0, none⟩, ⟨0, none⟩, ⟨0, none⟩, ⟨0, none⟩, ⟨0, none⟩, ⟨0, none⟩, ⟨0, none⟩, ⟨0, none⟩, ⟨0, none⟩, ⟨0, none⟩, ⟨0, none⟩], List.replicate 18 0⟩
theorem f76_l0_eq (run : Run) (n : Nat) (k0 : Nat) (x5_1 : Int) (o1_1 : List UInt8) (o2_1 : List AV) (o3_1 : List AV) : f76_l0 run n (k0 + 1) x5_1 o1_1 o2_1 o3_1 =
  bif ltI x5_1 4 then
    (run 113 [.str (bytesOf (List.drop 0 (List.take 32 (ofBytes o1_1)))), .int (IntKind.wrap .i64 (8 * x5_1))]).bind fun r1 =>
    nilV r1.outs (consV r1.vals fun v1 vs1 =>
    nilV vs1 (bif inR (IntKind.wrap .i64 (3 - x5_1)) 4 then
    f76_l0 run n k0 (IntKind.wrap .i64 (x5_1 + 1)) o1_1 o2_1 (o3_1.set (Int.toNat (IntKind.wrap .i64 (3 - x5_1))) (.int v1.toInt))
  else none))
  else
    some ⟨[.agg o3_1], [], f76_fresh⟩ := by kernel_rfl
noncomputable def f76 (run : Run) (n : Nat) (a0_1 : List UInt8) : Option Res := evalK G run n f76_info.keep 0 f76_info.body (retE G f76_info) (f76_info.start [.blob a0_1])
theorem f76_eq (run : Run) (n : Nat) (a0_1 : List UInt8) : f76 run n a0_1 =
  f76_l0 run n n 0 a0_1 (List.replicate 4 (.int 0)) (List.replicate 4 (.int 0)) := by kernel_rfl
theorem f76_run (ext : Run) (n : Nat) (a0_1 : List UInt8) : runE G ext (n + 1) 76 [.blob a0_1] = f76 (runE G ext n) n a0_1 := runE_succ f76_at f76_in

noncomputable def f77_l0 (run : Run) (n : Nat) (k0 : Nat) (x8_1 : Int) (o2_1 : List AV) (o3_1 : List AV) : Option Res :=
  iterK (evalK G run n f77_keep 0 (sub [1, 0, 1, 0, 0] f77_body)) f77_t0 f77_o0 (blockK 0 (seqK (evalK G run n f77_keep 0 (sub [1, 1] f77_body) (retE G f77_info)) (retE G f77_info))) k0
    ⟨[.any, .any, .ptr ⟨(.arr 4 (.int .u64)), 2, 1, []⟩, .ptr ⟨(.arr 4 (.int .u64)), 3, 1, []⟩, .any, .any, .any, .any, .val (.int .i64) none (.int x8_1), .any, .any, .any, .any, .any, .any, .any, .any, .any, .any, .any, .any, .any, .any, .any, .any, .any, .any, .any], [⟨0, none⟩, ⟨0, none⟩, ⟨1, some ⟨(.arr 4 (.int .u64)), .agg o2_1⟩⟩, ⟨1, some ⟨(.arr 4 (.int .u64)), .agg o3_1⟩⟩, ⟨0, none⟩, ⟨0, none⟩, ⟨0, none⟩, ⟨0, none⟩, ⟨0, none⟩, ⟨0, none⟩, ⟨0, none⟩, ⟨0, none⟩, ⟨0, none⟩, ⟨0, none⟩, ⟨0, none⟩, ⟨0, none⟩, ⟨0, none⟩, ⟨0, none⟩, ⟨0, none⟩, ⟨0, none⟩, ⟨0, none⟩, ⟨0, none⟩, ⟨0, none⟩, ⟨0, none⟩, ⟨0, none⟩, ⟨0, none⟩, ⟨0, none⟩, ⟨0, none⟩], List.replicate 28 0⟩
theorem f77_l0_eq (run : Run) (n : Nat) (k0 : Nat) (x8_1 : Int) (o2_1 : List AV) (o3_1 : List AV) : f77_l0 run n (k0 + 1) x8_1 o2_1 o3_1 =
  bif ltI x8_1 4 then
    bif inR (IntKind.wrap .i64 (3 - x8_1)) 4 then
    bif inR (IntKind.wrap .i64 (3 - x8_1)) 4 then
    bif ltI ((AV.fld (.agg o2_1) (Int.toNat (IntKind.wrap .i64 (3 - x8_1)))).toInt) ((AV.fld (.agg o3_1) (Int.toNat (IntKind.wrap .i64 (3 - x8_1)))).toInt) then
    some ⟨[.int (-1)], [], f77_fresh⟩
  else
    bif ltI ((AV.fld (.agg o3_1) (Int.toNat (IntKind.wrap .i64 (3 - x8_1)))).toInt) ((AV.fld (.agg o2_1) (Int.toNat (IntKind.wrap .i64 (3 - x8_1)))).toInt) then
    some ⟨[.int 1], [], f77_fresh⟩
  else
    f77_l0 run n k0 (IntKind.wrap .i64 (x8_1 + 1)) o2_1 o3_1
  else none
  else none
  else
    some ⟨[.int 0], [], f77_fresh⟩ := by kernel_rfl
noncomputable def f77 (run : Run) (n : Nat) (a0_1 : List AV) (a1_1 : List AV) : Option Res := evalK G run n f77_info.keep 0 f77_info.body (retE G f77_info) (f77_info.start [.agg a0_1, .agg a1_1])
theorem f77_eq (run : Run) (n : Nat) (a0_1 : List AV) (a1_1 : List AV) : f77 run n a0_1 a1_1 =
  f77_l0 run n n 0 a0_1 a1_1 := by kernel_rfl
theorem f77_run (ext : Run) (n : Nat) (a0_1 : List AV) (a1_1 : List AV) : runE G ext (n + 1) 77 [.agg a0_1, .agg a1_1] = f77 (runE G ext n) n a0_1 a1_1 := runE_succ f77_at f77_in

noncomputable def f73 (run : Run) (n : Nat) (a0_1 : List UInt8) (a1_1 : List UInt8) : Option Res := evalK G run n f73_info.keep 0 f73_info.body (retE G f73_info) (f73_info.start [.blob a0_1, .blob a1_1])
theorem f73_eq (run : Run) (n : Nat) (a0_1 : List UInt8) (a1_1 : List UInt8) : f73 run n a0_1 a1_1 =
  (run 76 [.blob a0_1]).bind fun r1 =>
    nilV r1.outs (consV r1.vals fun v1 vs1 =>
    nilV vs1 ((run 76 [.blob a1_1]).bind fun r2 =>
    nilV r2.outs (consV r2.vals fun v2 vs2 =>
    nilV vs2 ((run 77 [.agg v1.toAgg, .agg v2.toAgg]).bind fun r3 =>
    nilV r3.outs (consV r3.vals fun v3 vs3 =>
    nilV vs3 (some ⟨[.bool (leI v3.toInt 0)], [], f73_fresh⟩)))))) := by kernel_rfl
theorem f73_run (ext : Run) (n : Nat) (a0_1 : List UInt8) (a1_1 : List UInt8) : runE G ext (n + 1) 73 [.blob a0_1, .blob a1_1] = f73 (runE G ext n) n a0_1 a1_1 := runE_succ f73_at f73_in

noncomputable def f149 (run : Run) (n : Nat) (a0_1 : List UInt8) : Option Res := evalK G run n f149_info.keep 0 f149_info.body (retE G f149_info) (f149_info.start [.blob a0_1])
theorem f149_eq (run : Run) (n : Nat) (a0_1 : List UInt8) : f149 run n a0_1 =
  bif Nat.ble (1 + (bytesOf (List.drop 0 (List.take 32 (ofBytes a0_1)))).length) maxLen then
    some ⟨[.str ([76] ++ (bytesOf (List.drop 0 (List.take 32 (ofBytes a0_1)))))], [], f149_fresh⟩
  else none := by kernel_rfl
theorem f149_run (ext : Run) (n : Nat) (a0_1 : List UInt8) : runE G ext (n + 1) 149 [.blob a0_1] = f149 (runE G ext n) n a0_1 := runE_succ f149_at f149_in

noncomputable def f189 (run : Run) (n : Nat) (a0_1 : Int) (a1_1 : Int) : Option Res := evalK G run n f189_info.keep 0 f189_info.body (retE G f189_info) (f189_info.start [.int a0_1, .int a1_1])
theorem f189_eq (run : Run) (n : Nat) (a0_1 : Int) (a1_1 : Int) : f189 run n a0_1 a1_1 =
  bif ltI a1_1 0 then
    some ⟨[.int (-1)], [], f189_fresh⟩
  else
    bif leI a0_1 a1_1 then
    some ⟨[.int (-1)], [], f189_fresh⟩
  else
    (run 190 [.int a0_1, .int a1_1]).bind fun r1 =>
    bif r1.fresh then
    nilV r1.outs (consV r1.vals fun v1 vs1 =>
    nilV vs1 (some ⟨[.int (v1.toSlice.length : Int)], [], f189_fresh⟩))
  else none := by kernel_rfl
theorem f189_run (ext : Run) (n : Nat) (a0_1 : Int) (a1_1 : Int) : runE G ext (n + 1) 189 [.int a0_1, .int a1_1] = f189 (runE G ext n) n a0_1 a1_1 := runE_succ f189_at f189_in

noncomputable def f166 (run : Run) (n : Nat) (a0_1 : Int) (a0_2 : Int) (a0_3 : List AV) : Option Res := evalK G run n f166_info.keep 0 f166_info.body (retE G f166_info) (f166_info.start [.agg [.int a0_1, .int a0_2, .slice a0_3]])
theorem f166_eq (run : Run) (n : Nat) (a0_1 : Int) (a0_2 : Int) (a0_3 : List AV) : f166 run n a0_1 a0_2 a0_3 =
  bif ltI a0_2 1 then
    some ⟨[.int 3], [], f166_fresh⟩
  else
    bif ltI 1048576 a0_2 then
    some ⟨[.int 3], [], f166_fresh⟩
  else
    bif ltI a0_1 0 then
    some ⟨[.int 3], [], f166_fresh⟩
  else
    bif leI a0_2 a0_1 then
    some ⟨[.int 3], [], f166_fresh⟩
  else
    (run 189 [.int a0_2, .int a0_1]).bind fun r1 =>
    nilV r1.outs (consV r1.vals fun v1 vs1 =>
    nilV vs1 (bif !(eqI (a0_3.length : Int) v1.toInt) then
    some ⟨[.int 2], [], f166_fresh⟩
  else
    some ⟨[.int 0], [], f166_fresh⟩)) := by kernel_rfl
theorem f166_run (ext : Run) (n : Nat) (a0_1 : Int) (a0_2 : Int) (a0_3 : List AV) : runE G ext (n + 1) 166 [.agg [.int a0_1, .int a0_2, .slice a0_3]] = f166 (runE G ext n) n a0_1 a0_2 a0_3 := runE_succ f166_at f166_in

noncomputable def f188 (run : Run) (n : Nat) (a0_1 : List UInt8) : Option Res := evalK G run n f188_info.keep 0 f188_info.body (retE G f188_info) (f188_info.start [.str a0_1])
theorem f188_eq (run : Run) (n : Nat) (a0_1 : List UInt8) : f188 run n a0_1 =
  (run 173 [.int 0, .slice [.str a0_1]]).bind fun r1 =>
    nilV r1.outs (consV r1.vals fun v1 vs1 =>
    nilV vs1 (some ⟨[.str v1.toStr], [], f188_fresh⟩)) := by kernel_rfl
theorem f188_run (ext : Run) (n : Nat) (a0_1 : List UInt8) : runE G ext (n + 1) 188 [.str a0_1] = f188 (runE G ext n) n a0_1 := runE_succ f188_at f188_in

noncomputable def f165 (run : Run) (n : Nat) (a0_1 : List UInt8) : Option Res := evalK G run n f165_info.keep 0 f165_info.body (retE G f165_info) (f165_info.start [.str a0_1])
theorem f165_eq (run : Run) (n : Nat) (a0_1 : List UInt8) : f165 run n a0_1 =
  (run 188 [.str a0_1]).bind fun r1 =>
    nilV r1.outs (consV r1.vals fun v1 vs1 =>
    nilV vs1 ((run 142 [.str v1.toStr]).bind fun r2 =>
    nilV r2.outs (consV r2.vals fun v2 vs2 =>
    nilV vs2 (some ⟨[.blob v2.toBlob], [], f165_fresh⟩)))) := by kernel_rfl
theorem f165_run (ext : Run) (n : Nat) (a0_1 : List UInt8) : runE G ext (n + 1) 165 [.str a0_1] = f165 (runE G ext n) n a0_1 := runE_succ f165_at f165_in

noncomputable def f205 (run : Run) (n : Nat) (a0_1 : List UInt8) (a1_1 : List UInt8) : Option Res := evalK G run n f205_info.keep 0 f205_info.body (retE G f205_info) (f205_info.start [.blob a0_1, .blob a1_1])
theorem f205_eq (run : Run) (n : Nat) (a0_1 : List UInt8) (a1_1 : List UInt8) : f205 run n a0_1 a1_1 =
  (run 173 [.int 1, .slice [.str (bytesOf (List.drop 0 (List.take 32 (ofBytes a0_1)))), .str (bytesOf (List.drop 0 (List.take 32 (ofBytes a1_1))))]]).bind fun r1 =>
    nilV r1.outs (consV r1.vals fun v1 vs1 =>
    nilV vs1 (some ⟨[.str v1.toStr], [], f205_fresh⟩)) := by kernel_rfl
theorem f205_run (ext : Run) (n : Nat) (a0_1 : List UInt8) (a1_1 : List UInt8) : runE G ext (n + 1) 205 [.blob a0_1, .blob a1_1] = f205 (runE G ext n) n a0_1 a1_1 := runE_succ f205_at f205_in

noncomputable def f187 (run : Run) (n : Nat) (a0_1 : List UInt8) (a1_1 : List UInt8) : Option Res := evalK G run n f187_info.keep 0 f187_info.body (retE G f187_info) (f187_info.start [.blob a0_1, .blob a1_1])
theorem f187_eq (run : Run) (n : Nat) (a0_1 : List UInt8) (a1_1 : List UInt8) : f187 run n a0_1 a1_1 =
  (run 205 [.blob a0_1, .blob a1_1]).bind fun r1 =>
    nilV r1.outs (consV r1.vals fun v1 vs1 =>
    nilV vs1 ((run 142 [.str v1.toStr]).bind fun r2 =>
    nilV r2.outs (consV r2.vals fun v2 vs2 =>
    nilV vs2 (some ⟨[.blob v2.toBlob], [], f187_fresh⟩)))) := by kernel_rfl
theorem f187_run (ext : Run) (n : Nat) (a0_1 : List UInt8) (a1_1 : List UInt8) : runE G ext (n + 1) 187 [.blob a0_1, .blob a1_1] = f187 (runE G ext n) n a0_1 a1_1 := runE_succ f187_at f187_in

noncomputable def f167_l0 (run : Run) (n : Nat) (k0 : Nat) (x6_1 : List AV) (x20_1 : List AV) (x21_1 : Int) (x22_1 : Int) (o3_1 : Int) (o3_2 : Int) (o3_3 : List AV) (o5_1 : List UInt8) : Option Res :=
  iterK (evalK G run n f167_keep 0 (sub [1, 1, 1, 1, 0, 1, 0, 0] f167_body)) f167_t0 f167_o0 (blockK 0 (seqK (evalK G run n f167_keep 0 (sub [1, 1, 1, 1, 1] f167_body) (retE G f167_info)) (retE G f167_info))) k0
    ⟨[.any, .any, .any, .ptr ⟨(.struct [(.int .i64), (.int .i64), (.slice (.blob 32))]), 3, 1, []⟩, .any, .ptr ⟨(.blob 32), 5, 1, []⟩, .val (.slice (.blob 32)) (some (6, 0)) (.slice x6_1), .any, .any, .any, .any, .any, .any, .any, .any, .any, .any, .any, .any, .any, .val (.slice .bool) (some (20, 0)) (.slice x20_1), .val (.int .i64) none (.int x21_1), .val (.int .i64) none (.int x22_1), .any, .any, .any, .any, .any, .any, .any, .any, .any, .any, .any, .any, .any, .any, .any, .any, .any, .any, .any, .any, .any, .any, .any, .any, .any], [⟨0, none⟩, ⟨0, none⟩, ⟨0, none⟩, ⟨1, some ⟨(.struct [(.int .i64), (.int .i64), (.slice (.blob 32))]), .agg [.int o3_1, .int o3_2, .slice o3_3]⟩⟩, ⟨0, none⟩, ⟨1, some ⟨(.blob 32), .blob o5_1⟩⟩, ⟨0, none⟩, ⟨0, none⟩, ⟨0, none⟩, ⟨0, none⟩, ⟨0, none⟩, ⟨0, none⟩, ⟨0, none⟩, ⟨0, none⟩, ⟨0, none⟩, ⟨0, none⟩, ⟨0, none⟩, ⟨0, none⟩, ⟨0, none⟩, ⟨0, none⟩, ⟨0, none⟩, ⟨0, none⟩, ⟨0, none⟩, ⟨0, none⟩, ⟨0, none⟩, ⟨0, none⟩, ⟨0, none⟩, ⟨0, none⟩, ⟨0, none⟩, ⟨0, none⟩, ⟨0, none⟩, ⟨0, none⟩, ⟨0, none⟩, ⟨0, none⟩, ⟨0, none⟩, ⟨0, none⟩, ⟨0, none⟩, ⟨0, none⟩, ⟨0, none⟩, ⟨0, none⟩, ⟨0, none⟩, ⟨0, none⟩, ⟨0, none⟩, ⟨0, none⟩, ⟨0, none⟩, ⟨0, none⟩, ⟨0, none⟩, ⟨0, none⟩], List.replicate 48 0⟩
theorem f167_l0_eq (run : Run) (n : Nat) (k0 : Nat) (x6_1 : List AV) (x20_1 : List AV) (x21_1 : Int) (x22_1 : Int) (o3_1 : Int) (o3_2 : Int) (o3_3 : List AV) (o5_1 : List UInt8) : f167_l0 run n (k0 + 1) x6_1 x20_1 x21_1 x22_1 o3_1 o3_2 o3_3 o5_1 =
  bif ltI x22_1 x21_1 then
    bif inR x22_1 x20_1.length then
    bif (nth x20_1 (Int.toNat x22_1)).toBool then
    bif inR x22_1 o3_3.length then
    (run 187 [.blob ((nth o3_3 (Int.toNat x22_1)).toBlob), .blob o5_1]).bind fun r4 =>
    nilV r4.outs (consV r4.vals fun v4 vs4 =>
    nilV vs4 (bif Nat.ble ((x6_1.length + 1) * 32) 140737488355328 then
    f167_l0 run n k0 (x6_1 ++ [.blob v4.toBlob]) x20_1 x21_1 (IntKind.wrap .i64 (x22_1 + 1)) o3_1 o3_2 o3_3 v4.toBlob
  else none))
  else none
  else
    bif inR x22_1 o3_3.length then
    (run 187 [.blob o5_1, .blob ((nth o3_3 (Int.toNat x22_1)).toBlob)]).bind fun r5 =>
    nilV r5.outs (consV r5.vals fun v5 vs5 =>
    nilV vs5 (bif Nat.ble ((x6_1.length + 1) * 32) 140737488355328 then
    f167_l0 run n k0 (x6_1 ++ [.blob v5.toBlob]) x20_1 x21_1 (IntKind.wrap .i64 (x22_1 + 1)) o3_1 o3_2 o3_3 v5.toBlob
  else none))
  else none
  else none
  else
    some ⟨[.slice x6_1], [], f167_fresh⟩ := by kernel_rfl
noncomputable def f167 (run : Run) (n : Nat) (a0_1 : List UInt8) (a1_1 : Int) (a1_2 : Int) (a1_3 : List AV) : Option Res := evalK G run n f167_info.keep 0 f167_info.body (retE G f167_info) (f167_info.start [.str a0_1, .agg [.int a1_1, .int a1_2, .slice a1_3]])
theorem f167_eq (run : Run) (n : Nat) (a0_1 : List UInt8) (a1_1 : Int) (a1_2 : Int) (a1_3 : List AV) : f167 run n a0_1 a1_1 a1_2 a1_3 =
  (run 166 [.agg [.int a1_1, .int a1_2, .slice a1_3]]).bind fun r1 =>
    nilV r1.outs (consV r1.vals fun v1 vs1 =>
    nilV vs1 (bif !(eqI v1.toInt 0) then
    some ⟨[.slice []], [], f167_fresh⟩
  else
    (run 165 [.str a0_1]).bind fun r2 =>
    nilV r2.outs (consV r2.vals fun v2 vs2 =>
    nilV vs2 ((run 190 [.int a1_2, .int a1_1]).bind fun r3 =>
    bif r3.fresh then
    nilV r3.outs (consV r3.vals fun v3 vs3 =>
    nilV vs3 (f167_l0 run n n [.blob v2.toBlob] v3.toSlice (v3.toSlice.length : Int) 0 a1_1 a1_2 a1_3 v2.toBlob))
  else none)))) := by kernel_rfl
theorem f167_run (ext : Run) (n : Nat) (a0_1 : List UInt8) (a1_1 : Int) (a1_2 : Int) (a1_3 : List AV) : runE G ext (n + 1) 167 [.str a0_1, .agg [.int a1_1, .int a1_2, .slice a1_3]] = f167 (runE G ext n) n a0_1 a1_1 a1_2 a1_3 := runE_succ f167_at f167_in

noncomputable def f191 (run : Run) (n : Nat) (a0_1 : Int) (a1_1 : List UInt8) : Option Res := evalK G run n f191_info.keep 0 f191_info.body (retE G f191_info) (f191_info.start [.int a0_1, .blob a1_1])
theorem f191_eq (run : Run) (n : Nat) (a0_1 : Int) (a1_1 : List UInt8) : f191 run n a0_1 a1_1 =
  (run 145 [.int a0_1]).bind fun r1 =>
    nilV r1.outs (consV r1.vals fun v1 vs1 =>
    nilV vs1 ((run 173 [.int 2, .slice [.str v1.toStr, .str (bytesOf (List.drop 0 (List.take 32 (ofBytes a1_1))))]]).bind fun r2 =>
    nilV r2.outs (consV r2.vals fun v2 vs2 =>
    nilV vs2 (some ⟨[.str v2.toStr], [], f191_fresh⟩)))) := by kernel_rfl
theorem f191_run (ext : Run) (n : Nat) (a0_1 : Int) (a1_1 : List UInt8) : runE G ext (n + 1) 191 [.int a0_1, .blob a1_1] = f191 (runE G ext n) n a0_1 a1_1 := runE_succ f191_at f191_in

noncomputable def f168 (run : Run) (n : Nat) (a0_1 : Int) (a1_1 : List UInt8) : Option Res := evalK G run n f168_info.keep 0 f168_info.body (retE G f168_info) (f168_info.start [.int a0_1, .blob a1_1])
theorem f168_eq (run : Run) (n : Nat) (a0_1 : Int) (a1_1 : List UInt8) : f168 run n a0_1 a1_1 =
  (run 191 [.int a0_1, .blob a1_1]).bind fun r1 =>
    nilV r1.outs (consV r1.vals fun v1 vs1 =>
    nilV vs1 ((run 142 [.str v1.toStr]).bind fun r2 =>
    nilV r2.outs (consV r2.vals fun v2 vs2 =>
    nilV vs2 (some ⟨[.blob v2.toBlob], [], f168_fresh⟩)))) := by kernel_rfl
theorem f168_run (ext : Run) (n : Nat) (a0_1 : Int) (a1_1 : List UInt8) : runE G ext (n + 1) 168 [.int a0_1, .blob a1_1] = f168 (runE G ext n) n a0_1 a1_1 := runE_succ f168_at f168_in

noncomputable def f138 (run : Run) (n : Nat) (a0_1 : List UInt8) (a1_1 : Int) (a1_2 : Int) (a1_3 : List AV) : Option Res := evalK G run n f138_info.keep 0 f138_info.body (retE G f138_info) (f138_info.start [.str a0_1, .agg [.int a1_1, .int a1_2, .slice a1_3]])
theorem f138_eq (run : Run) (n : Nat) (a0_1 : List UInt8) (a1_1 : Int) (a1_2 : Int) (a1_3 : List AV) : f138 run n a0_1 a1_1 a1_2 a1_3 =
  (run 166 [.agg [.int a1_1, .int a1_2, .slice a1_3]]).bind fun r1 =>
    nilV r1.outs (consV r1.vals fun v1 vs1 =>
    nilV vs1 (bif !(eqI v1.toInt 0) then
    some ⟨[.blob [0, 0, 0, 0, 0, 0, 0, 0, 0, 0, 0, 0, 0, 0, 0, 0, 0, 0, 0, 0, 0, 0, 0, 0, 0, 0, 0, 0, 0, 0, 0, 0], .int v1.toInt], [], f138_fresh⟩
  else
    (run 167 [.str a0_1, .agg [.int a1_1, .int a1_2, .slice a1_3]]).bind fun r2 =>
    bif r2.fresh then
    nilV r2.outs (consV r2.vals fun v2 vs2 =>
    nilV vs2 (bif inR (IntKind.wrap .i64 ((v2.toSlice.length : Int) - 1)) v2.toSlice.length then
    (run 168 [.int (IntKind.wrap .u64 a1_2), .blob ((nth v2.toSlice (Int.toNat (IntKind.wrap .i64 ((v2.toSlice.length : Int) - 1)))).toBlob)]).bind fun r3 =>
    nilV r3.outs (consV r3.vals fun v3 vs3 =>
    nilV vs3 (some ⟨[.blob v3.toBlob, .int 0], [], f138_fresh⟩))
  else none))
  else none)) := by kernel_rfl
theorem f138_run (ext : Run) (n : Nat) (a0_1 : List UInt8) (a1_1 : Int) (a1_2 : Int) (a1_3 : List AV) : runE G ext (n + 1) 138 [.str a0_1, .agg [.int a1_1, .int a1_2, .slice a1_3]] = f138 (runE G ext n) n a0_1 a1_1 a1_2 a1_3 := runE_succ f138_at f138_in

noncomputable def f110 (run : Run) (n : Nat) (a0_1 : List UInt8) (a1_1 : List UInt8) (a2_1 : Int) (a2_2 : Int) (a2_3 : List AV) : Option Res := evalK G run n f110_info.keep 0 f110_info.body (retE G f110_info) (f110_info.start [.blob a0_1, .str a1_1, .agg [.int a2_1, .int a2_2, .slice a2_3]])
theorem f110_eq (run : Run) (n : Nat) (a0_1 : List UInt8) (a1_1 : List UInt8) (a2_1 : Int) (a2_2 : Int) (a2_3 : List AV) : f110 run n a0_1 a1_1 a2_1 a2_2 a2_3 =
  (run 138 [.str a1_1, .agg [.int a2_1, .int a2_2, .slice a2_3]]).bind fun r1 =>
    nilV r1.outs (consV r1.vals fun v1 vs1 =>
    consV vs1 fun v2 vs2 =>
    nilV vs2 (bif eqI v2.toInt 0 then
    some ⟨[.bool (eqS v1.toBlob a0_1)], [], f110_fresh⟩
  else
    some ⟨[.bool false], [], f110_fresh⟩)) := by kernel_rfl
theorem f110_run (ext : Run) (n : Nat) (a0_1 : List UInt8) (a1_1 : List UInt8) (a2_1 : Int) (a2_2 : Int) (a2_3 : List AV) : runE G ext (n + 1) 110 [.blob a0_1, .str a1_1, .agg [.int a2_1, .int a2_2, .slice a2_3]] = f110 (runE G ext n) n a0_1 a1_1 a2_1 a2_2 a2_3 := runE_succ f110_at f110_in

noncomputable def f136 (run : Run) (n : Nat) (a0_1 : List UInt8) (a1_1 : List UInt8) (a2_1 : Int) (a2_2 : Int) (a2_3 : List AV) : Option Res := evalK G run n f136_info.keep 0 f136_info.body (retE G f136_info) (f136_info.start [.blob a0_1, .blob a1_1, .agg [.int a2_1, .int a2_2, .slice a2_3]])
theorem f136_eq (run : Run) (n : Nat) (a0_1 : List UInt8) (a1_1 : List UInt8) (a2_1 : Int) (a2_2 : Int) (a2_3 : List AV) : f136 run n a0_1 a1_1 a2_1 a2_2 a2_3 =
  bif leI a2_2 257 then
    (run 149 [.blob a1_1]).bind fun r1 =>
    nilV r1.outs (consV r1.vals fun v1 vs1 =>
    nilV vs1 ((run 110 [.blob a0_1, .str v1.toStr, .agg [.int a2_1, .int a2_2, .slice a2_3]]).bind fun r2 =>
    nilV r2.outs (consV r2.vals fun v2 vs2 =>
    nilV vs2 (some ⟨[.bool v2.toBool], [], f136_fresh⟩))))
  else
    some ⟨[.bool false], [], f136_fresh⟩ := by kernel_rfl
theorem f136_run (ext : Run) (n : Nat) (a0_1 : List UInt8) (a1_1 : List UInt8) (a2_1 : Int) (a2_2 : Int) (a2_3 : List AV) : runE G ext (n + 1) 136 [.blob a0_1, .blob a1_1, .agg [.int a2_1, .int a2_2, .slice a2_3]] = f136 (runE G ext n) n a0_1 a1_1 a2_1 a2_2 a2_3 := runE_succ f136_at f136_in

noncomputable def f107 (run : Run) (n : Nat) (a0_1 : Int) (a0_2 : List UInt8) (a0_3 : List UInt8) (a0_4 : Int) (a0_5 : Int) (a0_6 : Int) (a0_7 : List AV) (a1_1 : Int) (a1_2 : List UInt8) (a1_3 : List UInt8) (a1_4 : Int) : Option Res := evalK G run n f107_info.keep 0 f107_info.body (retE G f107_info) (f107_info.start [.agg [.agg [.int a0_1, .blob a0_2, .blob a0_3, .int a0_4], .agg [.int a0_5, .int a0_6, .slice a0_7]], .agg [.int a1_1, .blob a1_2, .blob a1_3, .int a1_4]])
theorem f107_eq (run : Run) (n : Nat) (a0_1 : Int) (a0_2 : List UInt8) (a0_3 : List UInt8) (a0_4 : Int) (a0_5 : Int) (a0_6 : Int) (a0_7 : List AV) (a1_1 : Int) (a1_2 : List UInt8) (a1_3 : List UInt8) (a1_4 : Int) : f107 run n a0_1 a0_2 a0_3 a0_4 a0_5 a0_6 a0_7 a1_1 a1_2 a1_3 a1_4 =
  (run 79 [.agg [.int a1_1, .blob a1_2, .blob a1_3, .int a1_4]]).bind fun r1 =>
    nilV r1.outs (consV r1.vals fun v1 vs1 =>
    nilV vs1 ((run 136 [.blob a0_2, .blob v1.toBlob, .agg [.int a0_5, .int a0_6, .slice a0_7]]).bind fun r2 =>
    nilV r2.outs (consV r2.vals fun v2 vs2 =>
    nilV vs2 (some ⟨[.bool v2.toBool], [], f107_fresh⟩)))) := by kernel_rfl
theorem f107_run (ext : Run) (n : Nat) (a0_1 : Int) (a0_2 : List UInt8) (a0_3 : List UInt8) (a0_4 : Int) (a0_5 : Int) (a0_6 : Int) (a0_7 : List AV) (a1_1 : Int) (a1_2 : List UInt8) (a1_3 : List UInt8) (a1_4 : Int) : runE G ext (n + 1) 107 [.agg [.agg [.int a0_1, .blob a0_2, .blob a0_3, .int a0_4], .agg [.int a0_5, .int a0_6, .slice a0_7]], .agg [.int a1_1, .blob a1_2, .blob a1_3, .int a1_4]] = f107 (runE G ext n) n a0_1 a0_2 a0_3 a0_4 a0_5 a0_6 a0_7 a1_1 a1_2 a1_3 a1_4 := runE_succ f107_at f107_in

noncomputable def f109 (run : Run) (n : Nat) (a0_1 : List UInt8) (a1_1 : Int) (a1_2 : List UInt8) (a1_3 : List UInt8) (a1_4 : Int) (a1_5 : Int) (a1_6 : Int) (a1_7 : List AV) (a2_1 : Int) (a2_2 : List UInt8) (a2_3 : List UInt8) (a2_4 : Int) (a3_1 : Int) : Option Res := evalK G run n f109_info.keep 0 f109_info.body (retE G f109_info) (f109_info.start [.blob a0_1, .agg [.agg [.int a1_1, .blob a1_2, .blob a1_3, .int a1_4], .agg [.int a1_5, .int a1_6, .slice a1_7]], .agg [.int a2_1, .blob a2_2, .blob a2_3, .int a2_4], .int a3_1])
theorem f109_eq (run : Run) (n : Nat) (a0_1 : List UInt8) (a1_1 : Int) (a1_2 : List UInt8) (a1_3 : List UInt8) (a1_4 : Int) (a1_5 : Int) (a1_6 : Int) (a1_7 : List AV) (a2_1 : Int) (a2_2 : List UInt8) (a2_3 : List UInt8) (a2_4 : Int) (a3_1 : Int) : f109 run n a0_1 a1_1 a1_2 a1_3 a1_4 a1_5 a1_6 a1_7 a2_1 a2_2 a2_3 a2_4 a3_1 =
  (run 33 [.agg [.int a1_1, .blob a1_2, .blob a1_3, .int a1_4], .agg [.int a2_1, .blob a2_2, .blob a2_3, .int a2_4]]).bind fun r1 =>
    nilV r1.outs (consV r1.vals fun v1 vs1 =>
    nilV vs1 (bif !v1.toBool then
    some ⟨[.int 8], [], f109_fresh⟩
  else
    bif leI a3_1 a1_1 then
    some ⟨[.int 8], [], f109_fresh⟩
  else
    (run 79 [.agg [.int a1_1, .blob a1_2, .blob a1_3, .int a1_4]]).bind fun r2 =>
    nilV r2.outs (consV r2.vals fun v2 vs2 =>
    nilV vs2 ((run 73 [.blob v2.toBlob, .blob a0_1]).bind fun r3 =>
    nilV r3.outs (consV r3.vals fun v3 vs3 =>
    nilV vs3 (bif !v3.toBool then
    some ⟨[.int 9], [], f109_fresh⟩
  else
    (run 107 [.agg [.agg [.int a1_1, .blob a1_2, .blob a1_3, .int a1_4], .agg [.int a1_5, .int a1_6, .slice a1_7]], .agg [.int a2_1, .blob a2_2, .blob a2_3, .int a2_4]]).bind fun r4 =>
    nilV r4.outs (consV r4.vals fun v4 vs4 =>
    nilV vs4 (bif !v4.toBool then
    some ⟨[.int 10], [], f109_fresh⟩
  else
    some ⟨[.int 0], [], f109_fresh⟩)))))))) := by kernel_rfl
theorem f109_run (ext : Run) (n : Nat) (a0_1 : List UInt8) (a1_1 : Int) (a1_2 : List UInt8) (a1_3 : List UInt8) (a1_4 : Int) (a1_5 : Int) (a1_6 : Int) (a1_7 : List AV) (a2_1 : Int) (a2_2 : List UInt8) (a2_3 : List UInt8) (a2_4 : Int) (a3_1 : Int) : runE G ext (n + 1) 109 [.blob a0_1, .agg [.agg [.int a1_1, .blob a1_2, .blob a1_3, .int a1_4], .agg [.int a1_5, .int a1_6, .slice a1_7]], .agg [.int a2_1, .blob a2_2, .blob a2_3, .int a2_4], .int a3_1] = f109 (runE G ext n) n a0_1 a1_1 a1_2 a1_3 a1_4 a1_5 a1_6 a1_7 a2_1 a2_2 a2_3 a2_4 a3_1 := runE_succ f109_at f109_in

end Go.Proofs.YtogehijjhibdkaaGreat.Ev
