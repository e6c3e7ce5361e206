/- What the evaluator does with the functions, as programs over plain values: printed by gen.py, checked by the kernel. -/
import Derived.Test.YtncajhkogppojaaEvFA
namespace Go.Proofs.Ytncajhkogppojaa.Ev
open Go Go.RowKit
set_option maxRecDepth 100000


noncomputable def f76_l0 (run : Run) (n : Nat) (k0 : Nat) (x5_1 : Int) (o1_1 : List UInt8) (o2_1 : List AV) (o3_1 : List AV) : Option Res :=
  iterK (evalK G run n f76_keep 0 (sub [1, 1, 0, 1, 0, 0] f76_body)) f76_t0 f76_o0 (blockK 0 (seqK (evalK G run n f76_keep 0 (sub [1, 1, 1] f76_body) (retE G f76_info)) (retE G f76_info))) k0
    ⟨[.any, .ptr ⟨(.blob 32), 1, 1, []⟩, .ptr ⟨(.arr 4 (.int .u64)), 2, 1, []⟩, .ptr ⟨(.arr 4 (.int .u64)), 3, 1, []⟩, .any, .val (.int .i64) none (.int x5_1), .any, .any, .any, .any, .any, .any, .any, .any, .any, .any, .any, .any], [⟨0, none⟩, ⟨1, some ⟨(.blob 32), .blob o1_1⟩⟩, ⟨1, some ⟨(.arr 4 (.int .u64)), .agg o2_1⟩⟩, ⟨1, some ⟨(.arr 4 (.int .u64)), .agg o3_1⟩⟩, ⟨0, none⟩, ⟨0, none⟩, ⟨0, none⟩, ⟨0, none⟩, ⟨0, none⟩, ⟨0, none⟩, ⟨0, none⟩, ⟨0, none⟩, ⟨0, none⟩, ⟨0, none⟩, ⟨0, none⟩, ⟨0, none⟩, ⟨0, none⟩, ⟨0, none⟩], List.replicate 18 0⟩
theorem f76_l0_eq (run : Run) (n : Nat) (k0 : Nat) (x5_1 : Int) (o1_1 : List UInt8) (o2_1 : List AV) (o3_1 : List AV) : f76_l0 run n (k0 + 1) x5_1 o1_1 o2_1 o3_1 =
  bif ltI x5_1 4 then
    (run 108 [.str (bytesOf (List.drop 0 (List.take 32 (ofBytes o1_1)))), .int (IntKind.wrap .i64 (8 * x5_1))]).bind fun r1 =>
    nilV r1.outs (consV r1.vals fun v1 vs1 =>
    nilV vs1 (bif inR (IntKind.wrap .i64 (3 - x5_1)) 4 then
    f76_l0 run n k0 (IntKind.wrap .i64 (x5_1 + 1)) o1_1 o2_1 (o3_1.set (Int.toNat (IntKind.wrap .i64 (3 - x5_1))) (.int v1.toInt))
  else none))
  else
    some ⟨[.agg o3_1], [], f76_fresh⟩ := by kernel_rfl
noncomputable def f76 (run : Run) (n : Nat) (a0_1 : List UInt8) : Option Res := evalK G run n f76_info.keep 0 f76_info.body (retE G f76_info) (f76_info.start [.blob a0_1])
theorem f76_eq (run : Run) (n : Nat) (a0_1 : List UInt8) : f76 run n a0_1 =
  f76_l0 run n n 0 a0_1 (List.replicate 4 (.int 0)) (List.replicate 4 (.int 0)) := by kernel_rfl
theorem f76_run (ext : Run) (n : Nat) (a0_1 : List UInt8) : runE G ext (n + 1) 76 [.blob a0_1] = f76 (runE G ext n) n a0_1 := runE_succ f76_at f76_in

noncomputable def f75_l0 (run : Run) (n : Nat) (k0 : Nat) (x8_1 : Int) (o2_1 : List AV) (o3_1 : List AV) : Option Res :=
  iterK (evalK G run n f75_keep 0 (sub [1, 0, 1, 0, 0] f75_body)) f75_t0 f75_o0 (blockK 0 (seqK (evalK G run n f75_keep 0 (sub [1, 1] f75_body) (retE G f75_info)) (retE G f75_info))) k0
    ⟨[.any, .any, .ptr ⟨(.arr 4 (.int .u64)), 2, 1, []⟩, .ptr ⟨(.arr 4 (.int .u64)), 3, 1, []⟩, .any, .any, .any, .any, .val (.int .i64) none (.int x8_1), .any, .any, .any, .any, .any, .any, .any, .any, .any, .any, .any, .any, .any, .any, .any, .any, .any, .any, .any], [⟨0, none⟩, ⟨0, none⟩, ⟨1, some ⟨(.arr 4 (.int .u64)), .agg o2_1⟩⟩, ⟨1, some ⟨(.arr 4 (.int .u64)), .agg o3_1⟩⟩, ⟨0, none⟩, ⟨0, none⟩, ⟨0, none⟩, ⟨0, none⟩, ⟨0, none⟩, ⟨0, none⟩, ⟨0, none⟩, ⟨0, none⟩, ⟨0, none⟩, ⟨0, none⟩, ⟨0, none⟩, ⟨0, none⟩, ⟨0, none⟩, ⟨0, none⟩, ⟨0, none⟩, ⟨0, none⟩, ⟨0, none⟩, ⟨0, none⟩, ⟨0, none⟩, ⟨0, none⟩, ⟨0, none⟩, ⟨0, none⟩, ⟨0, none⟩, ⟨0, none⟩], List.replicate 28 0⟩
theorem f75_l0_eq (run : Run) (n : Nat) (k0 : Nat) (x8_1 : Int) (o2_1 : List AV) (o3_1 : List AV) : f75_l0 run n (k0 + 1) x8_1 o2_1 o3_1 =
  bif ltI x8_1 4 then
    bif inR (IntKind.wrap .i64 (3 - x8_1)) 4 then
    bif inR (IntKind.wrap .i64 (3 - x8_1)) 4 then
    bif ltI ((AV.fld (.agg o2_1) (Int.toNat (IntKind.wrap .i64 (3 - x8_1)))).toInt) ((AV.fld (.agg o3_1) (Int.toNat (IntKind.wrap .i64 (3 - x8_1)))).toInt) then
    some ⟨[.int (-1)], [], f75_fresh⟩
  else
    bif ltI ((AV.fld (.agg o3_1) (Int.toNat (IntKind.wrap .i64 (3 - x8_1)))).toInt) ((AV.fld (.agg o2_1) (Int.toNat (IntKind.wrap .i64 (3 - x8_1)))).toInt) then
    some ⟨[.int 1], [], f75_fresh⟩
  else
    f75_l0 run n k0 (IntKind.wrap .i64 (x8_1 + 1)) o2_1 o3_1
  else none
  else none
  else
    some ⟨[.int 0], [], f75_fresh⟩ := by kernel_rfl
noncomputable def f75 (run : Run) (n : Nat) (a0_1 : List AV) (a1_1 : List AV) : Option Res := evalK G run n f75_info.keep 0 f75_info.body (retE G f75_info) (f75_info.start [.agg a0_1, .agg a1_1])
theorem f75_eq (run : Run) (n : Nat) (a0_1 : List AV) (a1_1 : List AV) : f75 run n a0_1 a1_1 =
  f75_l0 run n n 0 a0_1 a1_1 := by kernel_rfl
theorem f75_run (ext : Run) (n : Nat) (a0_1 : List AV) (a1_1 : List AV) : runE G ext (n + 1) 75 [.agg a0_1, .agg a1_1] = f75 (runE G ext n) n a0_1 a1_1 := runE_succ f75_at f75_in

noncomputable def f35 (run : Run) (n : Nat) (a0_1 : List UInt8) (a1_1 : List UInt8) : Option Res := evalK G run n f35_info.keep 0 f35_info.body (retE G f35_info) (f35_info.start [.blob a0_1, .blob a1_1])
theorem f35_eq (run : Run) (n : Nat) (a0_1 : List UInt8) (a1_1 : List UInt8) : f35 run n a0_1 a1_1 =
  (run 76 [.blob a0_1]).bind fun r1 =>
    nilV r1.outs (consV r1.vals fun v1 vs1 =>
    nilV vs1 ((run 76 [.blob a1_1]).bind fun r2 =>
    nilV r2.outs (consV r2.vals fun v2 vs2 =>
    nilV vs2 ((run 75 [.agg v1.toAgg, .agg v2.toAgg]).bind fun r3 =>
    nilV r3.outs (consV r3.vals fun v3 vs3 =>
    nilV vs3 (some ⟨[.bool (leI v3.toInt 0)], [], f35_fresh⟩)))))) := by kernel_rfl
theorem f35_run (ext : Run) (n : Nat) (a0_1 : List UInt8) (a1_1 : List UInt8) : runE G ext (n + 1) 35 [.blob a0_1, .blob a1_1] = f35 (runE G ext n) n a0_1 a1_1 := runE_succ f35_at f35_in

noncomputable def f99_l0 (run : Run) (n : Nat) (k0 : Nat) (x2_1 : Int) (o3_1 : List UInt8) (o4_1 : Int) (o4_2 : List UInt8) (o4_3 : List UInt8) (o4_4 : Int) (o6_1 : Int) (o6_2 : List UInt8) (o6_3 : List UInt8) (o6_4 : Int) : Option Res :=
  iterK (evalK G run n f99_keep 0 (sub [1, 0, 0, 0] f99_body)) f99_t0 f99_o0 (blockK 0 (seqK (evalK G run n f99_keep 0 (sub [1, 1] f99_body) (retE G f99_info)) (retE G f99_info))) k0
    ⟨[.any, .any, .val (.int .i64) none (.int x2_1), .ptr ⟨(.blob 32), 3, 1, []⟩, .ptr ⟨(.struct [(.int .u32), (.blob 32), (.blob 32), (.int .u64)]), 4, 1, []⟩, .any, .ptr ⟨(.struct [(.int .u32), (.blob 32), (.blob 32), (.int .u64)]), 6, 1, []⟩, .any, .any, .any, .any, .any, .any, .any, .any, .any, .any, .any, .any, .any, .any, .any], [⟨0, none⟩, ⟨0, none⟩, ⟨0, none⟩, ⟨1, some ⟨(.blob 32), .blob o3_1⟩⟩, ⟨1, some ⟨(.struct [(.int .u32), (.blob 32), (.blob 32), (.int .u64)]), .agg [.int o4_1, .blob o4_2, .blob o4_3, .int o4_4]⟩⟩, ⟨0, none⟩, ⟨1, some ⟨(.struct [(.int .u32), (.blob 32), (.blob 32), (.int .u64)]), .agg [.int o6_1, .blob o6_2, .blob o6_3, .int o6_4]⟩⟩, ⟨0, none⟩, ⟨0, none⟩, ⟨0, none⟩, ⟨0, none⟩, ⟨0, none⟩, ⟨0, none⟩, ⟨0, none⟩, ⟨0, none⟩, ⟨0, none⟩, ⟨0, none⟩, ⟨0, none⟩, ⟨0, none⟩, ⟨0, none⟩, ⟨0, none⟩, ⟨0, none⟩], List.replicate 22 0⟩
theorem f99_l0_eq (run : Run) (n : Nat) (k0 : Nat) (x2_1 : Int) (o3_1 : List UInt8) (o4_1 : Int) (o4_2 : List UInt8) (o4_3 : List UInt8) (o4_4 : Int) (o6_1 : Int) (o6_2 : List UInt8) (o6_3 : List UInt8) (o6_4 : Int) : f99_l0 run n (k0 + 1) x2_1 o3_1 o4_1 o4_2 o4_3 o4_4 o6_1 o6_2 o6_3 o6_4 =
  bif ltI 0 x2_1 then
    (run 36 [.agg [.int o4_1, .blob o4_2, .blob o4_3, .int o4_4]]).bind fun r1 =>
    nilV r1.outs (consV r1.vals fun v1 vs1 =>
    nilV vs1 ((run 35 [.blob v1.toBlob, .blob o3_1]).bind fun r2 =>
    nilV r2.outs (consV r2.vals fun v2 vs2 =>
    nilV vs2 (bif v2.toBool then
    some ⟨[.agg [.int o4_1, .blob o4_2, .blob o4_3, .int o4_4], .bool true], [], f99_fresh⟩
  else
    f99_l0 run n k0 (IntKind.wrap .i64 (x2_1 - 1)) o3_1 o4_1 o4_2 o4_3 (IntKind.wrap .u64 (o4_4 + 1)) o6_1 o6_2 o6_3 o6_4))))
  else
    some ⟨[.agg [.int 0, .blob (List.replicate 32 0), .blob (List.replicate 32 0), .int 0], .bool false], [], f99_fresh⟩ := by kernel_rfl
noncomputable def f99 (run : Run) (n : Nat) (a0_1 : List UInt8) (a1_1 : Int) (a1_2 : List UInt8) (a1_3 : List UInt8) (a1_4 : Int) (a2_1 : Int) : Option Res := evalK G run n f99_info.keep 0 f99_info.body (retE G f99_info) (f99_info.start [.blob a0_1, .agg [.int a1_1, .blob a1_2, .blob a1_3, .int a1_4], .int a2_1])
theorem f99_eq (run : Run) (n : Nat) (a0_1 : List UInt8) (a1_1 : Int) (a1_2 : List UInt8) (a1_3 : List UInt8) (a1_4 : Int) (a2_1 : Int) : f99 run n a0_1 a1_1 a1_2 a1_3 a1_4 a2_1 =
  f99_l0 run n n a2_1 a0_1 a1_1 a1_2 a1_3 a1_4 0 (List.replicate 32 0) (List.replicate 32 0) 0 := by kernel_rfl
theorem f99_run (ext : Run) (n : Nat) (a0_1 : List UInt8) (a1_1 : Int) (a1_2 : List UInt8) (a1_3 : List UInt8) (a1_4 : Int) (a2_1 : Int) : runE G ext (n + 1) 99 [.blob a0_1, .agg [.int a1_1, .blob a1_2, .blob a1_3, .int a1_4], .int a2_1] = f99 (runE G ext n) n a0_1 a1_1 a1_2 a1_3 a1_4 a2_1 := runE_succ f99_at f99_in

noncomputable def f63 (run : Run) (n : Nat) (a0_1 : List UInt8) (a1_1 : Int) (a2_1 : List AV) (a3_1 : List AV) (a4_1 : Int) (a5_1 : Int) : Option Res := evalK G run n f63_info.keep 0 f63_info.body (retE G f63_info) (f63_info.start [.blob a0_1, .int a1_1, .slice a2_1, .slice a3_1, .int a4_1, .int a5_1])
theorem f63_eq (run : Run) (n : Nat) (a0_1 : List UInt8) (a1_1 : Int) (a2_1 : List AV) (a3_1 : List AV) (a4_1 : Int) (a5_1 : Int) : f63 run n a0_1 a1_1 a2_1 a3_1 a4_1 a5_1 =
  (run 97 [.slice a3_1]).bind fun r1 =>
    nilV r1.outs (consV r1.vals fun v1 vs1 =>
    nilV vs1 (bif !(eqI v1.toInt 0) then
    some ⟨[.agg [.agg [.int 0, .blob (List.replicate 32 0), .blob (List.replicate 32 0), .int 0], .slice []], .int v1.toInt], [], f63_fresh⟩
  else
    (run 98 [.int (IntKind.wrap .u32 a1_1), .slice a2_1, .slice a3_1, .int a4_1]).bind fun r2 =>
    nilV r2.outs (consV r2.vals fun v2 vs2 =>
    nilV vs2 ((run 99 [.blob a0_1, .agg [.int (((v2.fld 0).fld 0).toInt), .blob (((v2.fld 0).fld 1).toBlob), .blob (((v2.fld 0).fld 2).toBlob), .int (((v2.fld 0).fld 3).toInt)], .int a5_1]).bind fun r3 =>
    nilV r3.outs (consV r3.vals fun v3 vs3 =>
    consV vs3 fun v4 vs4 =>
    nilV vs4 (bif !v4.toBool then
    some ⟨[.agg [.agg [.int 0, .blob (List.replicate 32 0), .blob (List.replicate 32 0), .int 0], .slice []], .int 9], [], f63_fresh⟩
  else
    some ⟨[.agg [.agg [.int ((v3.fld 0).toInt), .blob ((v3.fld 1).toBlob), .blob ((v3.fld 2).toBlob), .int ((v3.fld 3).toInt)], .slice ((v2.fld 1).toSlice)], .int 0], [], f63_fresh⟩)))))) := by kernel_rfl
theorem f63_run (ext : Run) (n : Nat) (a0_1 : List UInt8) (a1_1 : Int) (a2_1 : List AV) (a3_1 : List AV) (a4_1 : Int) (a5_1 : Int) : runE G ext (n + 1) 63 [.blob a0_1, .int a1_1, .slice a2_1, .slice a3_1, .int a4_1, .int a5_1] = f63 (runE G ext n) n a0_1 a1_1 a2_1 a3_1 a4_1 a5_1 := runE_succ f63_at f63_in

noncomputable def f62 (run : Run) (n : Nat) (a0_1 : List UInt8) (a1_1 : List AV) (a2_1 : Int) (a3_1 : Int) : Option Res := evalK G run n f62_info.keep 0 f62_info.body (retE G f62_info) (f62_info.start [.blob a0_1, .slice a1_1, .int a2_1, .int a3_1])
theorem f62_eq (run : Run) (n : Nat) (a0_1 : List UInt8) (a1_1 : List AV) (a2_1 : Int) (a3_1 : Int) : f62 run n a0_1 a1_1 a2_1 a3_1 =
  (run 63 [.blob a0_1, .int 0, .slice [], .slice a1_1, .int a2_1, .int a3_1]).bind fun r1 =>
    nilV r1.outs (consV r1.vals fun v1 vs1 =>
    consV vs1 fun v2 vs2 =>
    nilV vs2 (some ⟨[.agg [.agg [.int (((v1.fld 0).fld 0).toInt), .blob (((v1.fld 0).fld 1).toBlob), .blob (((v1.fld 0).fld 2).toBlob), .int (((v1.fld 0).fld 3).toInt)], .slice ((v1.fld 1).toSlice)], .int v2.toInt], [], f62_fresh⟩)) := by kernel_rfl
theorem f62_run (ext : Run) (n : Nat) (a0_1 : List UInt8) (a1_1 : List AV) (a2_1 : Int) (a3_1 : Int) : runE G ext (n + 1) 62 [.blob a0_1, .slice a1_1, .int a2_1, .int a3_1] = f62 (runE G ext n) n a0_1 a1_1 a2_1 a3_1 := runE_succ f62_at f62_in

noncomputable def f65 (run : Run) (n : Nat) (a0_1 : Int) (a0_2 : List UInt8) (a0_3 : List UInt8) (a0_4 : Int) (a0_5 : List AV) : Option Res := evalK G run n f65_info.keep 0 f65_info.body (retE G f65_info) (f65_info.start [.agg [.agg [.int a0_1, .blob a0_2, .blob a0_3, .int a0_4], .slice a0_5]])
theorem f65_eq (run : Run) (n : Nat) (a0_1 : Int) (a0_2 : List UInt8) (a0_3 : List UInt8) (a0_4 : Int) (a0_5 : List AV) : f65 run n a0_1 a0_2 a0_3 a0_4 a0_5 =
  (run 36 [.agg [.int a0_1, .blob a0_2, .blob a0_3, .int a0_4]]).bind fun r1 =>
    nilV r1.outs (consV r1.vals fun v1 vs1 =>
    nilV vs1 (some ⟨[.blob v1.toBlob], [], f65_fresh⟩)) := by kernel_rfl
theorem f65_run (ext : Run) (n : Nat) (a0_1 : Int) (a0_2 : List UInt8) (a0_3 : List UInt8) (a0_4 : Int) (a0_5 : List AV) : runE G ext (n + 1) 65 [.agg [.agg [.int a0_1, .blob a0_2, .blob a0_3, .int a0_4], .slice a0_5]] = f65 (runE G ext n) n a0_1 a0_2 a0_3 a0_4 a0_5 := runE_succ f65_at f65_in

noncomputable def f95 (run : Run) (n : Nat) (a0_1 : List UInt8) : Option Res := evalK G run n f95_info.keep 0 f95_info.body (retE G f95_info) (f95_info.start [.blob a0_1])
theorem f95_eq (run : Run) (n : Nat) (a0_1 : List UInt8) : f95 run n a0_1 =
  some ⟨[.slice [.blob a0_1]], [], f95_fresh⟩ := by kernel_rfl
theorem f95_run (ext : Run) (n : Nat) (a0_1 : List UInt8) : runE G ext (n + 1) 95 [.blob a0_1] = f95 (runE G ext n) n a0_1 := runE_succ f95_at f95_in

noncomputable def f100_l0 (run : Run) (n : Nat) (k0 : Nat) (x6_1 : Int) (x7_1 : Int) (x21_1 : Int) (x22_1 : Int) (o2_1 : List AV) (o4_1 : List AV) (o5_1 : List AV) : Option Res :=
  iterK (evalK G run n f100_keep 0 (sub [1, 1, 1, 1, 1, 0, 1, 0, 0] f100_body)) f100_t0 f100_o0 (blockK 0 (seqK (evalK G run n f100_keep 0 (sub [1, 1, 1, 1, 1, 1] f100_body) (retE G f100_info)) (retE G f100_info))) k0
    ⟨[.any, .any, .ptr ⟨(.arr 4 (.int .u64)), 2, 1, []⟩, .any, .ptr ⟨(.arr 4 (.int .u64)), 4, 1, []⟩, .ptr ⟨(.arr 4 (.int .u64)), 5, 1, []⟩, .val (.int .i64) none (.int x6_1), .val (.int .u64) none (.int x7_1), .any, .any, .any, .any, .any, .any, .any, .any, .any, .any, .any, .any, .any, .val (.int .i64) none (.int x21_1), .val (.int .i64) none (.int x22_1), .any, .any, .any, .any, .any, .any, .any, .any, .any, .any, .any, .any, .any, .any, .any, .any, .any, .any, .any, .any, .any, .any, .any, .any, .any, .any, .any, .any, .any, .any, .any, .any, .any, .any, .any, .any], [⟨0, none⟩, ⟨0, none⟩, ⟨1, some ⟨(.arr 4 (.int .u64)), .agg o2_1⟩⟩, ⟨0, none⟩, ⟨1, some ⟨(.arr 4 (.int .u64)), .agg o4_1⟩⟩, ⟨1, some ⟨(.arr 4 (.int .u64)), .agg o5_1⟩⟩, ⟨0, none⟩, ⟨0, none⟩, ⟨0, none⟩, ⟨0, none⟩, ⟨0, none⟩, ⟨0, none⟩, ⟨0, none⟩, ⟨0, none⟩, ⟨0, none⟩, ⟨0, none⟩, ⟨0, none⟩, ⟨0, none⟩, ⟨0, none⟩, ⟨0, none⟩, ⟨0, none⟩, ⟨0, none⟩, ⟨0, none⟩, ⟨0, none⟩, ⟨0, none⟩, ⟨0, none⟩, ⟨0, none⟩, ⟨0, none⟩, ⟨0, none⟩, ⟨0, none⟩, ⟨0, none⟩, ⟨0, none⟩, ⟨0, none⟩, ⟨0, none⟩, ⟨0, none⟩, ⟨0, none⟩, ⟨0, none⟩, ⟨0, none⟩, ⟨0, none⟩, ⟨0, none⟩, ⟨0, none⟩, ⟨0, none⟩, ⟨0, none⟩, ⟨0, none⟩, ⟨0, none⟩, ⟨0, none⟩, ⟨0, none⟩, ⟨0, none⟩, ⟨0, none⟩, ⟨0, none⟩, ⟨0, none⟩, ⟨0, none⟩, ⟨0, none⟩, ⟨0, none⟩, ⟨0, none⟩, ⟨0, none⟩, ⟨0, none⟩, ⟨0, none⟩, ⟨0, none⟩], List.replicate 59 0⟩
theorem f100_l0_eq (run : Run) (n : Nat) (k0 : Nat) (x6_1 : Int) (x7_1 : Int) (x21_1 : Int) (x22_1 : Int) (o2_1 : List AV) (o4_1 : List AV) (o5_1 : List AV) : f100_l0 run n (k0 + 1) x6_1 x7_1 x21_1 x22_1 o2_1 o4_1 o5_1 =
  bif ltI x22_1 x21_1 then
    bif inR (IntKind.wrap .i64 (x22_1 + x6_1)) 4 then
    bif leI 0 x7_1 then
    bif inR x22_1 4 then
    bif ltI 0 x7_1 then
    bif ltI (IntKind.wrap .i64 (IntKind.wrap .i64 (x22_1 + x6_1) + 1)) 4 then
    bif inR x22_1 4 then
    bif inR (IntKind.wrap .i64 (IntKind.wrap .i64 (x22_1 + x6_1) + 1)) 4 then
    bif leI 0 (IntKind.wrap .u64 (64 - x7_1)) then
    bif inR x22_1 4 then
    f100_l0 run n k0 x6_1 x7_1 x21_1 (IntKind.wrap .i64 (x22_1 + 1)) o2_1 o4_1 ((o5_1.set (Int.toNat x22_1) (.int (Int.fdiv ((AV.fld (.agg o2_1) (Int.toNat (IntKind.wrap .i64 (x22_1 + x6_1)))).toInt) (2 ^ (min (Int.toNat x7_1) 64))))).set (Int.toNat x22_1) (.int (IntKind.wrap .u64 (BitVec.toNat (BitVec.ofInt 64 ((AV.fld (.agg (o5_1.set (Int.toNat x22_1) (.int (Int.fdiv ((AV.fld (.agg o2_1) (Int.toNat (IntKind.wrap .i64 (x22_1 + x6_1)))).toInt) (2 ^ (min (Int.toNat x7_1) 64)))))) (Int.toNat x22_1)).toInt) ||| BitVec.ofInt 64 (IntKind.wrap .u64 ((AV.fld (.agg o2_1) (Int.toNat (IntKind.wrap .i64 (IntKind.wrap .i64 (x22_1 + x6_1) + 1)))).toInt * 2 ^ (min (Int.toNat (IntKind.wrap .u64 (64 - x7_1))) 64))))))))
  else none
  else none
  else none
  else none
  else
    f100_l0 run n k0 x6_1 x7_1 x21_1 (IntKind.wrap .i64 (x22_1 + 1)) o2_1 o4_1 (o5_1.set (Int.toNat x22_1) (.int (Int.fdiv ((AV.fld (.agg o2_1) (Int.toNat (IntKind.wrap .i64 (x22_1 + x6_1)))).toInt) (2 ^ (min (Int.toNat x7_1) 64)))))
  else
    f100_l0 run n k0 x6_1 x7_1 x21_1 (IntKind.wrap .i64 (x22_1 + 1)) o2_1 o4_1 (o5_1.set (Int.toNat x22_1) (.int (Int.fdiv ((AV.fld (.agg o2_1) (Int.toNat (IntKind.wrap .i64 (x22_1 + x6_1)))).toInt) (2 ^ (min (Int.toNat x7_1) 64)))))
  else none
  else none
  else none
  else
    some ⟨[.agg o5_1], [], f100_fresh⟩ := by kernel_rfl
noncomputable def f100 (run : Run) (n : Nat) (a0_1 : List AV) (a1_1 : Int) : Option Res := evalK G run n f100_info.keep 0 f100_info.body (retE G f100_info) (f100_info.start [.agg a0_1, .int a1_1])
theorem f100_eq (run : Run) (n : Nat) (a0_1 : List AV) (a1_1 : Int) : f100 run n a0_1 a1_1 =
  bif leI a1_1 0 then
    some ⟨[.agg a0_1], [], f100_fresh⟩
  else
    bif leI 256 a1_1 then
    some ⟨[.agg [.int 0, .int 0, .int 0, .int 0]], [], f100_fresh⟩
  else
    f100_l0 run n n (IntKind.wrap .i64 (Int.tdiv a1_1 64)) (IntKind.wrap .u64 (Int.tmod a1_1 64)) (IntKind.wrap .i64 (4 - IntKind.wrap .i64 (Int.tdiv a1_1 64))) 0 a0_1 (List.replicate 4 (.int 0)) (List.replicate 4 (.int 0)) := by kernel_rfl
theorem f100_run (ext : Run) (n : Nat) (a0_1 : List AV) (a1_1 : Int) : runE G ext (n + 1) 100 [.agg a0_1, .int a1_1] = f100 (runE G ext n) n a0_1 a1_1 := runE_succ f100_at f100_in

noncomputable def f66_l0 (run : Run) (n : Nat) (k0 : Nat) (x7_1 : Int) (x13_1 : Int) (o5_1 : List AV) (o6_1 : List AV) : Option Res :=
  iterK (evalK G run n f66_keep 0 (sub [1, 1, 1, 0, 1, 0, 0] f66_body)) f66_t0 f66_o0 (blockK 0 (seqK (evalK G run n f66_keep 0 (sub [1, 1, 1, 1] f66_body) (retE G f66_info)) (retE G f66_info))) k0
    ⟨[.any, .any, .any, .any, .any, .ptr ⟨(.arr 4 (.int .u64)), 5, 1, []⟩, .ptr ⟨(.arr 4 (.int .u64)), 6, 1, []⟩, .val (.int .i64) none (.int x7_1), .any, .any, .any, .any, .any, .val (.int .i64) none (.int x13_1), .any, .any, .any, .any, .any, .any, .any, .any, .any, .any, .any], [⟨0, none⟩, ⟨0, none⟩, ⟨0, none⟩, ⟨0, none⟩, ⟨0, none⟩, ⟨1, some ⟨(.arr 4 (.int .u64)), .agg o5_1⟩⟩, ⟨1, some ⟨(.arr 4 (.int .u64)), .agg o6_1⟩⟩, ⟨0, none⟩, ⟨0, none⟩, ⟨0, none⟩, ⟨0, none⟩, ⟨0, none⟩, ⟨0, none⟩, ⟨0, none⟩, ⟨0, none⟩, ⟨0, none⟩, ⟨0, none⟩, ⟨0, none⟩, ⟨0, none⟩, ⟨0, none⟩, ⟨0, none⟩, ⟨0, none⟩, ⟨0, none⟩, ⟨0, none⟩, ⟨0, none⟩], List.replicate 25 0⟩
theorem f66_l0_eq (run : Run) (n : Nat) (k0 : Nat) (x7_1 : Int) (x13_1 : Int) (o5_1 : List AV) (o6_1 : List AV) : f66_l0 run n (k0 + 1) x7_1 x13_1 o5_1 o6_1 =
  bif ltI x13_1 256 then
    (run 100 [.agg o6_1, .int x13_1]).bind fun r3 =>
    nilV r3.outs (consV r3.vals fun v3 vs3 =>
    nilV vs3 ((run 75 [.agg o5_1, .agg v3.toAgg]).bind fun r4 =>
    nilV r4.outs (consV r4.vals fun v4 vs4 =>
    nilV vs4 (bif ltI 0 v4.toInt then
    some ⟨[.int x7_1], [], f66_fresh⟩
  else
    f66_l0 run n k0 x13_1 (IntKind.wrap .i64 (x13_1 + 1)) o5_1 o6_1))))
  else
    some ⟨[.int x7_1], [], f66_fresh⟩ := by kernel_rfl
noncomputable def f66 (run : Run) (n : Nat) (a0_1 : List UInt8) (a1_1 : List UInt8) : Option Res := evalK G run n f66_info.keep 0 f66_info.body (retE G f66_info) (f66_info.start [.blob a0_1, .blob a1_1])
theorem f66_eq (run : Run) (n : Nat) (a0_1 : List UInt8) (a1_1 : List UInt8) : f66 run n a0_1 a1_1 =
  (run 76 [.blob a0_1]).bind fun r1 =>
    nilV r1.outs (consV r1.vals fun v1 vs1 =>
    nilV vs1 ((run 76 [.blob a1_1]).bind fun r2 =>
    nilV r2.outs (consV r2.vals fun v2 vs2 =>
    nilV vs2 (f66_l0 run n n (-1) 0 v1.toAgg v2.toAgg)))) := by kernel_rfl
theorem f66_run (ext : Run) (n : Nat) (a0_1 : List UInt8) (a1_1 : List UInt8) : runE G ext (n + 1) 66 [.blob a0_1, .blob a1_1] = f66 (runE G ext n) n a0_1 a1_1 := runE_succ f66_at f66_in

noncomputable def f96_l2 (run : Run) (n : Nat) (_k0 : Nat) (k2 : Nat) (m3 : Nat) (x48_1 : Int) (x49_1 : Int) (o4_3 : List UInt8) (o8_3 : List UInt8) (o22_3 : List AV) : Option Res :=
  iterK (evalK G run n f96_keep 2 (sub [1, 1, 1, 1, 1, 1, 1, 0, 1, 0, 0] f96_body)) f96_t2 f96_o2 (blockK 2 (seqK (evalK G run n f96_keep 0 (sub [1, 1, 1, 1, 1, 1, 1, 1] f96_body) (retE G f96_info)) (retE G f96_info))) k2
    ⟨[.any, .any, .any, .any, .ptr ⟨(.blob 32), 4, 1, []⟩, .any, .any, .ref ⟨(.arr m3 (.blob 32)), 22, 1, []⟩ 0 m3, .ptr ⟨(.blob 32), 8, 1, []⟩, .any, .any, .any, .any, .any, .any, .any, .any, .any, .any, .any, .any, .any, .any, .any, .any, .any, .any, .any, .any, .any, .any, .any, .any, .any, .any, .any, .any, .any, .any, .any, .any, .any, .any, .any, .any, .any, .any, .any, .val (.int .i64) none (.int x48_1), .val (.int .i64) none (.int x49_1), .any, .any, .any, .any, .any, .any, .any, .any, .any, .any, .any, .any, .any, .any], [⟨0, none⟩, ⟨0, none⟩, ⟨0, none⟩, ⟨0, none⟩, ⟨1, some ⟨(.blob 32), .blob o4_3⟩⟩, ⟨0, none⟩, ⟨0, none⟩, ⟨0, none⟩, ⟨1, some ⟨(.blob 32), .blob o8_3⟩⟩, ⟨0, none⟩, ⟨0, none⟩, ⟨0, none⟩, ⟨0, none⟩, ⟨0, none⟩, ⟨0, none⟩, ⟨0, none⟩, ⟨0, none⟩, ⟨0, none⟩, ⟨0, none⟩, ⟨0, none⟩, ⟨0, none⟩, ⟨0, none⟩, ⟨1, some ⟨(.arr m3 (.blob 32)), .agg o22_3⟩⟩, ⟨0, none⟩, ⟨0, none⟩, ⟨0, none⟩, ⟨0, none⟩, ⟨0, none⟩, ⟨0, none⟩, ⟨0, none⟩, ⟨0, none⟩, ⟨0, none⟩, ⟨0, none⟩, ⟨0, none⟩, ⟨0, none⟩, ⟨0, none⟩, ⟨0, none⟩, ⟨0, none⟩, ⟨0, none⟩, ⟨0, none⟩, ⟨0, none⟩, ⟨0, none⟩, ⟨0, none⟩, ⟨0, none⟩, ⟨0, none⟩, ⟨0, none⟩, ⟨0, none⟩, ⟨0, none⟩, ⟨0, none⟩, ⟨0, none⟩, ⟨0, none⟩, ⟨0, none⟩, ⟨0, none⟩, ⟨0, none⟩, ⟨0, none⟩, ⟨0, none⟩, ⟨0, none⟩, ⟨0, none⟩, ⟨0, none⟩, ⟨0, none⟩, ⟨0, none⟩, ⟨0, none⟩, ⟨0, none⟩, ⟨0, none⟩], List.replicate 64 0⟩
noncomputable def f96_l0 (run : Run) (n : Nat) (k0 : Nat) (x0_1 : List AV) (x2_1 : Int) (m1 : Nat) (x30_1 : Int) (x31_1 : Int) (o4_1 : List UInt8) (o8_1 : List UInt8) (o22_1 : List AV) : Option Res :=
  iterK (evalK G run n f96_keep 0 (sub [1, 1, 1, 1, 1, 0, 1, 0, 0] f96_body)) f96_t0 f96_o0 (blockK 0 (seqK (evalK G run n f96_keep 0 (sub [1, 1, 1, 1, 1, 1] f96_body) (retE G f96_info)) (retE G f96_info))) k0
    ⟨[.val (.slice (.blob 32)) none (.slice x0_1), .any, .val (.int .i64) none (.int x2_1), .any, .ptr ⟨(.blob 32), 4, 1, []⟩, .any, .any, .ref ⟨(.arr m1 (.blob 32)), 22, 1, []⟩ 0 m1, .ptr ⟨(.blob 32), 8, 1, []⟩, .any, .any, .any, .any, .any, .any, .any, .any, .any, .any, .any, .any, .any, .any, .any, .any, .any, .any, .any, .any, .any, .val (.int .i64) none (.int x30_1), .val (.int .i64) none (.int x31_1), .any, .any, .any, .any, .any, .any, .any, .any, .any, .any, .any, .any, .any, .any, .any, .any, .any, .any, .any, .any, .any, .any, .any, .any, .any, .any, .any, .any, .any, .any, .any, .any], [⟨0, none⟩, ⟨0, none⟩, ⟨0, none⟩, ⟨0, none⟩, ⟨1, some ⟨(.blob 32), .blob o4_1⟩⟩, ⟨0, none⟩, ⟨0, none⟩, ⟨0, none⟩, ⟨1, some ⟨(.blob 32), .blob o8_1⟩⟩, ⟨0, none⟩, ⟨0, none⟩, ⟨0, none⟩, ⟨0, none⟩, ⟨0, none⟩, ⟨0, none⟩, ⟨0, none⟩, ⟨0, none⟩, ⟨0, none⟩, ⟨0, none⟩, ⟨0, none⟩, ⟨0, none⟩, ⟨0, none⟩, ⟨1, some ⟨(.arr m1 (.blob 32)), .agg o22_1⟩⟩, ⟨0, none⟩, ⟨0, none⟩, ⟨0, none⟩, ⟨0, none⟩, ⟨0, none⟩, ⟨0, none⟩, ⟨0, none⟩, ⟨0, none⟩, ⟨0, none⟩, ⟨0, none⟩, ⟨0, none⟩, ⟨0, none⟩, ⟨0, none⟩, ⟨0, none⟩, ⟨0, none⟩, ⟨0, none⟩, ⟨0, none⟩, ⟨0, none⟩, ⟨0, none⟩, ⟨0, none⟩, ⟨0, none⟩, ⟨0, none⟩, ⟨0, none⟩, ⟨0, none⟩, ⟨0, none⟩, ⟨0, none⟩, ⟨0, none⟩, ⟨0, none⟩, ⟨0, none⟩, ⟨0, none⟩, ⟨0, none⟩, ⟨0, none⟩, ⟨0, none⟩, ⟨0, none⟩, ⟨0, none⟩, ⟨0, none⟩, ⟨0, none⟩, ⟨0, none⟩, ⟨0, none⟩, ⟨0, none⟩, ⟨0, none⟩], List.replicate 64 0⟩
theorem f96_l2_eq (run : Run) (n : Nat) (k0 : Nat) (k2 : Nat) (m3 : Nat) (x48_1 : Int) (x49_1 : Int) (o4_3 : List UInt8) (o8_3 : List UInt8) (o22_3 : List AV) : f96_l2 run n k0 (k2 + 1) m3 x48_1 x49_1 o4_3 o8_3 o22_3 =
  bif ltI x49_1 x48_1 then
    bif inR x49_1 m3 then
    f96_l2 run n k0 k2 m3 x48_1 (IntKind.wrap .i64 (x49_1 + 1)) o4_3 o8_3 (o22_3.set (0 + (Int.toNat x49_1)) (.blob o4_3))
  else none
  else
    bif inR (IntKind.wrap .i64 ((m3 : Int) - 1)) m3 then
    some ⟨[.slice (List.drop 0 (List.take m3 (o22_3.set (0 + (Int.toNat (IntKind.wrap .i64 ((m3 : Int) - 1)))) (.blob o8_3))))], [], f96_fresh⟩
  else none := by kernel_rfl
theorem f96_l0_eq (run : Run) (n : Nat) (k0 : Nat) (x0_1 : List AV) (x2_1 : Int) (m1 : Nat) (x30_1 : Int) (x31_1 : Int) (o4_1 : List UInt8) (o8_1 : List UInt8) (o22_1 : List AV) : f96_l0 run n (k0 + 1) x0_1 x2_1 m1 x30_1 x31_1 o4_1 o8_1 o22_1 =
  bif ltI x31_1 x30_1 then
    bif inR x31_1 m1 then
    f96_l0 run n k0 x0_1 x2_1 m1 x30_1 (IntKind.wrap .i64 (x31_1 + 1)) o4_1 o8_1 (o22_1.set (0 + (Int.toNat x31_1)) (.blob o8_1))
  else none
  else
    bif boundsOk 0 (x0_1.length : Int) (x0_1.length : Int) (x0_1.length : Int) && true then
    f96_l2 run n k0 n m1 (IntKind.wrap .i64 (x2_1 + 1)) 0 o4_1 o8_1 (splice o22_1 0 (List.take m1 (List.drop 0 (List.take (Int.toNat (x0_1.length : Int)) x0_1))))
  else none := by kernel_rfl
noncomputable def f96 (run : Run) (n : Nat) (a0_1 : List AV) (a1_1 : List UInt8) (a2_1 : Int) : Option Res := evalK G run n f96_info.keep 0 f96_info.body (retE G f96_info) (f96_info.start [.slice a0_1, .blob a1_1, .int a2_1])
theorem f96_eq (run : Run) (n : Nat) (a0_1 : List AV) (a1_1 : List UInt8) (a2_1 : Int) : f96 run n a0_1 a1_1 a2_1 =
  bif eqI (a0_1.length : Int) 0 then
    some ⟨[.slice []], [], f96_fresh⟩
  else
    bif eqI (mx2 (a0_1.length : Int) (IntKind.wrap .i64 (mn2 (mx2 a2_1 0) 255 + 2))) (mx2 (a0_1.length : Int) (IntKind.wrap .i64 (mn2 (mx2 a2_1 0) 255 + 2))) && leI 0 (mx2 (a0_1.length : Int) (IntKind.wrap .i64 (mn2 (mx2 a2_1 0) 255 + 2))) && Nat.ble (Int.toNat (mx2 (a0_1.length : Int) (IntKind.wrap .i64 (mn2 (mx2 a2_1 0) 255 + 2))) * 32) 140737488355328 then
    bif inR (IntKind.wrap .i64 ((a0_1.length : Int) - 1)) a0_1.length then
    f96_l0 run n n a0_1 (mn2 (mx2 a2_1 0) 255) (Int.toNat (mx2 (a0_1.length : Int) (IntKind.wrap .i64 (mn2 (mx2 a2_1 0) 255 + 2)))) (Int.toNat (mx2 (a0_1.length : Int) (IntKind.wrap .i64 (mn2 (mx2 a2_1 0) 255 + 2))) : Int) 0 a1_1 ((nth a0_1 (Int.toNat (IntKind.wrap .i64 ((a0_1.length : Int) - 1)))).toBlob) (List.replicate (Int.toNat (mx2 (a0_1.length : Int) (IntKind.wrap .i64 (mn2 (mx2 a2_1 0) 255 + 2)))) (.blob (List.replicate 32 0)))
  else none
  else none := by kernel_rfl
theorem f96_run (ext : Run) (n : Nat) (a0_1 : List AV) (a1_1 : List UInt8) (a2_1 : Int) : runE G ext (n + 1) 96 [.slice a0_1, .blob a1_1, .int a2_1] = f96 (runE G ext n) n a0_1 a1_1 a2_1 := runE_succ f96_at f96_in

noncomputable def f61 (run : Run) (n : Nat) (a0_1 : List UInt8) (a1_1 : List AV) (a2_1 : Int) (a2_2 : List UInt8) (a2_3 : List UInt8) (a2_4 : Int) (a2_5 : List AV) (a3_1 : Int) : Option Res := evalK G run n f61_info.keep 0 f61_info.body (retE G f61_info) (f61_info.start [.blob a0_1, .slice a1_1, .agg [.agg [.int a2_1, .blob a2_2, .blob a2_3, .int a2_4], .slice a2_5], .int a3_1])
theorem f61_eq (run : Run) (n : Nat) (a0_1 : List UInt8) (a1_1 : List AV) (a2_1 : Int) (a2_2 : List UInt8) (a2_3 : List UInt8) (a2_4 : Int) (a2_5 : List AV) (a3_1 : Int) : f61 run n a0_1 a1_1 a2_1 a2_2 a2_3 a2_4 a2_5 a3_1 =
  (run 65 [.agg [.agg [.int a2_1, .blob a2_2, .blob a2_3, .int a2_4], .slice a2_5]]).bind fun r1 =>
    nilV r1.outs (consV r1.vals fun v1 vs1 =>
    nilV vs1 (bif eqI a3_1 0 then
    (run 95 [.blob v1.toBlob]).bind fun r2 =>
    bif r2.fresh then
    nilV r2.outs (consV r2.vals fun v2 vs2 =>
    nilV vs2 (some ⟨[.slice v2.toSlice], [], f61_fresh⟩))
  else none
  else
    (run 66 [.blob v1.toBlob, .blob a0_1]).bind fun r3 =>
    nilV r3.outs (consV r3.vals fun v3 vs3 =>
    nilV vs3 ((run 96 [.slice a1_1, .blob v1.toBlob, .int v3.toInt]).bind fun r4 =>
    nilV r4.outs (consV r4.vals fun v4 vs4 =>
    nilV vs4 (some ⟨[.slice v4.toSlice], [], f61_fresh⟩)))))) := by kernel_rfl
theorem f61_run (ext : Run) (n : Nat) (a0_1 : List UInt8) (a1_1 : List AV) (a2_1 : Int) (a2_2 : List UInt8) (a2_3 : List UInt8) (a2_4 : Int) (a2_5 : List AV) (a3_1 : Int) : runE G ext (n + 1) 61 [.blob a0_1, .slice a1_1, .agg [.agg [.int a2_1, .blob a2_2, .blob a2_3, .int a2_4], .slice a2_5], .int a3_1] = f61 (runE G ext n) n a0_1 a1_1 a2_1 a2_2 a2_3 a2_4 a2_5 a3_1 := runE_succ f61_at f61_in

noncomputable def f26_l0 (run : Run) (n : Nat) (k0 : Nat) (x5_1 : List AV) (x9_1 : List AV) (x10_1 : Int) (x11_1 : Int) (o2_1 : List UInt8) : Option Res :=
  iterK (evalK G run n f26_keep 0 (sub [1, 1, 0, 1, 0, 0] f26_body)) f26_t0 f26_o0 (blockK 0 (seqK (evalK G run n f26_keep 0 (sub [1, 1, 1] f26_body) (retE G f26_info)) (retE G f26_info))) k0
    ⟨[.any, .any, .ptr ⟨(.blob 32), 2, 1, []⟩, .any, .any, .val (.slice (.slice (.blob 32))) (some (5, 0)) (.slice x5_1), .any, .any, .any, .val (.slice (.struct [(.struct [(.int .u32), (.blob 32), (.blob 32), (.int .u64)]), (.slice .str)])) none (.slice x9_1), .val (.int .i64) none (.int x10_1), .val (.int .i64) none (.int x11_1), .any, .any, .any, .any, .any, .any, .any, .any, .any, .any, .any, .any, .any, .any, .any, .any, .any], [⟨0, none⟩, ⟨0, none⟩, ⟨1, some ⟨(.blob 32), .blob o2_1⟩⟩, ⟨0, none⟩, ⟨0, none⟩, ⟨0, none⟩, ⟨0, none⟩, ⟨0, none⟩, ⟨0, none⟩, ⟨0, none⟩, ⟨0, none⟩, ⟨0, none⟩, ⟨0, none⟩, ⟨0, none⟩, ⟨0, none⟩, ⟨0, none⟩, ⟨0, none⟩, ⟨0, none⟩, ⟨0, none⟩, ⟨0, none⟩, ⟨0, none⟩, ⟨0, none⟩, ⟨0, none⟩, ⟨0, none⟩, ⟨0, none⟩, ⟨0, none⟩, ⟨0, none⟩, ⟨0, none⟩, ⟨0, none⟩], List.replicate 29 0⟩
theorem f26_l0_eq (run : Run) (n : Nat) (k0 : Nat) (x5_1 : List AV) (x9_1 : List AV) (x10_1 : Int) (x11_1 : Int) (o2_1 : List UInt8) : f26_l0 run n (k0 + 1) x5_1 x9_1 x10_1 x11_1 o2_1 =
  bif ltI x11_1 x10_1 then
    bif inR x11_1 x9_1.length then
    bif inR x11_1 x5_1.length then
    (run 61 [.blob o2_1, .slice ((nth x5_1 (Int.toNat x11_1)).toSlice), .agg [.agg [.int ((((nth x9_1 (Int.toNat x11_1)).fld 0).fld 0).toInt), .blob ((((nth x9_1 (Int.toNat x11_1)).fld 0).fld 1).toBlob), .blob ((((nth x9_1 (Int.toNat x11_1)).fld 0).fld 2).toBlob), .int ((((nth x9_1 (Int.toNat x11_1)).fld 0).fld 3).toInt)], .slice (((nth x9_1 (Int.toNat x11_1)).fld 1).toSlice)], .int x11_1]).bind fun r1 =>
    nilV r1.outs (consV r1.vals fun v1 vs1 =>
    nilV vs1 (bif Nat.ble ((x5_1.length + 1) * 24) 140737488355328 then
    f26_l0 run n k0 (x5_1 ++ [.slice v1.toSlice]) x9_1 x10_1 (IntKind.wrap .i64 (x11_1 + 1)) o2_1
  else none))
  else none
  else none
  else
    some ⟨[.slice x5_1], [], f26_fresh⟩ := by kernel_rfl
noncomputable def f26 (run : Run) (n : Nat) (a0_1 : List UInt8) (a1_1 : List AV) : Option Res := evalK G run n f26_info.keep 0 f26_info.body (retE G f26_info) (f26_info.start [.blob a0_1, .slice a1_1])
theorem f26_eq (run : Run) (n : Nat) (a0_1 : List UInt8) (a1_1 : List AV) : f26 run n a0_1 a1_1 =
  f26_l0 run n n [.slice []] a1_1 (a1_1.length : Int) 0 a0_1 := by kernel_rfl
theorem f26_run (ext : Run) (n : Nat) (a0_1 : List UInt8) (a1_1 : List AV) : runE G ext (n + 1) 26 [.blob a0_1, .slice a1_1] = f26 (runE G ext n) n a0_1 a1_1 := runE_succ f26_at f26_in

noncomputable def f22 (run : Run) (n : Nat) (a0_1 : List UInt8) (a1_1 : List AV) (a2_1 : List AV) (a3_1 : Int) (a4_1 : Int) : Option Res := evalK G run n f22_info.keep 0 f22_info.body (retE G f22_info) (f22_info.start [.blob a0_1, .slice a1_1, .slice a2_1, .int a3_1, .int a4_1])
theorem f22_eq (run : Run) (n : Nat) (a0_1 : List UInt8) (a1_1 : List AV) (a2_1 : List AV) (a3_1 : Int) (a4_1 : Int) : f22 run n a0_1 a1_1 a2_1 a3_1 a4_1 =
  bif eqI (a1_1.length : Int) 0 then
    some ⟨[.agg [.agg [.int 0, .blob (List.replicate 32 0), .blob (List.replicate 32 0), .int 0], .slice []], .int 6], [], f22_fresh⟩
  else
    bif leI 1024 (a1_1.length : Int) then
    some ⟨[.agg [.agg [.int 0, .blob (List.replicate 32 0), .blob (List.replicate 32 0), .int 0], .slice []], .int 4], [], f22_fresh⟩
  else
    (run 26 [.blob a0_1, .slice a1_1]).bind fun r1 =>
    bif r1.fresh then
    nilV r1.outs (consV r1.vals fun v1 vs1 =>
    nilV vs1 (bif inR (a1_1.length : Int) v1.toSlice.length then
    (run 63 [.blob a0_1, .int (a1_1.length : Int), .slice ((nth v1.toSlice (Int.toNat (a1_1.length : Int))).toSlice), .slice a2_1, .int a3_1, .int a4_1]).bind fun r2 =>
    nilV r2.outs (consV r2.vals fun v2 vs2 =>
    consV vs2 fun v3 vs3 =>
    nilV vs3 (some ⟨[.agg [.agg [.int (((v2.fld 0).fld 0).toInt), .blob (((v2.fld 0).fld 1).toBlob), .blob (((v2.fld 0).fld 2).toBlob), .int (((v2.fld 0).fld 3).toInt)], .slice ((v2.fld 1).toSlice)], .int v3.toInt], [], f22_fresh⟩))
  else none))
  else none := by kernel_rfl
theorem f22_run (ext : Run) (n : Nat) (a0_1 : List UInt8) (a1_1 : List AV) (a2_1 : List AV) (a3_1 : Int) (a4_1 : Int) : runE G ext (n + 1) 22 [.blob a0_1, .slice a1_1, .slice a2_1, .int a3_1, .int a4_1] = f22 (runE G ext n) n a0_1 a1_1 a2_1 a3_1 a4_1 := runE_succ f22_at f22_in

noncomputable def f21_l0 (run : Run) (n : Nat) (k0 : Nat) (x2_1 : Int) (o1_1 : List UInt8) : Option Res :=
  iterK (evalK G run n f21_keep 0 (sub [1, 1, 0, 1, 0, 0] f21_body)) f21_t0 f21_o0 (blockK 0 (seqK (evalK G run n f21_keep 0 (sub [1, 1, 1] f21_body) (retE G f21_info)) (retE G f21_info))) k0
    ⟨[.any, .ptr ⟨(.blob 32), 1, 1, []⟩, .val (.int .i64) none (.int x2_1), .any, .any, .any, .any, .any, .any, .any, .any, .any, .any, .any, .any, .any, .any, .any, .any, .any, .any, .any, .any, .any, .any, .any, .any, .any, .any, .any, .any, .any, .any, .any, .any, .any, .any, .any, .any, .any, .any, .any, .any, .any, .any, .any, .any, .any, .any, .any], [⟨0, none⟩, ⟨1, some ⟨(.blob 32), .blob o1_1⟩⟩, ⟨0, none⟩, ⟨0, none⟩, ⟨0, none⟩, ⟨0, none⟩, ⟨0, none⟩, ⟨0, none⟩, ⟨0, none⟩, ⟨0, none⟩, ⟨0, none⟩, ⟨0, none⟩, ⟨0, none⟩, ⟨0, none⟩, ⟨0, none⟩, ⟨0, none⟩, ⟨0, none⟩, ⟨0, none⟩, ⟨0, none⟩, ⟨0, none⟩, ⟨0, none⟩, ⟨0, none⟩, ⟨0, none⟩, ⟨0, none⟩, ⟨0, none⟩, ⟨0, none⟩, ⟨0, none⟩, ⟨0, none⟩, ⟨0, none⟩, ⟨0, none⟩, ⟨0, none⟩, ⟨0, none⟩, ⟨0, none⟩, ⟨0, none⟩, ⟨0, none⟩, ⟨0, none⟩, ⟨0, none⟩, ⟨0, none⟩, ⟨0, none⟩, ⟨0, none⟩, ⟨0, none⟩, ⟨0, none⟩, ⟨0, none⟩, ⟨0, none⟩, ⟨0, none⟩, ⟨0, none⟩, ⟨0, none⟩, ⟨0, none⟩, ⟨0, none⟩, ⟨0, none⟩], List.replicate 50 0⟩
theorem f21_l0_eq (run : Run) (n : Nat) (k0 : Nat) (x2_1 : Int) (o1_1 : List UInt8) : f21_l0 run n (k0 + 1) x2_1 o1_1 =
  bif ltI x2_1 32 then
    bif inR x2_1 32 then
    f21_l0 run n k0 (IntKind.wrap .i64 (x2_1 + 1)) (o1_1.set (Int.toNat x2_1) (UInt8.ofNat (Int.toNat 255)))
  else none
  else
    (run 62 [.blob o1_1, .slice [.str [97]], .int 7, .int 1]).bind fun r1 =>
    nilV r1.outs (consV r1.vals fun v1 vs1 =>
    consV vs1 fun v2 vs2 =>
    nilV vs2 ((run 22 [.blob o1_1, .slice [.agg [.agg [.int (((v1.fld 0).fld 0).toInt), .blob (((v1.fld 0).fld 1).toBlob), .blob (((v1.fld 0).fld 2).toBlob), .int (((v1.fld 0).fld 3).toInt)], .slice ((v1.fld 1).toSlice)]], .slice [], .int 9, .int 1]).bind fun r2 =>
    nilV r2.outs (consV r2.vals fun v3 vs3 =>
    consV vs3 fun v4 vs4 =>
    nilV vs4 (bif eqI v2.toInt 0 then
    bif eqI (((v1.fld 0).fld 3).toInt) 7 then
    bif eqI v4.toInt 0 then
    bif eqI (((v3.fld 0).fld 0).toInt) 1 then
    some ⟨[.bool (eqI (((v3.fld 0).fld 3).toInt) 9)], [], f21_fresh⟩
  else
    some ⟨[.bool false], [], f21_fresh⟩
  else
    some ⟨[.bool false], [], f21_fresh⟩
  else
    some ⟨[.bool false], [], f21_fresh⟩
  else
    some ⟨[.bool false], [], f21_fresh⟩)))) := by kernel_rfl
noncomputable def f21 (run : Run) (n : Nat) : Option Res := evalK G run n f21_info.keep 0 f21_info.body (retE G f21_info) (f21_info.start [])
theorem f21_eq (run : Run) (n : Nat) : f21 run n  =
  f21_l0 run n n 0 (List.replicate 32 0) := by kernel_rfl
theorem f21_run (ext : Run) (n : Nat) : runE G ext (n + 1) 21 [] = f21 (runE G ext n) n  := runE_succ f21_at f21_in

noncomputable def f19_l0 (run : Run) (n : Nat) (k0 : Nat) (x0_1 : List AV) (x3_1 : Int) (x4_1 : Int) : Option Res :=
  iterK (evalK G run n f19_keep 0 (sub [1, 1, 0, 1, 0, 0] f19_body)) f19_t0 f19_o0 (blockK 0 (seqK (evalK G run n f19_keep 0 (sub [1, 1, 1] f19_body) (retE G f19_info)) (retE G f19_info))) k0
    ⟨[.val (.slice .str) none (.slice x0_1), .any, .any, .val (.int .i64) none (.int x3_1), .val (.int .i64) none (.int x4_1), .any, .any, .any, .any, .any, .any, .any, .any, .any, .any, .any, .any, .any, .any, .any, .any, .any, .any, .any, .any, .any, .any, .any, .any, .any, .any, .any, .any, .any, .any, .any, .any, .any, .any, .any, .any], [⟨0, none⟩, ⟨0, none⟩, ⟨0, none⟩, ⟨0, none⟩, ⟨0, none⟩, ⟨0, none⟩, ⟨0, none⟩, ⟨0, none⟩, ⟨0, none⟩, ⟨0, none⟩, ⟨0, none⟩, ⟨0, none⟩, ⟨0, none⟩, ⟨0, none⟩, ⟨0, none⟩, ⟨0, none⟩, ⟨0, none⟩, ⟨0, none⟩, ⟨0, none⟩, ⟨0, none⟩, ⟨0, none⟩, ⟨0, none⟩, ⟨0, none⟩, ⟨0, none⟩, ⟨0, none⟩, ⟨0, none⟩, ⟨0, none⟩, ⟨0, none⟩, ⟨0, none⟩, ⟨0, none⟩, ⟨0, none⟩, ⟨0, none⟩, ⟨0, none⟩, ⟨0, none⟩, ⟨0, none⟩, ⟨0, none⟩, ⟨0, none⟩, ⟨0, none⟩, ⟨0, none⟩, ⟨0, none⟩, ⟨0, none⟩], List.replicate 41 0⟩
theorem f19_l0_eq (run : Run) (n : Nat) (k0 : Nat) (x0_1 : List AV) (x3_1 : Int) (x4_1 : Int) : f19_l0 run n (k0 + 1) x0_1 x3_1 x4_1 =
  bif ltI x4_1 (x0_1.length : Int) then
    bif ltI x4_1 1100 then
    bif inR x4_1 x0_1.length then
    f19_l0 run n k0 x0_1 (mn2 (IntKind.wrap .i64 (IntKind.wrap .i64 (x3_1 + 1) + (((nth x0_1 (Int.toNat x4_1)).toStr).length : Int))) 1048576) (IntKind.wrap .i64 (x4_1 + 1))
  else none
  else
    bif ltI 60 (x0_1.length : Int) then
    bif leI (x0_1.length : Int) 1024 then
    some ⟨[.bool true], [], f19_fresh⟩
  else
    bif ltI 1050 (x0_1.length : Int) then
    some ⟨[.bool true], [], f19_fresh⟩
  else
    some ⟨[.bool (ltI 6000 x3_1)], [], f19_fresh⟩
  else
    bif ltI 1050 (x0_1.length : Int) then
    some ⟨[.bool true], [], f19_fresh⟩
  else
    some ⟨[.bool (ltI 6000 x3_1)], [], f19_fresh⟩
  else
    bif ltI 60 (x0_1.length : Int) then
    bif leI (x0_1.length : Int) 1024 then
    some ⟨[.bool true], [], f19_fresh⟩
  else
    bif ltI 1050 (x0_1.length : Int) then
    some ⟨[.bool true], [], f19_fresh⟩
  else
    some ⟨[.bool (ltI 6000 x3_1)], [], f19_fresh⟩
  else
    bif ltI 1050 (x0_1.length : Int) then
    some ⟨[.bool true], [], f19_fresh⟩
  else
    some ⟨[.bool (ltI 6000 x3_1)], [], f19_fresh⟩ := by kernel_rfl
noncomputable def f19 (run : Run) (n : Nat) (a0_1 : List AV) : Option Res := evalK G run n f19_info.keep 0 f19_info.body (retE G f19_info) (f19_info.start [.slice a0_1])
theorem f19_eq (run : Run) (n : Nat) (a0_1 : List AV) : f19 run n a0_1 =
  f19_l0 run n n a0_1 0 0 := by kernel_rfl
theorem f19_run (ext : Run) (n : Nat) (a0_1 : List AV) : runE G ext (n + 1) 19 [.slice a0_1] = f19 (runE G ext n) n a0_1 := runE_succ f19_at f19_in

noncomputable def f18_l0 (run : Run) (n : Nat) (k0 : Nat) (x0_1 : List AV) (x3_1 : Int) (x4_1 : Int) : Option Res :=
  iterK (evalK G run n f18_keep 0 (sub [1, 1, 0, 1, 0, 0] f18_body)) f18_t0 f18_o0 (blockK 0 (seqK (evalK G run n f18_keep 0 (sub [1, 1, 1] f18_body) (retE G f18_info)) (retE G f18_info))) k0
    ⟨[.val (.slice (.struct [(.struct [(.int .u32), (.blob 32), (.blob 32), (.int .u64)]), (.slice .str)])) none (.slice x0_1), .any, .any, .val (.int .i64) none (.int x3_1), .val (.int .i64) none (.int x4_1), .any, .any, .any, .any, .any, .any, .any, .any, .any, .any, .any, .any, .any, .any, .any, .any, .any, .any, .any, .any, .any, .any, .any, .any, .any, .any, .any, .any, .any, .any, .any], [⟨0, none⟩, ⟨0, none⟩, ⟨0, none⟩, ⟨0, none⟩, ⟨0, none⟩, ⟨0, none⟩, ⟨0, none⟩, ⟨0, none⟩, ⟨0, none⟩, ⟨0, none⟩, ⟨0, none⟩, ⟨0, none⟩, ⟨0, none⟩, ⟨0, none⟩, ⟨0, none⟩, ⟨0, none⟩, ⟨0, none⟩, ⟨0, none⟩, ⟨0, none⟩, ⟨0, none⟩, ⟨0, none⟩, ⟨0, none⟩, ⟨0, none⟩, ⟨0, none⟩, ⟨0, none⟩, ⟨0, none⟩, ⟨0, none⟩, ⟨0, none⟩, ⟨0, none⟩, ⟨0, none⟩, ⟨0, none⟩, ⟨0, none⟩, ⟨0, none⟩, ⟨0, none⟩, ⟨0, none⟩, ⟨0, none⟩], List.replicate 36 0⟩
theorem f18_l0_eq (run : Run) (n : Nat) (k0 : Nat) (x0_1 : List AV) (x3_1 : Int) (x4_1 : Int) : f18_l0 run n (k0 + 1) x0_1 x3_1 x4_1 =
  bif ltI x4_1 (x0_1.length : Int) then
    bif ltI x4_1 30 then
    bif inR x4_1 x0_1.length then
    (run 19 [.slice (((nth x0_1 (Int.toNat x4_1)).fld 1).toSlice)]).bind fun r1 =>
    nilV r1.outs (consV r1.vals fun v1 vs1 =>
    nilV vs1 (bif v1.toBool then
    some ⟨[.bool true], [], f18_fresh⟩
  else
    bif inR x4_1 x0_1.length then
    f18_l0 run n k0 x0_1 (IntKind.wrap .i64 (x3_1 + ((((nth x0_1 (Int.toNat x4_1)).fld 1).toSlice).length : Int))) (IntKind.wrap .i64 (x4_1 + 1))
  else none))
  else none
  else
    bif ltI 24 (x0_1.length : Int) then
    some ⟨[.bool true], [], f18_fresh⟩
  else
    some ⟨[.bool (ltI 100 x3_1)], [], f18_fresh⟩
  else
    bif ltI 24 (x0_1.length : Int) then
    some ⟨[.bool true], [], f18_fresh⟩
  else
    some ⟨[.bool (ltI 100 x3_1)], [], f18_fresh⟩ := by kernel_rfl
noncomputable def f18 (run : Run) (n : Nat) (a0_1 : List AV) : Option Res := evalK G run n f18_info.keep 0 f18_info.body (retE G f18_info) (f18_info.start [.slice a0_1])
theorem f18_eq (run : Run) (n : Nat) (a0_1 : List AV) : f18 run n a0_1 =
  f18_l0 run n n a0_1 0 0 := by kernel_rfl
theorem f18_run (ext : Run) (n : Nat) (a0_1 : List AV) : runE G ext (n + 1) 18 [.slice a0_1] = f18 (runE G ext n) n a0_1 := runE_succ f18_at f18_in

noncomputable def f60 (run : Run) (n : Nat) (a0_1 : Int) (a0_2 : List UInt8) (a0_3 : List UInt8) (a0_4 : Int) (a0_5 : List UInt8) (a0_6 : Int) (a0_7 : Int) (a0_8 : Int) (a0_9 : Int) (a0_10 : Int) (a0_11 : Int) (a0_12 : Int) (a0_13 : Int) (a0_14 : List UInt8) (a0_15 : List UInt8) (a0_16 : Int) (a0_17 : List AV) (a0_18 : List AV) : Option Res := evalK G run n f60_info.keep 0 f60_info.body (retE G f60_info) (f60_info.start [.agg [.agg [.agg [.int a0_1, .blob a0_2, .blob a0_3, .int a0_4], .blob a0_5, .int a0_6, .int a0_7, .int a0_8, .int a0_9, .int a0_10, .int a0_11], .int a0_12, .agg [.agg [.int a0_13, .blob a0_14, .blob a0_15, .int a0_16], .slice a0_17], .slice a0_18]])
theorem f60_eq (run : Run) (n : Nat) (a0_1 : Int) (a0_2 : List UInt8) (a0_3 : List UInt8) (a0_4 : Int) (a0_5 : List UInt8) (a0_6 : Int) (a0_7 : Int) (a0_8 : Int) (a0_9 : Int) (a0_10 : Int) (a0_11 : Int) (a0_12 : Int) (a0_13 : Int) (a0_14 : List UInt8) (a0_15 : List UInt8) (a0_16 : Int) (a0_17 : List AV) (a0_18 : List AV) : f60 run n a0_1 a0_2 a0_3 a0_4 a0_5 a0_6 a0_7 a0_8 a0_9 a0_10 a0_11 a0_12 a0_13 a0_14 a0_15 a0_16 a0_17 a0_18 =
  (run 65 [.agg [.agg [.int a0_13, .blob a0_14, .blob a0_15, .int a0_16], .slice a0_17]]).bind fun r1 =>
    nilV r1.outs (consV r1.vals fun v1 vs1 =>
    nilV vs1 ((run 35 [.blob v1.toBlob, .blob a0_5]).bind fun r2 =>
    nilV r2.outs (consV r2.vals fun v2 vs2 =>
    nilV vs2 (bif !v2.toBool then
    some ⟨[.int 9], [], f60_fresh⟩
  else
    some ⟨[.int 0], [], f60_fresh⟩)))) := by kernel_rfl
theorem f60_run (ext : Run) (n : Nat) (a0_1 : Int) (a0_2 : List UInt8) (a0_3 : List UInt8) (a0_4 : Int) (a0_5 : List UInt8) (a0_6 : Int) (a0_7 : Int) (a0_8 : Int) (a0_9 : Int) (a0_10 : Int) (a0_11 : Int) (a0_12 : Int) (a0_13 : Int) (a0_14 : List UInt8) (a0_15 : List UInt8) (a0_16 : Int) (a0_17 : List AV) (a0_18 : List AV) : runE G ext (n + 1) 60 [.agg [.agg [.agg [.int a0_1, .blob a0_2, .blob a0_3, .int a0_4], .blob a0_5, .int a0_6, .int a0_7, .int a0_8, .int a0_9, .int a0_10, .int a0_11], .int a0_12, .agg [.agg [.int a0_13, .blob a0_14, .blob a0_15, .int a0_16], .slice a0_17], .slice a0_18]] = f60 (runE G ext n) n a0_1 a0_2 a0_3 a0_4 a0_5 a0_6 a0_7 a0_8 a0_9 a0_10 a0_11 a0_12 a0_13 a0_14 a0_15 a0_16 a0_17 a0_18 := runE_succ f60_at f60_in

noncomputable def f94 (run : Run) (n : Nat) (a0_1 : Int) (a0_2 : List UInt8) (a0_3 : List UInt8) (a0_4 : Int) (a0_5 : List AV) (a1_1 : Int) (a2_1 : List AV) : Option Res := evalK G run n f94_info.keep 0 f94_info.body (retE G f94_info) (f94_info.start [.agg [.agg [.int a0_1, .blob a0_2, .blob a0_3, .int a0_4], .slice a0_5], .int a1_1, .slice a2_1])
theorem f94_eq (run : Run) (n : Nat) (a0_1 : Int) (a0_2 : List UInt8) (a0_3 : List UInt8) (a0_4 : Int) (a0_5 : List AV) (a1_1 : Int) (a2_1 : List AV) : f94 run n a0_1 a0_2 a0_3 a0_4 a0_5 a1_1 a2_1 =
  bif !(eqI a0_1 a1_1) then
    some ⟨[.int 8], [], f94_fresh⟩
  else
    (run 97 [.slice a0_5]).bind fun r1 =>
    nilV r1.outs (consV r1.vals fun v1 vs1 =>
    nilV vs1 (bif !(eqI v1.toInt 0) then
    some ⟨[.int v1.toInt], [], f94_fresh⟩
  else
    (run 98 [.int a1_1, .slice a2_1, .slice a0_5, .int a0_4]).bind fun r2 =>
    nilV r2.outs (consV r2.vals fun v2 vs2 =>
    nilV vs2 (bif !(eqI (((v2.fld 0).fld 0).toInt) a0_1 && (eqS (((v2.fld 0).fld 1).toBlob) a0_2 && (eqS (((v2.fld 0).fld 2).toBlob) a0_3 && (eqI (((v2.fld 0).fld 3).toInt) a0_4 && true)))) then
    some ⟨[.int 12], [], f94_fresh⟩
  else
    some ⟨[.int 0], [], f94_fresh⟩)))) := by kernel_rfl
theorem f94_run (ext : Run) (n : Nat) (a0_1 : Int) (a0_2 : List UInt8) (a0_3 : List UInt8) (a0_4 : Int) (a0_5 : List AV) (a1_1 : Int) (a2_1 : List AV) : runE G ext (n + 1) 94 [.agg [.agg [.int a0_1, .blob a0_2, .blob a0_3, .int a0_4], .slice a0_5], .int a1_1, .slice a2_1] = f94 (runE G ext n) n a0_1 a0_2 a0_3 a0_4 a0_5 a1_1 a2_1 := runE_succ f94_at f94_in

noncomputable def f59 (run : Run) (n : Nat) (a0_1 : Int) (a0_2 : List UInt8) (a0_3 : List UInt8) (a0_4 : Int) (a0_5 : List UInt8) (a0_6 : Int) (a0_7 : Int) (a0_8 : Int) (a0_9 : Int) (a0_10 : Int) (a0_11 : Int) (a0_12 : Int) (a0_13 : Int) (a0_14 : List UInt8) (a0_15 : List UInt8) (a0_16 : Int) (a0_17 : List AV) (a0_18 : List AV) : Option Res := evalK G run n f59_info.keep 0 f59_info.body (retE G f59_info) (f59_info.start [.agg [.agg [.agg [.int a0_1, .blob a0_2, .blob a0_3, .int a0_4], .blob a0_5, .int a0_6, .int a0_7, .int a0_8, .int a0_9, .int a0_10, .int a0_11], .int a0_12, .agg [.agg [.int a0_13, .blob a0_14, .blob a0_15, .int a0_16], .slice a0_17], .slice a0_18]])
theorem f59_eq (run : Run) (n : Nat) (a0_1 : Int) (a0_2 : List UInt8) (a0_3 : List UInt8) (a0_4 : Int) (a0_5 : List UInt8) (a0_6 : Int) (a0_7 : Int) (a0_8 : Int) (a0_9 : Int) (a0_10 : Int) (a0_11 : Int) (a0_12 : Int) (a0_13 : Int) (a0_14 : List UInt8) (a0_15 : List UInt8) (a0_16 : Int) (a0_17 : List AV) (a0_18 : List AV) : f59 run n a0_1 a0_2 a0_3 a0_4 a0_5 a0_6 a0_7 a0_8 a0_9 a0_10 a0_11 a0_12 a0_13 a0_14 a0_15 a0_16 a0_17 a0_18 =
  (run 94 [.agg [.agg [.int a0_13, .blob a0_14, .blob a0_15, .int a0_16], .slice a0_17], .int (IntKind.wrap .u32 a0_12), .slice a0_18]).bind fun r1 =>
    nilV r1.outs (consV r1.vals fun v1 vs1 =>
    nilV vs1 (some ⟨[.int v1.toInt], [], f59_fresh⟩)) := by kernel_rfl
theorem f59_run (ext : Run) (n : Nat) (a0_1 : Int) (a0_2 : List UInt8) (a0_3 : List UInt8) (a0_4 : Int) (a0_5 : List UInt8) (a0_6 : Int) (a0_7 : Int) (a0_8 : Int) (a0_9 : Int) (a0_10 : Int) (a0_11 : Int) (a0_12 : Int) (a0_13 : Int) (a0_14 : List UInt8) (a0_15 : List UInt8) (a0_16 : Int) (a0_17 : List AV) (a0_18 : List AV) : runE G ext (n + 1) 59 [.agg [.agg [.agg [.int a0_1, .blob a0_2, .blob a0_3, .int a0_4], .blob a0_5, .int a0_6, .int a0_7, .int a0_8, .int a0_9, .int a0_10, .int a0_11], .int a0_12, .agg [.agg [.int a0_13, .blob a0_14, .blob a0_15, .int a0_16], .slice a0_17], .slice a0_18]] = f59 (runE G ext n) n a0_1 a0_2 a0_3 a0_4 a0_5 a0_6 a0_7 a0_8 a0_9 a0_10 a0_11 a0_12 a0_13 a0_14 a0_15 a0_16 a0_17 a0_18 := runE_succ f59_at f59_in

noncomputable def f58 (run : Run) (n : Nat) (a0_1 : Int) (a0_2 : List UInt8) (a0_3 : List UInt8) (a0_4 : Int) (a0_5 : List UInt8) (a0_6 : Int) (a0_7 : Int) (a0_8 : Int) (a0_9 : Int) (a0_10 : Int) (a0_11 : Int) (a0_12 : Int) (a0_13 : Int) (a0_14 : List UInt8) (a0_15 : List UInt8) (a0_16 : Int) (a0_17 : List AV) (a0_18 : List AV) : Option Res := evalK G run n f58_info.keep 0 f58_info.body (retE G f58_info) (f58_info.start [.agg [.agg [.agg [.int a0_1, .blob a0_2, .blob a0_3, .int a0_4], .blob a0_5, .int a0_6, .int a0_7, .int a0_8, .int a0_9, .int a0_10, .int a0_11], .int a0_12, .agg [.agg [.int a0_13, .blob a0_14, .blob a0_15, .int a0_16], .slice a0_17], .slice a0_18]])
theorem f58_eq (run : Run) (n : Nat) (a0_1 : Int) (a0_2 : List UInt8) (a0_3 : List UInt8) (a0_4 : Int) (a0_5 : List UInt8) (a0_6 : Int) (a0_7 : Int) (a0_8 : Int) (a0_9 : Int) (a0_10 : Int) (a0_11 : Int) (a0_12 : Int) (a0_13 : Int) (a0_14 : List UInt8) (a0_15 : List UInt8) (a0_16 : Int) (a0_17 : List AV) (a0_18 : List AV) : f58 run n a0_1 a0_2 a0_3 a0_4 a0_5 a0_6 a0_7 a0_8 a0_9 a0_10 a0_11 a0_12 a0_13 a0_14 a0_15 a0_16 a0_17 a0_18 =
  bif eqI a0_12 0 then
    bif !(eqI a0_13 a0_1 && (eqS a0_14 a0_2 && (eqS a0_15 a0_3 && (eqI a0_16 a0_4 && true)))) then
    some ⟨[.int 7], [], f58_fresh⟩
  else
    some ⟨[.int 0], [], f58_fresh⟩
  else
    some ⟨[.int 0], [], f58_fresh⟩ := by kernel_rfl
theorem f58_run (ext : Run) (n : Nat) (a0_1 : Int) (a0_2 : List UInt8) (a0_3 : List UInt8) (a0_4 : Int) (a0_5 : List UInt8) (a0_6 : Int) (a0_7 : Int) (a0_8 : Int) (a0_9 : Int) (a0_10 : Int) (a0_11 : Int) (a0_12 : Int) (a0_13 : Int) (a0_14 : List UInt8) (a0_15 : List UInt8) (a0_16 : Int) (a0_17 : List AV) (a0_18 : List AV) : runE G ext (n + 1) 58 [.agg [.agg [.agg [.int a0_1, .blob a0_2, .blob a0_3, .int a0_4], .blob a0_5, .int a0_6, .int a0_7, .int a0_8, .int a0_9, .int a0_10, .int a0_11], .int a0_12, .agg [.agg [.int a0_13, .blob a0_14, .blob a0_15, .int a0_16], .slice a0_17], .slice a0_18]] = f58 (runE G ext n) n a0_1 a0_2 a0_3 a0_4 a0_5 a0_6 a0_7 a0_8 a0_9 a0_10 a0_11 a0_12 a0_13 a0_14 a0_15 a0_16 a0_17 a0_18 := runE_succ f58_at f58_in

noncomputable def f20_l3 (run : Run) (n : Nat) (k1 : Nat) (k3 : Nat) (x2_12 : Int) (x2_13 : List UInt8) (x2_14 : List UInt8) (x2_15 : Int) (x2_16 : List UInt8) (x2_17 : Int) (x2_18 : Int) (x2_19 : Int) (x2_20 : Int) (x2_21 : Int) (x2_22 : Int) (x5_2 : List AV) (x6_1 : Int) (x22_2 : List AV) (x23_2 : Int) (x24_2 : Int) (x40_1 : List AV) (x41_1 : Int) (x42_1 : Int) (o4_3 : Int) (o4_4 : Int) (o7_1 : Int) (o7_2 : List UInt8) (o7_3 : List UInt8) (o7_4 : Int) (o7_5 : List AV) : Option Res :=
  iterK (evalK G run n f20_keep 3 (sub [1, 1, 1, 0, 1, 0, 0, 1, 1, 0, 0, 1, 1, 0, 1, 0, 0] f20_body)) f20_t3 f20_o3 (blockK 3 (seqK (evalK G run n f20_keep 2 (sub [1, 1, 1, 0, 1, 0, 0, 1, 1, 0, 0, 1, 1, 1] f20_body) (blockK 2 (seqK (evalK G run n f20_keep 1 (sub [1, 1, 1, 0, 1, 0, 0, 1, 1, 1] f20_body) (seqK (fun t => iterK (evalK G run n f20_keep 1 (sub [1, 1, 1, 0, 1, 0, 0] f20_body)) f20_t1 f20_o1 (blockK 1 (seqK (evalK G run n f20_keep 0 (sub [1, 1, 1, 1] f20_body) (retE G f20_info)) (retE G f20_info))) k1 (t.clear f20_t1 f20_o1)) (blockK 1 (seqK (evalK G run n f20_keep 0 (sub [1, 1, 1, 1] f20_body) (retE G f20_info)) (retE G f20_info))))) (seqK (fun t => iterK (evalK G run n f20_keep 1 (sub [1, 1, 1, 0, 1, 0, 0] f20_body)) f20_t1 f20_o1 (blockK 1 (seqK (evalK G run n f20_keep 0 (sub [1, 1, 1, 1] f20_body) (retE G f20_info)) (retE G f20_info))) k1 (t.clear f20_t1 f20_o1)) (blockK 1 (seqK (evalK G run n f20_keep 0 (sub [1, 1, 1, 1] f20_body) (retE G f20_info)) (retE G f20_info))))))) (blockK 2 (seqK (evalK G run n f20_keep 1 (sub [1, 1, 1, 0, 1, 0, 0, 1, 1, 1] f20_body) (seqK (fun t => iterK (evalK G run n f20_keep 1 (sub [1, 1, 1, 0, 1, 0, 0] f20_body)) f20_t1 f20_o1 (blockK 1 (seqK (evalK G run n f20_keep 0 (sub [1, 1, 1, 1] f20_body) (retE G f20_info)) (retE G f20_info))) k1 (t.clear f20_t1 f20_o1)) (blockK 1 (seqK (evalK G run n f20_keep 0 (sub [1, 1, 1, 1] f20_body) (retE G f20_info)) (retE G f20_info))))) (seqK (fun t => iterK (evalK G run n f20_keep 1 (sub [1, 1, 1, 0, 1, 0, 0] f20_body)) f20_t1 f20_o1 (blockK 1 (seqK (evalK G run n f20_keep 0 (sub [1, 1, 1, 1] f20_body) (retE G f20_info)) (retE G f20_info))) k1 (t.clear f20_t1 f20_o1)) (blockK 1 (seqK (evalK G run n f20_keep 0 (sub [1, 1, 1, 1] f20_body) (retE G f20_info)) (retE G f20_info)))))))) k3
    ⟨[.any, .any, .val (.pat (.struct [(.struct [(.int .u32), (.blob 32), (.blob 32), (.int .u64)]), (.blob 32), (.int .i64), (.int .i64), (.int .i64), (.int .i64), (.int .i64), (.int .i64)])) none (.agg [.agg [.int x2_12, .blob x2_13, .blob x2_14, .int x2_15], .blob x2_16, .int x2_17, .int x2_18, .int x2_19, .int x2_20, .int x2_21, .int x2_22]), .any, .ptr ⟨(.struct [(.int .i64), (.int .i64)]), 4, 1, []⟩, .val (.slice (.blob 32)) none (.slice x5_2), .val (.int .i64) none (.int x6_1), .ptr ⟨(.struct [(.struct [(.int .u32), (.blob 32), (.blob 32), (.int .u64)]), (.slice .str)]), 7, 1, []⟩, .any, .any, .any, .any, .any, .any, .any, .any, .any, .any, .any, .any, .any, .any, .val (.slice (.struct [(.struct [(.int .u32), (.blob 32), (.blob 32), (.int .u64)]), (.slice .str)])) none (.slice x22_2), .val (.int .i64) none (.int x23_2), .val (.int .i64) none (.int x24_2), .any, .any, .any, .any, .any, .any, .any, .any, .any, .any, .any, .any, .any, .any, .any, .val (.slice (.clos [(58, ([0], [])), (59, ([0], [])), (60, ([0], []))] [(.struct [(.struct [(.struct [(.int .u32), (.blob 32), (.blob 32), (.int .u64)]), (.blob 32), (.int .i64), (.int .i64), (.int .i64), (.int .i64), (.int .i64), (.int .i64)]), (.int .i64), (.struct [(.struct [(.int .u32), (.blob 32), (.blob 32), (.int .u64)]), (.slice .str)]), (.slice (.blob 32))])])) (some (40, 0)) (.slice x40_1), .val (.int .i64) none (.int x41_1), .val (.int .i64) none (.int x42_1), .any, .any, .any, .any, .any, .any, .any, .any, .any, .any, .any, .any, .any, .any, .any, .any, .any, .any, .any], [⟨0, none⟩, ⟨0, none⟩, ⟨0, none⟩, ⟨0, none⟩, ⟨1, some ⟨(.struct [(.int .i64), (.int .i64)]), .agg [.int o4_3, .int o4_4]⟩⟩, ⟨0, none⟩, ⟨0, none⟩, ⟨1, some ⟨(.struct [(.struct [(.int .u32), (.blob 32), (.blob 32), (.int .u64)]), (.slice .str)]), .agg [.agg [.int o7_1, .blob o7_2, .blob o7_3, .int o7_4], .slice o7_5]⟩⟩, ⟨0, none⟩, ⟨0, none⟩, ⟨0, none⟩, ⟨0, none⟩, ⟨0, none⟩, ⟨0, none⟩, ⟨0, none⟩, ⟨0, none⟩, ⟨0, none⟩, ⟨0, none⟩, ⟨0, none⟩, ⟨0, none⟩, ⟨0, none⟩, ⟨0, none⟩, ⟨0, none⟩, ⟨0, none⟩, ⟨0, none⟩, ⟨0, none⟩, ⟨0, none⟩, ⟨0, none⟩, ⟨0, none⟩, ⟨0, none⟩, ⟨0, none⟩, ⟨0, none⟩, ⟨0, none⟩, ⟨0, none⟩, ⟨0, none⟩, ⟨0, none⟩, ⟨0, none⟩, ⟨0, none⟩, ⟨0, none⟩, ⟨0, none⟩, ⟨0, none⟩, ⟨0, none⟩, ⟨0, none⟩, ⟨0, none⟩, ⟨0, none⟩, ⟨0, none⟩, ⟨0, none⟩, ⟨0, none⟩, ⟨0, none⟩, ⟨0, none⟩, ⟨0, none⟩, ⟨0, none⟩, ⟨0, none⟩, ⟨0, none⟩, ⟨0, none⟩, ⟨0, none⟩, ⟨0, none⟩, ⟨0, none⟩, ⟨0, none⟩, ⟨0, none⟩, ⟨0, none⟩, ⟨0, none⟩], List.replicate 62 0⟩
noncomputable def f20_l1 (run : Run) (n : Nat) (k1 : Nat) (x2_1 : Int) (x2_2 : List UInt8) (x2_3 : List UInt8) (x2_4 : Int) (x2_5 : List UInt8) (x2_6 : Int) (x2_7 : Int) (x2_8 : Int) (x2_9 : Int) (x2_10 : Int) (x2_11 : Int) (x5_1 : List AV) (x22_1 : List AV) (x23_1 : Int) (x24_1 : Int) (o4_1 : Int) (o4_2 : Int) : Option Res :=
  iterK (evalK G run n f20_keep 1 (sub [1, 1, 1, 0, 1, 0, 0] f20_body)) f20_t1 f20_o1 (blockK 1 (seqK (evalK G run n f20_keep 0 (sub [1, 1, 1, 1] f20_body) (retE G f20_info)) (retE G f20_info))) k1
    ⟨[.any, .any, .val (.pat (.struct [(.struct [(.int .u32), (.blob 32), (.blob 32), (.int .u64)]), (.blob 32), (.int .i64), (.int .i64), (.int .i64), (.int .i64), (.int .i64), (.int .i64)])) none (.agg [.agg [.int x2_1, .blob x2_2, .blob x2_3, .int x2_4], .blob x2_5, .int x2_6, .int x2_7, .int x2_8, .int x2_9, .int x2_10, .int x2_11]), .any, .ptr ⟨(.struct [(.int .i64), (.int .i64)]), 4, 1, []⟩, .val (.slice (.blob 32)) none (.slice x5_1), .any, .any, .any, .any, .any, .any, .any, .any, .any, .any, .any, .any, .any, .any, .any, .any, .val (.slice (.struct [(.struct [(.int .u32), (.blob 32), (.blob 32), (.int .u64)]), (.slice .str)])) none (.slice x22_1), .val (.int .i64) none (.int x23_1), .val (.int .i64) none (.int x24_1), .any, .any, .any, .any, .any, .any, .any, .any, .any, .any, .any, .any, .any, .any, .any, .any, .any, .any, .any, .any, .any, .any, .any, .any, .any, .any, .any, .any, .any, .any, .any, .any, .any, .any, .any, .any, .any], [⟨0, none⟩, ⟨0, none⟩, ⟨0, none⟩, ⟨0, none⟩, ⟨1, some ⟨(.struct [(.int .i64), (.int .i64)]), .agg [.int o4_1, .int o4_2]⟩⟩, ⟨0, none⟩, ⟨0, none⟩, ⟨0, none⟩, ⟨0, none⟩, ⟨0, none⟩, ⟨0, none⟩, ⟨0, none⟩, ⟨0, none⟩, ⟨0, none⟩, ⟨0, none⟩, ⟨0, none⟩, ⟨0, none⟩, ⟨0, none⟩, ⟨0, none⟩, ⟨0, none⟩, ⟨0, none⟩, ⟨0, none⟩, ⟨0, none⟩, ⟨0, none⟩, ⟨0, none⟩, ⟨0, none⟩, ⟨0, none⟩, ⟨0, none⟩, ⟨0, none⟩, ⟨0, none⟩, ⟨0, none⟩, ⟨0, none⟩, ⟨0, none⟩, ⟨0, none⟩, ⟨0, none⟩, ⟨0, none⟩, ⟨0, none⟩, ⟨0, none⟩, ⟨0, none⟩, ⟨0, none⟩, ⟨0, none⟩, ⟨0, none⟩, ⟨0, none⟩, ⟨0, none⟩, ⟨0, none⟩, ⟨0, none⟩, ⟨0, none⟩, ⟨0, none⟩, ⟨0, none⟩, ⟨0, none⟩, ⟨0, none⟩, ⟨0, none⟩, ⟨0, none⟩, ⟨0, none⟩, ⟨0, none⟩, ⟨0, none⟩, ⟨0, none⟩, ⟨0, none⟩, ⟨0, none⟩, ⟨0, none⟩, ⟨0, none⟩, ⟨0, none⟩], List.replicate 62 0⟩
theorem f20_l3_eq (run : Run) (n : Nat) (k1 : Nat) (k3 : Nat) (x2_12 : Int) (x2_13 : List UInt8) (x2_14 : List UInt8) (x2_15 : Int) (x2_16 : List UInt8) (x2_17 : Int) (x2_18 : Int) (x2_19 : Int) (x2_20 : Int) (x2_21 : Int) (x2_22 : Int) (x5_2 : List AV) (x6_1 : Int) (x22_2 : List AV) (x23_2 : Int) (x24_2 : Int) (x40_1 : List AV) (x41_1 : Int) (x42_1 : Int) (o4_3 : Int) (o4_4 : Int) (o7_1 : Int) (o7_2 : List UInt8) (o7_3 : List UInt8) (o7_4 : Int) (o7_5 : List AV) : f20_l3 run n k1 (k3 + 1) x2_12 x2_13 x2_14 x2_15 x2_16 x2_17 x2_18 x2_19 x2_20 x2_21 x2_22 x5_2 x6_1 x22_2 x23_2 x24_2 x40_1 x41_1 x42_1 o4_3 o4_4 o7_1 o7_2 o7_3 o7_4 o7_5 =
  bif ltI x42_1 x41_1 then
    bif inR x42_1 x40_1.length then
    bif Nat.beq ((nth x40_1 (Int.toNat x42_1)).cloF) 58 then
    (run 58 [nth ((nth x40_1 (Int.toNat x42_1)).cloXs) 0]).bind fun r3 =>
    nilV r3.outs (consV r3.vals fun v3 vs3 =>
    nilV vs3 (bif !(eqI v3.toInt 0) then
    some ⟨[.agg [.int v3.toInt, .int x6_1]], [], f20_fresh⟩
  else
    f20_l3 run n k1 k3 x2_12 x2_13 x2_14 x2_15 x2_16 x2_17 x2_18 x2_19 x2_20 x2_21 x2_22 x5_2 x6_1 x22_2 x23_2 x24_2 x40_1 x41_1 (IntKind.wrap .i64 (x42_1 + 1)) o4_3 o4_4 o7_1 o7_2 o7_3 o7_4 o7_5))
  else
    bif Nat.beq ((nth x40_1 (Int.toNat x42_1)).cloF) 59 then
    (run 59 [nth ((nth x40_1 (Int.toNat x42_1)).cloXs) 0]).bind fun r2 =>
    nilV r2.outs (consV r2.vals fun v2 vs2 =>
    nilV vs2 (bif !(eqI v2.toInt 0) then
    some ⟨[.agg [.int v2.toInt, .int x6_1]], [], f20_fresh⟩
  else
    f20_l3 run n k1 k3 x2_12 x2_13 x2_14 x2_15 x2_16 x2_17 x2_18 x2_19 x2_20 x2_21 x2_22 x5_2 x6_1 x22_2 x23_2 x24_2 x40_1 x41_1 (IntKind.wrap .i64 (x42_1 + 1)) o4_3 o4_4 o7_1 o7_2 o7_3 o7_4 o7_5))
  else
    bif Nat.beq ((nth x40_1 (Int.toNat x42_1)).cloF) 60 then
    (run 60 [nth ((nth x40_1 (Int.toNat x42_1)).cloXs) 0]).bind fun r1 =>
    nilV r1.outs (consV r1.vals fun v1 vs1 =>
    nilV vs1 (bif !(eqI v1.toInt 0) then
    some ⟨[.agg [.int v1.toInt, .int x6_1]], [], f20_fresh⟩
  else
    f20_l3 run n k1 k3 x2_12 x2_13 x2_14 x2_15 x2_16 x2_17 x2_18 x2_19 x2_20 x2_21 x2_22 x5_2 x6_1 x22_2 x23_2 x24_2 x40_1 x41_1 (IntKind.wrap .i64 (x42_1 + 1)) o4_3 o4_4 o7_1 o7_2 o7_3 o7_4 o7_5))
  else
    none
  else none
  else
    (run 61 [.blob x2_16, .slice x5_2, .agg [.agg [.int o7_1, .blob o7_2, .blob o7_3, .int o7_4], .slice o7_5], .int x6_1]).bind fun r4 =>
    nilV r4.outs (consV r4.vals fun v4 vs4 =>
    nilV vs4 (f20_l1 run n k1 x2_12 x2_13 x2_14 x2_15 x2_16 x2_17 x2_18 x2_19 x2_20 x2_21 x2_22 v4.toSlice x22_2 x23_2 (IntKind.wrap .i64 (x24_2 + 1)) o4_3 o4_4)) := by kernel_rfl
theorem f20_l1_eq (run : Run) (n : Nat) (k1 : Nat) (x2_1 : Int) (x2_2 : List UInt8) (x2_3 : List UInt8) (x2_4 : Int) (x2_5 : List UInt8) (x2_6 : Int) (x2_7 : Int) (x2_8 : Int) (x2_9 : Int) (x2_10 : Int) (x2_11 : Int) (x5_1 : List AV) (x22_1 : List AV) (x23_1 : Int) (x24_1 : Int) (o4_1 : Int) (o4_2 : Int) : f20_l1 run n (k1 + 1) x2_1 x2_2 x2_3 x2_4 x2_5 x2_6 x2_7 x2_8 x2_9 x2_10 x2_11 x5_1 x22_1 x23_1 x24_1 o4_1 o4_2 =
  bif ltI x24_1 x23_1 then
    bif inR x24_1 x22_1.length then
    f20_l3 run n k1 n x2_1 x2_2 x2_3 x2_4 x2_5 x2_6 x2_7 x2_8 x2_9 x2_10 x2_11 x5_1 x24_1 x22_1 x23_1 x24_1 [.clo 58 [.agg [.agg [.agg [.int x2_1, .blob x2_2, .blob x2_3, .int x2_4], .blob x2_5, .int x2_6, .int x2_7, .int x2_8, .int x2_9, .int x2_10, .int x2_11], .int x24_1, .agg [.agg [.int ((((nth x22_1 (Int.toNat x24_1)).fld 0).fld 0).toInt), .blob ((((nth x22_1 (Int.toNat x24_1)).fld 0).fld 1).toBlob), .blob ((((nth x22_1 (Int.toNat x24_1)).fld 0).fld 2).toBlob), .int ((((nth x22_1 (Int.toNat x24_1)).fld 0).fld 3).toInt)], .slice (((nth x22_1 (Int.toNat x24_1)).fld 1).toSlice)], .slice x5_1]], .clo 59 [.agg [.agg [.agg [.int x2_1, .blob x2_2, .blob x2_3, .int x2_4], .blob x2_5, .int x2_6, .int x2_7, .int x2_8, .int x2_9, .int x2_10, .int x2_11], .int x24_1, .agg [.agg [.int ((((nth x22_1 (Int.toNat x24_1)).fld 0).fld 0).toInt), .blob ((((nth x22_1 (Int.toNat x24_1)).fld 0).fld 1).toBlob), .blob ((((nth x22_1 (Int.toNat x24_1)).fld 0).fld 2).toBlob), .int ((((nth x22_1 (Int.toNat x24_1)).fld 0).fld 3).toInt)], .slice (((nth x22_1 (Int.toNat x24_1)).fld 1).toSlice)], .slice x5_1]], .clo 60 [.agg [.agg [.agg [.int x2_1, .blob x2_2, .blob x2_3, .int x2_4], .blob x2_5, .int x2_6, .int x2_7, .int x2_8, .int x2_9, .int x2_10, .int x2_11], .int x24_1, .agg [.agg [.int ((((nth x22_1 (Int.toNat x24_1)).fld 0).fld 0).toInt), .blob ((((nth x22_1 (Int.toNat x24_1)).fld 0).fld 1).toBlob), .blob ((((nth x22_1 (Int.toNat x24_1)).fld 0).fld 2).toBlob), .int ((((nth x22_1 (Int.toNat x24_1)).fld 0).fld 3).toInt)], .slice (((nth x22_1 (Int.toNat x24_1)).fld 1).toSlice)], .slice x5_1]]] 3 0 o4_1 o4_2 ((((nth x22_1 (Int.toNat x24_1)).fld 0).fld 0).toInt) ((((nth x22_1 (Int.toNat x24_1)).fld 0).fld 1).toBlob) ((((nth x22_1 (Int.toNat x24_1)).fld 0).fld 2).toBlob) ((((nth x22_1 (Int.toNat x24_1)).fld 0).fld 3).toInt) (((nth x22_1 (Int.toNat x24_1)).fld 1).toSlice)
  else none
  else
    some ⟨[.agg [.int 0, .int 0]], [], f20_fresh⟩ := by kernel_rfl
noncomputable def f20 (run : Run) (n : Nat) (a0_1 : Int) (a0_2 : List UInt8) (a0_3 : List UInt8) (a0_4 : Int) (a0_5 : List UInt8) (a0_6 : Int) (a0_7 : Int) (a0_8 : Int) (a0_9 : Int) (a0_10 : Int) (a0_11 : Int) (a1_1 : List AV) : Option Res := evalK G run n f20_info.keep 0 f20_info.body (retE G f20_info) (f20_info.start [.agg [.agg [.int a0_1, .blob a0_2, .blob a0_3, .int a0_4], .blob a0_5, .int a0_6, .int a0_7, .int a0_8, .int a0_9, .int a0_10, .int a0_11], .slice a1_1])
theorem f20_eq (run : Run) (n : Nat) (a0_1 : Int) (a0_2 : List UInt8) (a0_3 : List UInt8) (a0_4 : Int) (a0_5 : List UInt8) (a0_6 : Int) (a0_7 : Int) (a0_8 : Int) (a0_9 : Int) (a0_10 : Int) (a0_11 : Int) (a1_1 : List AV) : f20 run n a0_1 a0_2 a0_3 a0_4 a0_5 a0_6 a0_7 a0_8 a0_9 a0_10 a0_11 a1_1 =
  bif eqI (a1_1.length : Int) 0 then
    some ⟨[.agg [.int 6, .int 0]], [], f20_fresh⟩
  else
    bif ltI 1024 (a1_1.length : Int) then
    some ⟨[.agg [.int 4, .int 1024]], [], f20_fresh⟩
  else
    f20_l1 run n n a0_1 a0_2 a0_3 a0_4 a0_5 a0_6 a0_7 a0_8 a0_9 a0_10 a0_11 [] a1_1 (a1_1.length : Int) 0 0 0 := by kernel_rfl
theorem f20_run (ext : Run) (n : Nat) (a0_1 : Int) (a0_2 : List UInt8) (a0_3 : List UInt8) (a0_4 : Int) (a0_5 : List UInt8) (a0_6 : Int) (a0_7 : Int) (a0_8 : Int) (a0_9 : Int) (a0_10 : Int) (a0_11 : Int) (a1_1 : List AV) : runE G ext (n + 1) 20 [.agg [.agg [.int a0_1, .blob a0_2, .blob a0_3, .int a0_4], .blob a0_5, .int a0_6, .int a0_7, .int a0_8, .int a0_9, .int a0_10, .int a0_11], .slice a1_1] = f20 (runE G ext n) n a0_1 a0_2 a0_3 a0_4 a0_5 a0_6 a0_7 a0_8 a0_9 a0_10 a0_11 a1_1 := runE_succ f20_at f20_in

noncomputable def f4 (run : Run) (n : Nat) (a0_1 : Int) (a0_2 : List UInt8) (a0_3 : List UInt8) (a0_4 : Int) (a0_5 : List UInt8) (a0_6 : Int) (a0_7 : Int) (a0_8 : Int) (a0_9 : Int) (a0_10 : Int) (a0_11 : Int) (a1_1 : List AV) (a2_1 : List UInt8) (a2_2 : List AV) (a2_3 : Int) (a2_4 : Int) : Option Res := evalK G run n f4_info.keep 0 f4_info.body (retE G f4_info) (f4_info.start [.agg [.agg [.int a0_1, .blob a0_2, .blob a0_3, .int a0_4], .blob a0_5, .int a0_6, .int a0_7, .int a0_8, .int a0_9, .int a0_10, .int a0_11], .slice a1_1, .agg [.blob a2_1, .slice a2_2, .int a2_3, .int a2_4]])
theorem f4_eq (run : Run) (n : Nat) (a0_1 : Int) (a0_2 : List UInt8) (a0_3 : List UInt8) (a0_4 : Int) (a0_5 : List UInt8) (a0_6 : Int) (a0_7 : Int) (a0_8 : Int) (a0_9 : Int) (a0_10 : Int) (a0_11 : Int) (a1_1 : List AV) (a2_1 : List UInt8) (a2_2 : List AV) (a2_3 : Int) (a2_4 : Int) : f4 run n a0_1 a0_2 a0_3 a0_4 a0_5 a0_6 a0_7 a0_8 a0_9 a0_10 a0_11 a1_1 a2_1 a2_2 a2_3 a2_4 =
  bif ltI 40 a2_4 then
    (run 21 []).bind fun r1 =>
    nilV r1.outs (consV r1.vals fun v1 vs1 =>
    nilV vs1 (some ⟨[.bool v1.toBool], [], f4_fresh⟩))
  else
    (run 18 [.slice a1_1]).bind fun r2 =>
    nilV r2.outs (consV r2.vals fun v2 vs2 =>
    nilV vs2 (bif v2.toBool then
    (run 21 []).bind fun r3 =>
    nilV r3.outs (consV r3.vals fun v3 vs3 =>
    nilV vs3 (some ⟨[.bool v3.toBool], [], f4_fresh⟩))
  else
    (run 19 [.slice a2_2]).bind fun r4 =>
    nilV r4.outs (consV r4.vals fun v4 vs4 =>
    nilV vs4 (bif v4.toBool then
    (run 21 []).bind fun r5 =>
    nilV r5.outs (consV r5.vals fun v5 vs5 =>
    nilV vs5 (some ⟨[.bool v5.toBool], [], f4_fresh⟩))
  else
    (run 20 [.agg [.agg [.int a0_1, .blob a0_2, .blob a0_3, .int a0_4], .blob a0_5, .int a0_6, .int a0_7, .int a0_8, .int a0_9, .int a0_10, .int a0_11], .slice a1_1]).bind fun r6 =>
    nilV r6.outs (consV r6.vals fun v6 vs6 =>
    nilV vs6 (bif !(eqI ((v6.fld 0).toInt) 0) then
    (run 21 []).bind fun r7 =>
    nilV r7.outs (consV r7.vals fun v7 vs7 =>
    nilV vs7 (some ⟨[.bool v7.toBool], [], f4_fresh⟩))
  else
    (run 22 [.blob a0_5, .slice a1_1, .slice a2_2, .int a2_3, .int a2_4]).bind fun r8 =>
    nilV r8.outs (consV r8.vals fun v8 vs8 =>
    consV vs8 fun v9 vs9 =>
    nilV vs9 (bif !(eqI v9.toInt 0) then
    bif eqI v9.toInt 9 then
    (run 21 []).bind fun r9 =>
    nilV r9.outs (consV r9.vals fun v10 vs10 =>
    nilV vs10 (some ⟨[.bool v10.toBool], [], f4_fresh⟩))
  else
    bif eqI v9.toInt 4 then
    (run 21 []).bind fun r10 =>
    nilV r10.outs (consV r10.vals fun v11 vs11 =>
    nilV vs11 (some ⟨[.bool v11.toBool], [], f4_fresh⟩))
  else
    some ⟨[.bool false], [], f4_fresh⟩
  else
    bif Nat.ble ((0 + a1_1.length) * 104) 140737488355328 then
    bif Nat.ble ((([] ++ a1_1).length + 1) * 104) 140737488355328 then
    (run 20 [.agg [.agg [.int a0_1, .blob a0_2, .blob a0_3, .int a0_4], .blob a0_5, .int a0_6, .int a0_7, .int a0_8, .int a0_9, .int a0_10, .int a0_11], .slice (([] ++ a1_1) ++ [.agg [.agg [.int (((v8.fld 0).fld 0).toInt), .blob (((v8.fld 0).fld 1).toBlob), .blob (((v8.fld 0).fld 2).toBlob), .int (((v8.fld 0).fld 3).toInt)], .slice ((v8.fld 1).toSlice)]])]).bind fun r11 =>
    nilV r11.outs (consV r11.vals fun v12 vs12 =>
    nilV vs12 (bif (eqI ((v12.fld 0).toInt) 0 && (eqI ((v12.fld 1).toInt) 0 && true)) then
    (run 21 []).bind fun r12 =>
    nilV r12.outs (consV r12.vals fun v13 vs13 =>
    nilV vs13 (some ⟨[.bool v13.toBool], [], f4_fresh⟩))
  else
    some ⟨[.bool false], [], f4_fresh⟩))
  else none
  else none)))))))) := by kernel_rfl
theorem f4_run (ext : Run) (n : Nat) (a0_1 : Int) (a0_2 : List UInt8) (a0_3 : List UInt8) (a0_4 : Int) (a0_5 : List UInt8) (a0_6 : Int) (a0_7 : Int) (a0_8 : Int) (a0_9 : Int) (a0_10 : Int) (a0_11 : Int) (a1_1 : List AV) (a2_1 : List UInt8) (a2_2 : List AV) (a2_3 : Int) (a2_4 : Int) : runE G ext (n + 1) 4 [.agg [.agg [.int a0_1, .blob a0_2, .blob a0_3, .int a0_4], .blob a0_5, .int a0_6, .int a0_7, .int a0_8, .int a0_9, .int a0_10, .int a0_11], .slice a1_1, .agg [.blob a2_1, .slice a2_2, .int a2_3, .int a2_4]] = f4 (runE G ext n) n a0_1 a0_2 a0_3 a0_4 a0_5 a0_6 a0_7 a0_8 a0_9 a0_10 a0_11 a1_1 a2_1 a2_2 a2_3 a2_4 := runE_succ f4_at f4_in

noncomputable def f67_l0 (run : Run) (n : Nat) (k0 : Nat) (x0_1 : List AV) (x2_1 : Int) (x7_1 : Int) : Option Res :=
  iterK (evalK G run n f67_keep 0 (sub [1, 0, 1, 0, 0] f67_body)) f67_t0 f67_o0 (blockK 0 (seqK (evalK G run n f67_keep 0 (sub [1, 1] f67_body) (retE G f67_info)) (retE G f67_info))) k0
    ⟨[.val (.slice (.int .i64)) none (.slice x0_1), .any, .val (.int .i64) none (.int x2_1), .any, .any, .any, .any, .val (.int .i64) none (.int x7_1), .any, .any, .any, .any, .any, .any, .any, .any, .any, .any, .any, .any, .any, .any, .any, .any], [⟨0, none⟩, ⟨0, none⟩, ⟨0, none⟩, ⟨0, none⟩, ⟨0, none⟩, ⟨0, none⟩, ⟨0, none⟩, ⟨0, none⟩, ⟨0, none⟩, ⟨0, none⟩, ⟨0, none⟩, ⟨0, none⟩, ⟨0, none⟩, ⟨0, none⟩, ⟨0, none⟩, ⟨0, none⟩, ⟨0, none⟩, ⟨0, none⟩, ⟨0, none⟩, ⟨0, none⟩, ⟨0, none⟩, ⟨0, none⟩, ⟨0, none⟩, ⟨0, none⟩], List.replicate 24 0⟩
theorem f67_l0_eq (run : Run) (n : Nat) (k0 : Nat) (x0_1 : List AV) (x2_1 : Int) (x7_1 : Int) : f67_l0 run n (k0 + 1) x0_1 x2_1 x7_1 =
  bif leI 0 x7_1 then
    bif inR x7_1 x0_1.length then
    bif leI x2_1 ((nth x0_1 (Int.toNat x7_1)).toInt) then
    some ⟨[.int x7_1], [], f67_fresh⟩
  else
    f67_l0 run n k0 x0_1 x2_1 (IntKind.wrap .i64 (x7_1 - 1))
  else none
  else
    some ⟨[.int (-1)], [], f67_fresh⟩ := by kernel_rfl
noncomputable def f67 (run : Run) (n : Nat) (a0_1 : List AV) (a1_1 : Int) (a2_1 : Int) : Option Res := evalK G run n f67_info.keep 0 f67_info.body (retE G f67_info) (f67_info.start [.slice a0_1, .int a1_1, .int a2_1])
theorem f67_eq (run : Run) (n : Nat) (a0_1 : List AV) (a1_1 : Int) (a2_1 : Int) : f67 run n a0_1 a1_1 a2_1 =
  f67_l0 run n n a0_1 a2_1 (IntKind.wrap .i64 (mn2 a1_1 (a0_1.length : Int) - 1)) := by kernel_rfl
theorem f67_run (ext : Run) (n : Nat) (a0_1 : List AV) (a1_1 : Int) (a2_1 : Int) : runE G ext (n + 1) 67 [.slice a0_1, .int a1_1, .int a2_1] = f67 (runE G ext n) n a0_1 a1_1 a2_1 := runE_succ f67_at f67_in

noncomputable def f27_l0 (run : Run) (n : Nat) (k0 : Nat) (x0_1 : List AV) (x1_1 : Int) (x5_1 : List AV) (x17_1 : Int) : Option Res :=
  iterK (evalK G run n f27_keep 0 (sub [1, 1, 1, 0, 1, 0, 0] f27_body)) f27_t0 f27_o0 (blockK 0 (seqK (evalK G run n f27_keep 0 (sub [1, 1, 1, 1] f27_body) (retE G f27_info)) (retE G f27_info))) k0
    ⟨[.val (.slice (.int .i64)) none (.slice x0_1), .val (.int .i64) none (.int x1_1), .any, .any, .any, .val (.slice (.int .i64)) (some (5, 0)) (.slice x5_1), .any, .any, .any, .any, .any, .any, .any, .any, .any, .any, .any, .val (.int .i64) none (.int x17_1), .any, .any, .any, .any, .any, .any, .any, .any, .any, .any, .any, .any, .any, .any, .any, .any], [⟨0, none⟩, ⟨0, none⟩, ⟨0, none⟩, ⟨0, none⟩, ⟨0, none⟩, ⟨0, none⟩, ⟨0, none⟩, ⟨0, none⟩, ⟨0, none⟩, ⟨0, none⟩, ⟨0, none⟩, ⟨0, none⟩, ⟨0, none⟩, ⟨0, none⟩, ⟨0, none⟩, ⟨0, none⟩, ⟨0, none⟩, ⟨0, none⟩, ⟨0, none⟩, ⟨0, none⟩, ⟨0, none⟩, ⟨0, none⟩, ⟨0, none⟩, ⟨0, none⟩, ⟨0, none⟩, ⟨0, none⟩, ⟨0, none⟩, ⟨0, none⟩, ⟨0, none⟩, ⟨0, none⟩, ⟨0, none⟩, ⟨0, none⟩, ⟨0, none⟩, ⟨0, none⟩], List.replicate 34 0⟩
theorem f27_l0_eq (run : Run) (n : Nat) (k0 : Nat) (x0_1 : List AV) (x1_1 : Int) (x5_1 : List AV) (x17_1 : Int) : f27_l0 run n (k0 + 1) x0_1 x1_1 x5_1 x17_1 =
  bif ltI x17_1 257 then
    (run 67 [.slice x0_1, .int x1_1, .int x17_1]).bind fun r1 =>
    nilV r1.outs (consV r1.vals fun v1 vs1 =>
    nilV vs1 (bif ltI v1.toInt 0 then
    some ⟨[.slice x5_1], [], f27_fresh⟩
  else
    bif Nat.ble ((x5_1.length + 1) * 8) 140737488355328 then
    bif eqI v1.toInt 0 then
    some ⟨[.slice (x5_1 ++ [.int v1.toInt])], [], f27_fresh⟩
  else
    f27_l0 run n k0 x0_1 x1_1 (x5_1 ++ [.int v1.toInt]) (IntKind.wrap .i64 (x17_1 + 1))
  else none))
  else
    some ⟨[.slice x5_1], [], f27_fresh⟩ := by kernel_rfl
noncomputable def f27 (run : Run) (n : Nat) (a0_1 : List AV) (a1_1 : Int) : Option Res := evalK G run n f27_info.keep 0 f27_info.body (retE G f27_info) (f27_info.start [.slice a0_1, .int a1_1])
theorem f27_eq (run : Run) (n : Nat) (a0_1 : List AV) (a1_1 : Int) : f27 run n a0_1 a1_1 =
  bif ltI a1_1 1 then
    some ⟨[.slice []], [], f27_fresh⟩
  else
    bif ltI (a0_1.length : Int) a1_1 then
    some ⟨[.slice []], [], f27_fresh⟩
  else
    f27_l0 run n n a0_1 a1_1 [] 0 := by kernel_rfl
theorem f27_run (ext : Run) (n : Nat) (a0_1 : List AV) (a1_1 : Int) : runE G ext (n + 1) 27 [.slice a0_1, .int a1_1] = f27 (runE G ext n) n a0_1 a1_1 := runE_succ f27_at f27_in

noncomputable def f64_l0 (run : Run) (n : Nat) (k0 : Nat) (x0_1 : List AV) (x1_1 : List AV) (x5_1 : Int) : Option Res :=
  iterK (evalK G run n f64_keep 0 (sub [1, 1, 0, 1, 0, 0] f64_body)) f64_t0 f64_o0 (blockK 0 (seqK (evalK G run n f64_keep 0 (sub [1, 1, 1] f64_body) (retE G f64_info)) (retE G f64_info))) k0
    ⟨[.val (.slice (.int .i64)) none (.slice x0_1), .val (.slice (.int .i64)) none (.slice x1_1), .any, .any, .any, .val (.int .i64) none (.int x5_1), .any, .any, .any, .any, .any, .any, .any, .any, .any, .any, .any, .any, .any, .any, .any, .any, .any, .any, .any, .any], [⟨0, none⟩, ⟨0, none⟩, ⟨0, none⟩, ⟨0, none⟩, ⟨0, none⟩, ⟨0, none⟩, ⟨0, none⟩, ⟨0, none⟩, ⟨0, none⟩, ⟨0, none⟩, ⟨0, none⟩, ⟨0, none⟩, ⟨0, none⟩, ⟨0, none⟩, ⟨0, none⟩, ⟨0, none⟩, ⟨0, none⟩, ⟨0, none⟩, ⟨0, none⟩, ⟨0, none⟩, ⟨0, none⟩, ⟨0, none⟩, ⟨0, none⟩, ⟨0, none⟩, ⟨0, none⟩, ⟨0, none⟩], List.replicate 26 0⟩
theorem f64_l0_eq (run : Run) (n : Nat) (k0 : Nat) (x0_1 : List AV) (x1_1 : List AV) (x5_1 : Int) : f64_l0 run n (k0 + 1) x0_1 x1_1 x5_1 =
  bif ltI x5_1 (x0_1.length : Int) then
    bif inR x5_1 x0_1.length then
    bif inR x5_1 x1_1.length then
    bif !(eqI ((nth x0_1 (Int.toNat x5_1)).toInt) ((nth x1_1 (Int.toNat x5_1)).toInt)) then
    some ⟨[.bool false], [], f64_fresh⟩
  else
    f64_l0 run n k0 x0_1 x1_1 (IntKind.wrap .i64 (x5_1 + 1))
  else none
  else none
  else
    some ⟨[.bool true], [], f64_fresh⟩ := by kernel_rfl
noncomputable def f64 (run : Run) (n : Nat) (a0_1 : List AV) (a1_1 : List AV) : Option Res := evalK G run n f64_info.keep 0 f64_info.body (retE G f64_info) (f64_info.start [.slice a0_1, .slice a1_1])
theorem f64_eq (run : Run) (n : Nat) (a0_1 : List AV) (a1_1 : List AV) : f64 run n a0_1 a1_1 =
  bif !(eqI (a0_1.length : Int) (a1_1.length : Int)) then
    some ⟨[.bool false], [], f64_fresh⟩
  else
    f64_l0 run n n a0_1 a1_1 0 := by kernel_rfl
theorem f64_run (ext : Run) (n : Nat) (a0_1 : List AV) (a1_1 : List AV) : runE G ext (n + 1) 64 [.slice a0_1, .slice a1_1] = f64 (runE G ext n) n a0_1 a1_1 := runE_succ f64_at f64_in

noncomputable def f23 (run : Run) (n : Nat) : Option Res := evalK G run n f23_info.keep 0 f23_info.body (retE G f23_info) (f23_info.start [])
theorem f23_eq (run : Run) (n : Nat) : f23 run n  =
  (run 27 [.slice [.int 256, .int 0, .int 2, .int 0], .int 4]).bind fun r1 =>
    bif r1.fresh then
    nilV r1.outs (consV r1.vals fun v1 vs1 =>
    nilV vs1 ((run 64 [.slice v1.toSlice, .slice [.int 3, .int 2, .int 2, .int 0]]).bind fun r2 =>
    nilV r2.outs (consV r2.vals fun v2 vs2 =>
    nilV vs2 (some ⟨[.bool v2.toBool], [], f23_fresh⟩))))
  else none := by kernel_rfl
theorem f23_run (ext : Run) (n : Nat) : runE G ext (n + 1) 23 [] = f23 (runE G ext n) n  := runE_succ f23_at f23_in

noncomputable def f24_l0 (run : Run) (n : Nat) (k0 : Nat) (x3_1 : List AV) (x6_1 : List AV) (x7_1 : Int) (x8_1 : Int) : Option Res :=
  iterK (evalK G run n f24_keep 0 (sub [1, 1, 0, 1, 0, 0] f24_body)) f24_t0 f24_o0 (blockK 0 (seqK (evalK G run n f24_keep 0 (sub [1, 1, 1] f24_body) (retE G f24_info)) (retE G f24_info))) k0
    ⟨[.any, .any, .any, .val (.slice (.blob 32)) (some (3, 0)) (.slice x3_1), .any, .any, .val (.slice (.struct [(.struct [(.int .u32), (.blob 32), (.blob 32), (.int .u64)]), (.slice .str)])) none (.slice x6_1), .val (.int .i64) none (.int x7_1), .val (.int .i64) none (.int x8_1), .any, .any, .any, .any, .any, .any, .any, .any, .any, .any], [⟨0, none⟩, ⟨0, none⟩, ⟨0, none⟩, ⟨0, none⟩, ⟨0, none⟩, ⟨0, none⟩, ⟨0, none⟩, ⟨0, none⟩, ⟨0, none⟩, ⟨0, none⟩, ⟨0, none⟩, ⟨0, none⟩, ⟨0, none⟩, ⟨0, none⟩, ⟨0, none⟩, ⟨0, none⟩, ⟨0, none⟩, ⟨0, none⟩, ⟨0, none⟩], List.replicate 19 0⟩
theorem f24_l0_eq (run : Run) (n : Nat) (k0 : Nat) (x3_1 : List AV) (x6_1 : List AV) (x7_1 : Int) (x8_1 : Int) : f24_l0 run n (k0 + 1) x3_1 x6_1 x7_1 x8_1 =
  bif ltI x8_1 x7_1 then
    bif inR x8_1 x6_1.length then
    (run 65 [.agg [.agg [.int ((((nth x6_1 (Int.toNat x8_1)).fld 0).fld 0).toInt), .blob ((((nth x6_1 (Int.toNat x8_1)).fld 0).fld 1).toBlob), .blob ((((nth x6_1 (Int.toNat x8_1)).fld 0).fld 2).toBlob), .int ((((nth x6_1 (Int.toNat x8_1)).fld 0).fld 3).toInt)], .slice (((nth x6_1 (Int.toNat x8_1)).fld 1).toSlice)]]).bind fun r1 =>
    nilV r1.outs (consV r1.vals fun v1 vs1 =>
    nilV vs1 (bif Nat.ble ((x3_1.length + 1) * 32) 140737488355328 then
    f24_l0 run n k0 (x3_1 ++ [.blob v1.toBlob]) x6_1 x7_1 (IntKind.wrap .i64 (x8_1 + 1))
  else none))
  else none
  else
    some ⟨[.slice x3_1], [], f24_fresh⟩ := by kernel_rfl
noncomputable def f24 (run : Run) (n : Nat) (a0_1 : List AV) : Option Res := evalK G run n f24_info.keep 0 f24_info.body (retE G f24_info) (f24_info.start [.slice a0_1])
theorem f24_eq (run : Run) (n : Nat) (a0_1 : List AV) : f24 run n a0_1 =
  f24_l0 run n n [] a0_1 (a0_1.length : Int) 0 := by kernel_rfl
theorem f24_run (ext : Run) (n : Nat) (a0_1 : List AV) : runE G ext (n + 1) 24 [.slice a0_1] = f24 (runE G ext n) n a0_1 := runE_succ f24_at f24_in

noncomputable def f25_l0 (run : Run) (n : Nat) (k0 : Nat) (x5_1 : List AV) (x9_1 : List AV) (x10_1 : Int) (x11_1 : Int) (o2_1 : List UInt8) : Option Res :=
  iterK (evalK G run n f25_keep 0 (sub [1, 1, 0, 1, 0, 0] f25_body)) f25_t0 f25_o0 (blockK 0 (seqK (evalK G run n f25_keep 0 (sub [1, 1, 1] f25_body) (retE G f25_info)) (retE G f25_info))) k0
    ⟨[.any, .any, .ptr ⟨(.blob 32), 2, 1, []⟩, .any, .any, .val (.slice (.int .i64)) (some (5, 0)) (.slice x5_1), .any, .any, .any, .val (.slice (.struct [(.struct [(.int .u32), (.blob 32), (.blob 32), (.int .u64)]), (.slice .str)])) none (.slice x9_1), .val (.int .i64) none (.int x10_1), .val (.int .i64) none (.int x11_1), .any, .any, .any, .any, .any, .any, .any, .any, .any, .any, .any, .any, .any, .any, .any, .any], [⟨0, none⟩, ⟨0, none⟩, ⟨1, some ⟨(.blob 32), .blob o2_1⟩⟩, ⟨0, none⟩, ⟨0, none⟩, ⟨0, none⟩, ⟨0, none⟩, ⟨0, none⟩, ⟨0, none⟩, ⟨0, none⟩, ⟨0, none⟩, ⟨0, none⟩, ⟨0, none⟩, ⟨0, none⟩, ⟨0, none⟩, ⟨0, none⟩, ⟨0, none⟩, ⟨0, none⟩, ⟨0, none⟩, ⟨0, none⟩, ⟨0, none⟩, ⟨0, none⟩, ⟨0, none⟩, ⟨0, none⟩, ⟨0, none⟩, ⟨0, none⟩, ⟨0, none⟩, ⟨0, none⟩], List.replicate 28 0⟩
theorem f25_l0_eq (run : Run) (n : Nat) (k0 : Nat) (x5_1 : List AV) (x9_1 : List AV) (x10_1 : Int) (x11_1 : Int) (o2_1 : List UInt8) : f25_l0 run n (k0 + 1) x5_1 x9_1 x10_1 x11_1 o2_1 =
  bif ltI x11_1 x10_1 then
    bif inR x11_1 x9_1.length then
    (run 65 [.agg [.agg [.int ((((nth x9_1 (Int.toNat x11_1)).fld 0).fld 0).toInt), .blob ((((nth x9_1 (Int.toNat x11_1)).fld 0).fld 1).toBlob), .blob ((((nth x9_1 (Int.toNat x11_1)).fld 0).fld 2).toBlob), .int ((((nth x9_1 (Int.toNat x11_1)).fld 0).fld 3).toInt)], .slice (((nth x9_1 (Int.toNat x11_1)).fld 1).toSlice)]]).bind fun r1 =>
    nilV r1.outs (consV r1.vals fun v1 vs1 =>
    nilV vs1 ((run 66 [.blob v1.toBlob, .blob o2_1]).bind fun r2 =>
    nilV r2.outs (consV r2.vals fun v2 vs2 =>
    nilV vs2 (bif eqI x11_1 0 then
    bif Nat.ble ((x5_1.length + 1) * 8) 140737488355328 then
    f25_l0 run n k0 (x5_1 ++ [.int 256]) x9_1 x10_1 (IntKind.wrap .i64 (x11_1 + 1)) o2_1
  else none
  else
    bif Nat.ble ((x5_1.length + 1) * 8) 140737488355328 then
    f25_l0 run n k0 (x5_1 ++ [.int v2.toInt]) x9_1 x10_1 (IntKind.wrap .i64 (x11_1 + 1)) o2_1
  else none))))
  else none
  else
    some ⟨[.slice x5_1], [], f25_fresh⟩ := by kernel_rfl
noncomputable def f25 (run : Run) (n : Nat) (a0_1 : List UInt8) (a1_1 : List AV) : Option Res := evalK G run n f25_info.keep 0 f25_info.body (retE G f25_info) (f25_info.start [.blob a0_1, .slice a1_1])
theorem f25_eq (run : Run) (n : Nat) (a0_1 : List UInt8) (a1_1 : List AV) : f25 run n a0_1 a1_1 =
  f25_l0 run n n [] a1_1 (a1_1.length : Int) 0 a0_1 := by kernel_rfl
theorem f25_run (ext : Run) (n : Nat) (a0_1 : List UInt8) (a1_1 : List AV) : runE G ext (n + 1) 25 [.blob a0_1, .slice a1_1] = f25 (runE G ext n) n a0_1 a1_1 := runE_succ f25_at f25_in

end Go.Proofs.Ytncajhkogppojaa.Ev
