/- What the evaluator does with the functions, as programs over plain values: printed by gen.py, checked by the kernel. -/
import Derived.Test.YtddcooedbibehaaGreatEvFA
namespace Go.Proofs.YtddcooedbibehaaGreat.Ev
open Go Go.RowKit
set_option maxRecDepth 100000


noncomputable def f111_l0 (run : Run) (n : Nat) (k0 : Nat) (x0_1 : List AV) (x1_1 : Int) (m1 : Nat) (x6_1 : Int) (o9_1 : List AV) : Option Res :=
  iterK (evalK G run n f111_keep 0 (sub [1, 1, 0, 1, 0, 0] f111_body)) f111_t0 f111_o0 (blockK 0 (seqK (evalK G run n f111_keep 0 (sub [1, 1, 1] f111_body) (retE G f111_info)) (retE G f111_info))) k0
    ⟨[.val (.slice .bool) none (.slice x0_1), .val (.int .i64) none (.int x1_1), .any, .any, .any, .ref ⟨(.arr m1 .bool), 9, 1, []⟩ 0 m1, .val (.int .i64) none (.int x6_1), .any, .any, .any, .any, .any, .any, .any, .any, .any, .any, .any, .any, .any, .any, .any, .any, .any, .any, .any, .any, .any, .any, .any, .any, .any, .any, .any, .any, .any, .any, .any, .any, .any, .any], [⟨0, none⟩, ⟨0, none⟩, ⟨0, none⟩, ⟨0, none⟩, ⟨0, none⟩, ⟨0, none⟩, ⟨0, none⟩, ⟨0, none⟩, ⟨0, none⟩, ⟨1, some ⟨(.arr m1 .bool), .agg o9_1⟩⟩, ⟨0, none⟩, ⟨0, none⟩, ⟨0, none⟩, ⟨0, none⟩, ⟨0, none⟩, ⟨0, none⟩, ⟨0, none⟩, ⟨0, none⟩, ⟨0, none⟩, ⟨0, none⟩, ⟨0, none⟩, ⟨0, none⟩, ⟨0, none⟩, ⟨0, none⟩, ⟨0, none⟩, ⟨0, none⟩, ⟨0, none⟩, ⟨0, none⟩, ⟨0, none⟩, ⟨0, none⟩, ⟨0, none⟩, ⟨0, none⟩, ⟨0, none⟩, ⟨0, none⟩, ⟨0, none⟩, ⟨0, none⟩, ⟨0, none⟩, ⟨0, none⟩, ⟨0, none⟩, ⟨0, none⟩, ⟨0, none⟩], List.replicate 41 0⟩
theorem f111_l0_eq (run : Run) (n : Nat) (k0 : Nat) (x0_1 : List AV) (x1_1 : Int) (m1 : Nat) (x6_1 : Int) (o9_1 : List AV) : f111_l0 run n (k0 + 1) x0_1 x1_1 m1 x6_1 o9_1 =
  bif ltI x6_1 (x0_1.length : Int) then
    bif leI x1_1 0 then
    bif inR x6_1 x0_1.length then
    bif inR x6_1 m1 then
    f111_l0 run n k0 x0_1 x1_1 m1 (IntKind.wrap .i64 (x6_1 + 1)) (o9_1.set (0 + (Int.toNat x6_1)) (.bool ((nth x0_1 (Int.toNat x6_1)).toBool)))
  else none
  else none
  else
    bif ltI x1_1 (IntKind.wrap .i64 ((x0_1.length : Int) - x6_1)) then
    bif inR (IntKind.wrap .i64 (x6_1 + x1_1)) x0_1.length then
    bif inR x6_1 m1 then
    f111_l0 run n k0 x0_1 x1_1 m1 (IntKind.wrap .i64 (x6_1 + 1)) (o9_1.set (0 + (Int.toNat x6_1)) (.bool ((nth x0_1 (Int.toNat (IntKind.wrap .i64 (x6_1 + x1_1)))).toBool)))
  else none
  else none
  else
    f111_l0 run n k0 x0_1 x1_1 m1 (IntKind.wrap .i64 (x6_1 + 1)) o9_1
  else
    some ⟨[.slice (List.drop 0 (List.take m1 o9_1))], [], f111_fresh⟩ := by kernel_rfl
noncomputable def f111 (run : Run) (n : Nat) (a0_1 : List AV) (a1_1 : Int) : Option Res := evalK G run n f111_info.keep 0 f111_info.body (retE G f111_info) (f111_info.start [.slice a0_1, .int a1_1])
theorem f111_eq (run : Run) (n : Nat) (a0_1 : List AV) (a1_1 : Int) : f111 run n a0_1 a1_1 =
  bif eqI (a0_1.length : Int) (a0_1.length : Int) && leI 0 (a0_1.length : Int) && Nat.ble (Int.toNat (a0_1.length : Int) * 1) 140737488355328 then
    f111_l0 run n n a0_1 a1_1 (Int.toNat (a0_1.length : Int)) 0 (List.replicate (Int.toNat (a0_1.length : Int)) (.bool false))
  else none := by kernel_rfl
theorem f111_run (ext : Run) (n : Nat) (a0_1 : List AV) (a1_1 : Int) : runE G ext (n + 1) 111 [.slice a0_1, .int a1_1] = f111 (runE G ext n) n a0_1 a1_1 := runE_succ f111_at f111_in

noncomputable def f81_l0 (run : Run) (n : Nat) (k0 : Nat) (x5_1 : List AV) (x6_1 : List AV) (x7_1 : Int) : Option Res :=
  iterK (evalK G run n f81_keep 0 (sub [1, 1, 1, 1, 0, 0, 0] f81_body)) f81_t0 f81_o0 (blockK 0 (seqK (evalK G run n f81_keep 0 (sub [1, 1, 1, 1, 1] f81_body) (retE G f81_info)) (retE G f81_info))) k0
    ⟨[.any, .any, .any, .any, .any, .val (.slice .bool) (some (5, 0)) (.slice x5_1), .val (.slice .bool) (some (6, 0)) (.slice x6_1), .val (.int .i64) none (.int x7_1), .any, .any, .any, .any, .any, .any, .any, .any, .any, .any, .any, .any, .any, .any, .any, .any, .any, .any], [⟨0, none⟩, ⟨0, none⟩, ⟨0, none⟩, ⟨0, none⟩, ⟨0, none⟩, ⟨0, none⟩, ⟨0, none⟩, ⟨0, none⟩, ⟨0, none⟩, ⟨0, none⟩, ⟨0, none⟩, ⟨0, none⟩, ⟨0, none⟩, ⟨0, none⟩, ⟨0, none⟩, ⟨0, none⟩, ⟨0, none⟩, ⟨0, none⟩, ⟨0, none⟩, ⟨0, none⟩, ⟨0, none⟩, ⟨0, none⟩, ⟨0, none⟩, ⟨0, none⟩, ⟨0, none⟩, ⟨0, none⟩], List.replicate 26 0⟩
theorem f81_l0_eq (run : Run) (n : Nat) (k0 : Nat) (x5_1 : List AV) (x6_1 : List AV) (x7_1 : Int) : f81_l0 run n (k0 + 1) x5_1 x6_1 x7_1 =
  bif ltI x7_1 256 then
    (run 111 [.slice x6_1, .int x7_1]).bind fun r3 =>
    nilV r3.outs (consV r3.vals fun v3 vs3 =>
    nilV vs3 ((run 69 [.slice x5_1, .slice v3.toSlice]).bind fun r4 =>
    nilV r4.outs (consV r4.vals fun v4 vs4 =>
    nilV vs4 (bif leI v4.toInt 0 then
    f81_l0 run n k0 x5_1 x6_1 (IntKind.wrap .i64 (x7_1 + 1))
  else
    some ⟨[.int (IntKind.wrap .i64 (x7_1 - 1))], [], f81_fresh⟩))))
  else
    some ⟨[.int (IntKind.wrap .i64 (x7_1 - 1))], [], f81_fresh⟩ := by kernel_rfl
noncomputable def f81 (run : Run) (n : Nat) (a0_1 : List UInt8) (a1_1 : List UInt8) : Option Res := evalK G run n f81_info.keep 0 f81_info.body (retE G f81_info) (f81_info.start [.blob a0_1, .blob a1_1])
theorem f81_eq (run : Run) (n : Nat) (a0_1 : List UInt8) (a1_1 : List UInt8) : f81 run n a0_1 a1_1 =
  (run 70 [.blob a0_1]).bind fun r1 =>
    bif r1.fresh then
    nilV r1.outs (consV r1.vals fun v1 vs1 =>
    nilV vs1 ((run 70 [.blob a1_1]).bind fun r2 =>
    bif r2.fresh then
    nilV r2.outs (consV r2.vals fun v2 vs2 =>
    nilV vs2 (f81_l0 run n n v1.toSlice v2.toSlice 0))
  else none))
  else none := by kernel_rfl
theorem f81_run (ext : Run) (n : Nat) (a0_1 : List UInt8) (a1_1 : List UInt8) : runE G ext (n + 1) 81 [.blob a0_1, .blob a1_1] = f81 (runE G ext n) n a0_1 a1_1 := runE_succ f81_at f81_in

noncomputable def f49_l0 (run : Run) (n : Nat) (k0 : Nat) (x1_1 : List AV) (x5_1 : List AV) (x6_1 : Int) (o2_1 : List UInt8) : Option Res :=
  iterK (evalK G run n f49_keep 0 (sub [1, 1, 0, 1, 0, 0] f49_body)) f49_t0 f49_o0 (blockK 0 (seqK (evalK G run n f49_keep 0 (sub [1, 1, 1] f49_body) (retE G f49_info)) (retE G f49_info))) k0
    ⟨[.any, .val (.slice (.blob 32)) none (.slice x1_1), .ptr ⟨(.blob 32), 2, 1, []⟩, .any, .any, .val (.slice (.int .i64)) (some (5, 0)) (.slice x5_1), .val (.int .i64) none (.int x6_1), .any, .any, .any, .any, .any, .any, .any, .any, .any, .any, .any, .any, .any, .any, .any, .any, .any, .any, .any, .any, .any], [⟨0, none⟩, ⟨0, none⟩, ⟨1, some ⟨(.blob 32), .blob o2_1⟩⟩, ⟨0, none⟩, ⟨0, none⟩, ⟨0, none⟩, ⟨0, none⟩, ⟨0, none⟩, ⟨0, none⟩, ⟨0, none⟩, ⟨0, none⟩, ⟨0, none⟩, ⟨0, none⟩, ⟨0, none⟩, ⟨0, none⟩, ⟨0, none⟩, ⟨0, none⟩, ⟨0, none⟩, ⟨0, none⟩, ⟨0, none⟩, ⟨0, none⟩, ⟨0, none⟩, ⟨0, none⟩, ⟨0, none⟩, ⟨0, none⟩, ⟨0, none⟩, ⟨0, none⟩, ⟨0, none⟩], List.replicate 28 0⟩
theorem f49_l0_eq (run : Run) (n : Nat) (k0 : Nat) (x1_1 : List AV) (x5_1 : List AV) (x6_1 : Int) (o2_1 : List UInt8) : f49_l0 run n (k0 + 1) x1_1 x5_1 x6_1 o2_1 =
  bif ltI x6_1 (x1_1.length : Int) then
    bif eqI x6_1 0 then
    bif Nat.ble ((x5_1.length + 1) * 8) 140737488355328 then
    f49_l0 run n k0 x1_1 (x5_1 ++ [.int 256]) (IntKind.wrap .i64 (x6_1 + 1)) o2_1
  else none
  else
    bif inR x6_1 x1_1.length then
    (run 81 [.blob ((nth x1_1 (Int.toNat x6_1)).toBlob), .blob o2_1]).bind fun r1 =>
    nilV r1.outs (consV r1.vals fun v1 vs1 =>
    nilV vs1 (bif Nat.ble ((x5_1.length + 1) * 8) 140737488355328 then
    f49_l0 run n k0 x1_1 (x5_1 ++ [.int v1.toInt]) (IntKind.wrap .i64 (x6_1 + 1)) o2_1
  else none))
  else none
  else
    some ⟨[.slice x5_1], [], f49_fresh⟩ := by kernel_rfl
noncomputable def f49 (run : Run) (n : Nat) (a0_1 : List UInt8) (a1_1 : List AV) : Option Res := evalK G run n f49_info.keep 0 f49_info.body (retE G f49_info) (f49_info.start [.blob a0_1, .slice a1_1])
theorem f49_eq (run : Run) (n : Nat) (a0_1 : List UInt8) (a1_1 : List AV) : f49 run n a0_1 a1_1 =
  f49_l0 run n n a1_1 [] 0 a0_1 := by kernel_rfl
theorem f49_run (ext : Run) (n : Nat) (a0_1 : List UInt8) (a1_1 : List AV) : runE G ext (n + 1) 49 [.blob a0_1, .slice a1_1] = f49 (runE G ext n) n a0_1 a1_1 := runE_succ f49_at f49_in

noncomputable def f80_l0 (run : Run) (n : Nat) (k0 : Nat) (x0_1 : List AV) (x2_1 : Int) (x7_1 : Int) (x8_1 : List AV) (x9_1 : Int) (o4_1 : List UInt8) : Option Res :=
  iterK (evalK G run n f80_keep 0 (sub [1, 1, 1, 1, 1, 1, 1, 0, 1, 0, 0] f80_body)) f80_t0 f80_o0 (blockK 0 (seqK (evalK G run n f80_keep 0 (sub [1, 1, 1, 1, 1, 1, 1, 1] f80_body) (retE G f80_info)) (retE G f80_info))) k0
    ⟨[.val (.slice (.blob 32)) none (.slice x0_1), .any, .val (.int .i64) none (.int x2_1), .any, .ptr ⟨(.blob 32), 4, 1, []⟩, .any, .any, .val (.int .i64) none (.int x7_1), .val (.slice (.blob 32)) (some (8, 0)) (.slice x8_1), .val (.int .i64) none (.int x9_1), .any, .any, .any, .any, .any, .any, .any, .any, .any, .any, .any, .any, .any, .any, .any, .any, .any, .any, .any, .any, .any, .any, .any, .any, .any, .any, .any, .any, .any, .any, .any, .any, .any, .any, .any, .any, .any, .any, .any, .any, .any, .any, .any, .any, .any, .any, .any, .any, .any, .any, .any, .any, .any, .any], [⟨0, none⟩, ⟨0, none⟩, ⟨0, none⟩, ⟨0, none⟩, ⟨1, some ⟨(.blob 32), .blob o4_1⟩⟩, ⟨0, none⟩, ⟨0, none⟩, ⟨0, none⟩, ⟨0, none⟩, ⟨0, none⟩, ⟨0, none⟩, ⟨0, none⟩, ⟨0, none⟩, ⟨0, none⟩, ⟨0, none⟩, ⟨0, none⟩, ⟨0, none⟩, ⟨0, none⟩, ⟨0, none⟩, ⟨0, none⟩, ⟨0, none⟩, ⟨0, none⟩, ⟨0, none⟩, ⟨0, none⟩, ⟨0, none⟩, ⟨0, none⟩, ⟨0, none⟩, ⟨0, none⟩, ⟨0, none⟩, ⟨0, none⟩, ⟨0, none⟩, ⟨0, none⟩, ⟨0, none⟩, ⟨0, none⟩, ⟨0, none⟩, ⟨0, none⟩, ⟨0, none⟩, ⟨0, none⟩, ⟨0, none⟩, ⟨0, none⟩, ⟨0, none⟩, ⟨0, none⟩, ⟨0, none⟩, ⟨0, none⟩, ⟨0, none⟩, ⟨0, none⟩, ⟨0, none⟩, ⟨0, none⟩, ⟨0, none⟩, ⟨0, none⟩, ⟨0, none⟩, ⟨0, none⟩, ⟨0, none⟩, ⟨0, none⟩, ⟨0, none⟩, ⟨0, none⟩, ⟨0, none⟩, ⟨0, none⟩, ⟨0, none⟩, ⟨0, none⟩, ⟨0, none⟩, ⟨0, none⟩, ⟨0, none⟩, ⟨0, none⟩], List.replicate 64 0⟩
theorem f80_l0_eq (run : Run) (n : Nat) (k0 : Nat) (x0_1 : List AV) (x2_1 : Int) (x7_1 : Int) (x8_1 : List AV) (x9_1 : Int) (o4_1 : List UInt8) : f80_l0 run n (k0 + 1) x0_1 x2_1 x7_1 x8_1 x9_1 o4_1 =
  bif ltI x9_1 x7_1 then
    bif leI x9_1 x2_1 then
    bif ltI x9_1 (IntKind.wrap .i64 (x7_1 - 1)) then
    bif Nat.ble ((x8_1.length + 1) * 32) 140737488355328 then
    f80_l0 run n k0 x0_1 x2_1 x7_1 (x8_1 ++ [.blob o4_1]) (IntKind.wrap .i64 (x9_1 + 1)) o4_1
  else none
  else
    bif ltI x9_1 (x0_1.length : Int) then
    bif inR x9_1 x0_1.length then
    bif Nat.ble ((x8_1.length + 1) * 32) 140737488355328 then
    f80_l0 run n k0 x0_1 x2_1 x7_1 (x8_1 ++ [.blob ((nth x0_1 (Int.toNat x9_1)).toBlob)]) (IntKind.wrap .i64 (x9_1 + 1)) o4_1
  else none
  else none
  else
    bif inR (IntKind.wrap .i64 ((x0_1.length : Int) - 1)) x0_1.length then
    bif Nat.ble ((x8_1.length + 1) * 32) 140737488355328 then
    f80_l0 run n k0 x0_1 x2_1 x7_1 (x8_1 ++ [.blob ((nth x0_1 (Int.toNat (IntKind.wrap .i64 ((x0_1.length : Int) - 1)))).toBlob)]) (IntKind.wrap .i64 (x9_1 + 1)) o4_1
  else none
  else none
  else
    bif ltI x9_1 (x0_1.length : Int) then
    bif inR x9_1 x0_1.length then
    bif Nat.ble ((x8_1.length + 1) * 32) 140737488355328 then
    f80_l0 run n k0 x0_1 x2_1 x7_1 (x8_1 ++ [.blob ((nth x0_1 (Int.toNat x9_1)).toBlob)]) (IntKind.wrap .i64 (x9_1 + 1)) o4_1
  else none
  else none
  else
    bif inR (IntKind.wrap .i64 ((x0_1.length : Int) - 1)) x0_1.length then
    bif Nat.ble ((x8_1.length + 1) * 32) 140737488355328 then
    f80_l0 run n k0 x0_1 x2_1 x7_1 (x8_1 ++ [.blob ((nth x0_1 (Int.toNat (IntKind.wrap .i64 ((x0_1.length : Int) - 1)))).toBlob)]) (IntKind.wrap .i64 (x9_1 + 1)) o4_1
  else none
  else none
  else
    some ⟨[.slice x8_1], [], f80_fresh⟩ := by kernel_rfl
noncomputable def f80 (run : Run) (n : Nat) (a0_1 : List AV) (a1_1 : List UInt8) (a2_1 : Int) : Option Res := evalK G run n f80_info.keep 0 f80_info.body (retE G f80_info) (f80_info.start [.slice a0_1, .blob a1_1, .int a2_1])
theorem f80_eq (run : Run) (n : Nat) (a0_1 : List AV) (a1_1 : List UInt8) (a2_1 : Int) : f80 run n a0_1 a1_1 a2_1 =
  bif eqI (a0_1.length : Int) 0 then
    some ⟨[.slice []], [], f80_fresh⟩
  else
    bif ltI a2_1 0 then
    bif ltI 2 (a0_1.length : Int) then
    f80_l0 run n n a0_1 0 (a0_1.length : Int) [] 0 a1_1
  else
    f80_l0 run n n a0_1 0 2 [] 0 a1_1
  else
    bif ltI 255 a2_1 then
    bif ltI 257 (a0_1.length : Int) then
    f80_l0 run n n a0_1 255 (a0_1.length : Int) [] 0 a1_1
  else
    f80_l0 run n n a0_1 255 257 [] 0 a1_1
  else
    bif ltI (IntKind.wrap .i64 (a2_1 + 2)) (a0_1.length : Int) then
    f80_l0 run n n a0_1 a2_1 (a0_1.length : Int) [] 0 a1_1
  else
    f80_l0 run n n a0_1 a2_1 (IntKind.wrap .i64 (a2_1 + 2)) [] 0 a1_1 := by kernel_rfl
theorem f80_run (ext : Run) (n : Nat) (a0_1 : List AV) (a1_1 : List UInt8) (a2_1 : Int) : runE G ext (n + 1) 80 [.slice a0_1, .blob a1_1, .int a2_1] = f80 (runE G ext n) n a0_1 a1_1 a2_1 := runE_succ f80_at f80_in

noncomputable def f48_l0 (run : Run) (n : Nat) (k0 : Nat) (x0_1 : List AV) (x1_1 : List AV) (x2_1 : Int) (x7_1 : List AV) (x8_1 : Int) : Option Res :=
  iterK (evalK G run n f48_keep 0 (sub [1, 1, 1, 0, 1, 0, 0] f48_body)) f48_t0 f48_o0 (blockK 0 (seqK (evalK G run n f48_keep 0 (sub [1, 1, 1, 1] f48_body) (retE G f48_info)) (retE G f48_info))) k0
    ⟨[.val (.slice (.blob 32)) none (.slice x0_1), .val (.slice (.int .i64)) none (.slice x1_1), .val (.int .i64) none (.int x2_1), .any, .any, .any, .any, .val (.slice (.blob 32)) (some (7, 0)) (.slice x7_1), .val (.int .i64) none (.int x8_1), .any, .any, .any, .any, .any, .any, .any, .any, .any, .any, .any, .any, .any, .any, .any, .any, .any, .any, .any, .any, .any, .any], [⟨0, none⟩, ⟨0, none⟩, ⟨0, none⟩, ⟨0, none⟩, ⟨0, none⟩, ⟨0, none⟩, ⟨0, none⟩, ⟨0, none⟩, ⟨0, none⟩, ⟨0, none⟩, ⟨0, none⟩, ⟨0, none⟩, ⟨0, none⟩, ⟨0, none⟩, ⟨0, none⟩, ⟨0, none⟩, ⟨0, none⟩, ⟨0, none⟩, ⟨0, none⟩, ⟨0, none⟩, ⟨0, none⟩, ⟨0, none⟩, ⟨0, none⟩, ⟨0, none⟩, ⟨0, none⟩, ⟨0, none⟩, ⟨0, none⟩, ⟨0, none⟩, ⟨0, none⟩, ⟨0, none⟩, ⟨0, none⟩], List.replicate 31 0⟩
theorem f48_l0_eq (run : Run) (n : Nat) (k0 : Nat) (x0_1 : List AV) (x1_1 : List AV) (x2_1 : Int) (x7_1 : List AV) (x8_1 : Int) : f48_l0 run n (k0 + 1) x0_1 x1_1 x2_1 x7_1 x8_1 =
  bif ltI x8_1 x2_1 then
    bif inR x8_1 x0_1.length then
    bif inR x8_1 x1_1.length then
    (run 80 [.slice x7_1, .blob ((nth x0_1 (Int.toNat x8_1)).toBlob), .int ((nth x1_1 (Int.toNat x8_1)).toInt)]).bind fun r1 =>
    bif r1.fresh then
    nilV r1.outs (consV r1.vals fun v1 vs1 =>
    nilV vs1 (f48_l0 run n k0 x0_1 x1_1 x2_1 v1.toSlice (IntKind.wrap .i64 (x8_1 + 1))))
  else none
  else none
  else none
  else
    some ⟨[.slice x7_1], [], f48_fresh⟩ := by kernel_rfl
noncomputable def f48 (run : Run) (n : Nat) (a0_1 : List AV) (a1_1 : List AV) (a2_1 : Int) : Option Res := evalK G run n f48_info.keep 0 f48_info.body (retE G f48_info) (f48_info.start [.slice a0_1, .slice a1_1, .int a2_1])
theorem f48_eq (run : Run) (n : Nat) (a0_1 : List AV) (a1_1 : List AV) (a2_1 : Int) : f48 run n a0_1 a1_1 a2_1 =
  bif ltI a2_1 1 then
    some ⟨[.slice []], [], f48_fresh⟩
  else
    bif inR 0 a0_1.length then
    f48_l0 run n n a0_1 a1_1 a2_1 [.blob ((nth a0_1 0).toBlob)] 1
  else none := by kernel_rfl
theorem f48_run (ext : Run) (n : Nat) (a0_1 : List AV) (a1_1 : List AV) (a2_1 : Int) : runE G ext (n + 1) 48 [.slice a0_1, .slice a1_1, .int a2_1] = f48 (runE G ext n) n a0_1 a1_1 a2_1 := runE_succ f48_at f48_in

noncomputable def f18 (run : Run) (n : Nat) (a0_1 : List UInt8) (a1_1 : List AV) (a2_1 : List AV) (a3_1 : Int) (a4_1 : Int) : Option Res := evalK G run n f18_info.keep 0 f18_info.body (retE G f18_info) (f18_info.start [.blob a0_1, .slice a1_1, .slice a2_1, .int a3_1, .int a4_1])
theorem f18_eq (run : Run) (n : Nat) (a0_1 : List UInt8) (a1_1 : List AV) (a2_1 : List AV) (a3_1 : Int) (a4_1 : Int) : f18 run n a0_1 a1_1 a2_1 a3_1 a4_1 =
  bif eqI (a1_1.length : Int) 0 then
    some ⟨[.agg [.agg [.int 0, .blob (List.replicate 32 0), .blob (List.replicate 32 0), .int 0], .slice []], .int 6], [], f18_fresh⟩
  else
    bif leI 1024 (a1_1.length : Int) then
    some ⟨[.agg [.agg [.int 0, .blob (List.replicate 32 0), .blob (List.replicate 32 0), .int 0], .slice []], .int 4], [], f18_fresh⟩
  else
    (run 43 [.slice a2_1]).bind fun r1 =>
    nilV r1.outs (consV r1.vals fun v1 vs1 =>
    nilV vs1 (bif !(eqI v1.toInt 0) then
    some ⟨[.agg [.agg [.int 0, .blob (List.replicate 32 0), .blob (List.replicate 32 0), .int 0], .slice []], .int v1.toInt], [], f18_fresh⟩
  else
    (run 47 [.slice a1_1]).bind fun r2 =>
    bif r2.fresh then
    nilV r2.outs (consV r2.vals fun v2 vs2 =>
    nilV vs2 ((run 49 [.blob a0_1, .slice v2.toSlice]).bind fun r3 =>
    bif r3.fresh then
    nilV r3.outs (consV r3.vals fun v3 vs3 =>
    nilV vs3 ((run 48 [.slice v2.toSlice, .slice v3.toSlice, .int (a1_1.length : Int)]).bind fun r4 =>
    bif r4.fresh then
    nilV r4.outs (consV r4.vals fun v4 vs4 =>
    nilV vs4 ((run 45 [.int (IntKind.wrap .u32 (a1_1.length : Int)), .slice v4.toSlice, .slice a2_1, .int a3_1]).bind fun r5 =>
    nilV r5.outs (consV r5.vals fun v5 vs5 =>
    nilV vs5 ((run 44 [.blob a0_1, .agg [.int ((v5.fld 0).toInt), .blob ((v5.fld 1).toBlob), .blob ((v5.fld 2).toBlob), .int ((v5.fld 3).toInt)], .int a4_1]).bind fun r6 =>
    nilV r6.outs (consV r6.vals fun v6 vs6 =>
    consV vs6 fun v7 vs7 =>
    nilV vs7 (bif !v7.toBool then
    some ⟨[.agg [.agg [.int 0, .blob (List.replicate 32 0), .blob (List.replicate 32 0), .int 0], .slice []], .int 9], [], f18_fresh⟩
  else
    some ⟨[.agg [.agg [.int ((v6.fld 0).toInt), .blob ((v6.fld 1).toBlob), .blob ((v6.fld 2).toBlob), .int ((v6.fld 3).toInt)], .slice a2_1], .int 0], [], f18_fresh⟩))))))
  else none))
  else none))
  else none)) := by kernel_rfl
theorem f18_run (ext : Run) (n : Nat) (a0_1 : List UInt8) (a1_1 : List AV) (a2_1 : List AV) (a3_1 : Int) (a4_1 : Int) : runE G ext (n + 1) 18 [.blob a0_1, .slice a1_1, .slice a2_1, .int a3_1, .int a4_1] = f18 (runE G ext n) n a0_1 a1_1 a2_1 a3_1 a4_1 := runE_succ f18_at f18_in

noncomputable def f19_l0 (run : Run) (n : Nat) (k0 : Nat) (x5_1 : Int) (o2_1 : Int) (o2_2 : List UInt8) (o2_3 : List UInt8) (o2_4 : Int) (o2_5 : List AV) (o3_1 : Int) (o3_2 : List UInt8) (o3_3 : List UInt8) (o3_4 : Int) (o3_5 : List AV) : Option Res :=
  iterK (evalK G run n f19_keep 0 (sub [1, 1, 0, 1, 0, 0] f19_body)) f19_t0 f19_o0 (blockK 0 (seqK (evalK G run n f19_keep 0 (sub [1, 1, 1] f19_body) (retE G f19_info)) (retE G f19_info))) k0
    ⟨[.any, .any, .ptr ⟨(.struct [(.struct [(.int .u32), (.blob 32), (.blob 32), (.int .u64)]), (.slice .str)]), 2, 1, []⟩, .ptr ⟨(.struct [(.struct [(.int .u32), (.blob 32), (.blob 32), (.int .u64)]), (.slice .str)]), 3, 1, []⟩, .any, .val (.int .i64) none (.int x5_1), .any, .any, .any, .any, .any, .any, .any, .any, .any, .any, .any, .any, .any, .any, .any, .any, .any, .any, .any, .any, .any, .any, .any, .any, .any, .any, .any, .any, .any, .any, .any, .any], [⟨0, none⟩, ⟨0, none⟩, ⟨1, some ⟨(.struct [(.struct [(.int .u32), (.blob 32), (.blob 32), (.int .u64)]), (.slice .str)]), .agg [.agg [.int o2_1, .blob o2_2, .blob o2_3, .int o2_4], .slice o2_5]⟩⟩, ⟨1, some ⟨(.struct [(.struct [(.int .u32), (.blob 32), (.blob 32), (.int .u64)]), (.slice .str)]), .agg [.agg [.int o3_1, .blob o3_2, .blob o3_3, .int o3_4], .slice o3_5]⟩⟩, ⟨0, none⟩, ⟨0, none⟩, ⟨0, none⟩, ⟨0, none⟩, ⟨0, none⟩, ⟨0, none⟩, ⟨0, none⟩, ⟨0, none⟩, ⟨0, none⟩, ⟨0, none⟩, ⟨0, none⟩, ⟨0, none⟩, ⟨0, none⟩, ⟨0, none⟩, ⟨0, none⟩, ⟨0, none⟩, ⟨0, none⟩, ⟨0, none⟩, ⟨0, none⟩, ⟨0, none⟩, ⟨0, none⟩, ⟨0, none⟩, ⟨0, none⟩, ⟨0, none⟩, ⟨0, none⟩, ⟨0, none⟩, ⟨0, none⟩, ⟨0, none⟩, ⟨0, none⟩, ⟨0, none⟩, ⟨0, none⟩, ⟨0, none⟩, ⟨0, none⟩, ⟨0, none⟩], List.replicate 38 0⟩
theorem f19_l0_eq (run : Run) (n : Nat) (k0 : Nat) (x5_1 : Int) (o2_1 : Int) (o2_2 : List UInt8) (o2_3 : List UInt8) (o2_4 : Int) (o2_5 : List AV) (o3_1 : Int) (o3_2 : List UInt8) (o3_3 : List UInt8) (o3_4 : Int) (o3_5 : List AV) : f19_l0 run n (k0 + 1) x5_1 o2_1 o2_2 o2_3 o2_4 o2_5 o3_1 o3_2 o3_3 o3_4 o3_5 =
  bif ltI x5_1 (o2_5.length : Int) then
    bif inR x5_1 o2_5.length then
    bif inR x5_1 o3_5.length then
    bif !(eqS ((nth o2_5 (Int.toNat x5_1)).toStr) ((nth o3_5 (Int.toNat x5_1)).toStr)) then
    some ⟨[.bool false], [], f19_fresh⟩
  else
    f19_l0 run n k0 (IntKind.wrap .i64 (x5_1 + 1)) o2_1 o2_2 o2_3 o2_4 o2_5 o3_1 o3_2 o3_3 o3_4 o3_5
  else none
  else none
  else
    some ⟨[.bool true], [], f19_fresh⟩ := by kernel_rfl
noncomputable def f19 (run : Run) (n : Nat) (a0_1 : Int) (a0_2 : List UInt8) (a0_3 : List UInt8) (a0_4 : Int) (a0_5 : List AV) (a1_1 : Int) (a1_2 : List UInt8) (a1_3 : List UInt8) (a1_4 : Int) (a1_5 : List AV) : Option Res := evalK G run n f19_info.keep 0 f19_info.body (retE G f19_info) (f19_info.start [.agg [.agg [.int a0_1, .blob a0_2, .blob a0_3, .int a0_4], .slice a0_5], .agg [.agg [.int a1_1, .blob a1_2, .blob a1_3, .int a1_4], .slice a1_5]])
theorem f19_eq (run : Run) (n : Nat) (a0_1 : Int) (a0_2 : List UInt8) (a0_3 : List UInt8) (a0_4 : Int) (a0_5 : List AV) (a1_1 : Int) (a1_2 : List UInt8) (a1_3 : List UInt8) (a1_4 : Int) (a1_5 : List AV) : f19 run n a0_1 a0_2 a0_3 a0_4 a0_5 a1_1 a1_2 a1_3 a1_4 a1_5 =
  bif !(eqI a0_1 a1_1 && (eqS a0_2 a1_2 && (eqS a0_3 a1_3 && (eqI a0_4 a1_4 && true)))) then
    some ⟨[.bool false], [], f19_fresh⟩
  else
    bif !(eqI (a0_5.length : Int) (a1_5.length : Int)) then
    some ⟨[.bool false], [], f19_fresh⟩
  else
    f19_l0 run n n 0 a0_1 a0_2 a0_3 a0_4 a0_5 a1_1 a1_2 a1_3 a1_4 a1_5 := by kernel_rfl
theorem f19_run (ext : Run) (n : Nat) (a0_1 : Int) (a0_2 : List UInt8) (a0_3 : List UInt8) (a0_4 : Int) (a0_5 : List AV) (a1_1 : Int) (a1_2 : List UInt8) (a1_3 : List UInt8) (a1_4 : Int) (a1_5 : List AV) : runE G ext (n + 1) 19 [.agg [.agg [.int a0_1, .blob a0_2, .blob a0_3, .int a0_4], .slice a0_5], .agg [.agg [.int a1_1, .blob a1_2, .blob a1_3, .int a1_4], .slice a1_5]] = f19 (runE G ext n) n a0_1 a0_2 a0_3 a0_4 a0_5 a1_1 a1_2 a1_3 a1_4 a1_5 := runE_succ f19_at f19_in

noncomputable def f4 (run : Run) (n : Nat) (a0_1 : List AV) (a1_1 : List UInt8) (a1_2 : List AV) (a1_3 : Int) (a1_4 : Int) : Option Res := evalK G run n f4_info.keep 0 f4_info.body (retE G f4_info) (f4_info.start [.slice a0_1, .agg [.blob a1_1, .slice a1_2, .int a1_3, .int a1_4]])
theorem f4_eq (run : Run) (n : Nat) (a0_1 : List AV) (a1_1 : List UInt8) (a1_2 : List AV) (a1_3 : Int) (a1_4 : Int) : f4 run n a0_1 a1_1 a1_2 a1_3 a1_4 =
  bif ltI 40 a1_4 then
    (run 14 []).bind fun r1 =>
    nilV r1.outs (consV r1.vals fun v1 vs1 =>
    nilV vs1 (some ⟨[.bool v1.toBool], [], f4_fresh⟩))
  else
    (run 12 [.slice a0_1]).bind fun r2 =>
    nilV r2.outs (consV r2.vals fun v2 vs2 =>
    nilV vs2 (bif v2.toBool then
    (run 14 []).bind fun r3 =>
    nilV r3.outs (consV r3.vals fun v3 vs3 =>
    nilV vs3 (some ⟨[.bool v3.toBool], [], f4_fresh⟩))
  else
    (run 13 [.slice a1_2]).bind fun r4 =>
    nilV r4.outs (consV r4.vals fun v4 vs4 =>
    nilV vs4 (bif v4.toBool then
    (run 14 []).bind fun r5 =>
    nilV r5.outs (consV r5.vals fun v5 vs5 =>
    nilV vs5 (some ⟨[.bool v5.toBool], [], f4_fresh⟩))
  else
    (run 15 [.blob a1_1, .slice a1_2, .int a1_3, .int a1_4]).bind fun r6 =>
    nilV r6.outs (consV r6.vals fun v6 vs6 =>
    consV vs6 fun v7 vs7 =>
    nilV vs7 ((run 16 [.blob a1_1, .slice a1_2, .int a1_3, .int a1_4]).bind fun r7 =>
    nilV r7.outs (consV r7.vals fun v8 vs8 =>
    consV vs8 fun v9 vs9 =>
    nilV vs9 ((run 17 [.blob a1_1, .slice a0_1, .slice a1_2, .int a1_3, .int a1_4]).bind fun r8 =>
    nilV r8.outs (consV r8.vals fun v10 vs10 =>
    consV vs10 fun v11 vs11 =>
    nilV vs11 ((run 18 [.blob a1_1, .slice a0_1, .slice a1_2, .int a1_3, .int a1_4]).bind fun r9 =>
    nilV r9.outs (consV r9.vals fun v12 vs12 =>
    consV vs12 fun v13 vs13 =>
    nilV vs13 ((run 19 [.agg [.agg [.int (((v6.fld 0).fld 0).toInt), .blob (((v6.fld 0).fld 1).toBlob), .blob (((v6.fld 0).fld 2).toBlob), .int (((v6.fld 0).fld 3).toInt)], .slice ((v6.fld 1).toSlice)], .agg [.agg [.int (((v8.fld 0).fld 0).toInt), .blob (((v8.fld 0).fld 1).toBlob), .blob (((v8.fld 0).fld 2).toBlob), .int (((v8.fld 0).fld 3).toInt)], .slice ((v8.fld 1).toSlice)]]).bind fun r10 =>
    nilV r10.outs (consV r10.vals fun v14 vs14 =>
    nilV vs14 (bif v14.toBool then
    bif eqI v7.toInt v9.toInt then
    (run 19 [.agg [.agg [.int (((v10.fld 0).fld 0).toInt), .blob (((v10.fld 0).fld 1).toBlob), .blob (((v10.fld 0).fld 2).toBlob), .int (((v10.fld 0).fld 3).toInt)], .slice ((v10.fld 1).toSlice)], .agg [.agg [.int (((v12.fld 0).fld 0).toInt), .blob (((v12.fld 0).fld 1).toBlob), .blob (((v12.fld 0).fld 2).toBlob), .int (((v12.fld 0).fld 3).toInt)], .slice ((v12.fld 1).toSlice)]]).bind fun r11 =>
    nilV r11.outs (consV r11.vals fun v15 vs15 =>
    nilV vs15 (bif v15.toBool then
    bif eqI v11.toInt v13.toInt then
    (run 14 []).bind fun r12 =>
    nilV r12.outs (consV r12.vals fun v16 vs16 =>
    nilV vs16 (some ⟨[.bool v16.toBool], [], f4_fresh⟩))
  else
    some ⟨[.bool false], [], f4_fresh⟩
  else
    some ⟨[.bool false], [], f4_fresh⟩))
  else
    some ⟨[.bool false], [], f4_fresh⟩
  else
    some ⟨[.bool false], [], f4_fresh⟩)))))))))))))) := by kernel_rfl
theorem f4_run (ext : Run) (n : Nat) (a0_1 : List AV) (a1_1 : List UInt8) (a1_2 : List AV) (a1_3 : Int) (a1_4 : Int) : runE G ext (n + 1) 4 [.slice a0_1, .agg [.blob a1_1, .slice a1_2, .int a1_3, .int a1_4]] = f4 (runE G ext n) n a0_1 a1_1 a1_2 a1_3 a1_4 := runE_succ f4_at f4_in

noncomputable def f20 (run : Run) (n : Nat) (a0_1 : List AV) (a1_1 : Int) (a1_2 : List AV) (a1_3 : Int) (a1_4 : Int) (a1_5 : List AV) (a1_6 : Int) (a1_7 : List UInt8) (a1_8 : Int) (a1_9 : Int) (a1_10 : List AV) : Option Res := evalK G run n f20_info.keep 0 f20_info.body (retE G f20_info) (f20_info.start [.slice a0_1, .agg [.int a1_1, .slice a1_2, .agg [.int a1_3, .int a1_4, .slice a1_5], .int a1_6, .str a1_7, .agg [.int a1_8, .int a1_9, .slice a1_10]]])
theorem f20_eq (run : Run) (n : Nat) (a0_1 : List AV) (a1_1 : Int) (a1_2 : List AV) (a1_3 : Int) (a1_4 : Int) (a1_5 : List AV) (a1_6 : Int) (a1_7 : List UInt8) (a1_8 : Int) (a1_9 : Int) (a1_10 : List AV) : f20 run n a0_1 a1_1 a1_2 a1_3 a1_4 a1_5 a1_6 a1_7 a1_8 a1_9 a1_10 =
  (run 8 [.slice a0_1]).bind fun r1 =>
    nilV r1.outs (consV r1.vals fun v1 vs1 =>
    nilV vs1 (bif v1.toBool then
    some ⟨[.bool true], [], f20_fresh⟩
  else
    (run 8 [.slice a1_2]).bind fun r2 =>
    nilV r2.outs (consV r2.vals fun v2 vs2 =>
    nilV vs2 (bif v2.toBool then
    some ⟨[.bool true], [], f20_fresh⟩
  else
    bif ltI 100 (a1_5.length : Int) then
    some ⟨[.bool true], [], f20_fresh⟩
  else
    bif ltI 100 (a1_10.length : Int) then
    some ⟨[.bool true], [], f20_fresh⟩
  else
    some ⟨[.bool (ltI 5000 (a1_7.length : Int))], [], f20_fresh⟩)))) := by kernel_rfl
theorem f20_run (ext : Run) (n : Nat) (a0_1 : List AV) (a1_1 : Int) (a1_2 : List AV) (a1_3 : Int) (a1_4 : Int) (a1_5 : List AV) (a1_6 : Int) (a1_7 : List UInt8) (a1_8 : Int) (a1_9 : Int) (a1_10 : List AV) : runE G ext (n + 1) 20 [.slice a0_1, .agg [.int a1_1, .slice a1_2, .agg [.int a1_3, .int a1_4, .slice a1_5], .int a1_6, .str a1_7, .agg [.int a1_8, .int a1_9, .slice a1_10]]] = f20 (runE G ext n) n a0_1 a1_1 a1_2 a1_3 a1_4 a1_5 a1_6 a1_7 a1_8 a1_9 a1_10 := runE_succ f20_at f20_in

noncomputable def f50 (run : Run) (n : Nat) (a0_1 : Int) (a1_1 : Int) (a1_2 : List AV) (a1_3 : Int) (a1_4 : Int) (a1_5 : List AV) (a1_6 : Int) (a1_7 : List UInt8) (a1_8 : Int) (a1_9 : Int) (a1_10 : List AV) : Option Res := evalK G run n f50_info.keep 0 f50_info.body (retE G f50_info) (f50_info.start [.int a0_1, .agg [.int a1_1, .slice a1_2, .agg [.int a1_3, .int a1_4, .slice a1_5], .int a1_6, .str a1_7, .agg [.int a1_8, .int a1_9, .slice a1_10]]])
theorem f50_eq (run : Run) (n : Nat) (a0_1 : Int) (a1_1 : Int) (a1_2 : List AV) (a1_3 : Int) (a1_4 : Int) (a1_5 : List AV) (a1_6 : Int) (a1_7 : List UInt8) (a1_8 : Int) (a1_9 : Int) (a1_10 : List AV) : f50 run n a0_1 a1_1 a1_2 a1_3 a1_4 a1_5 a1_6 a1_7 a1_8 a1_9 a1_10 =
  bif ltI a1_1 0 then
    some ⟨[.int 15], [], f50_fresh⟩
  else
    bif leI a0_1 a1_1 then
    some ⟨[.int 15], [], f50_fresh⟩
  else
    bif ltI a1_6 0 then
    some ⟨[.int 15], [], f50_fresh⟩
  else
    bif leI (mx2 (a1_2.length : Int) 1) a1_6 then
    some ⟨[.int 15], [], f50_fresh⟩
  else
    bif ltI 0 (a1_2.length : Int) then
    bif eqI a1_1 0 then
    some ⟨[.int 15], [], f50_fresh⟩
  else
    bif ltI 1024 (a1_2.length : Int) then
    some ⟨[.int 4], [], f50_fresh⟩
  else
    some ⟨[.int 0], [], f50_fresh⟩
  else
    bif ltI 1024 (a1_2.length : Int) then
    some ⟨[.int 4], [], f50_fresh⟩
  else
    some ⟨[.int 0], [], f50_fresh⟩ := by kernel_rfl
theorem f50_run (ext : Run) (n : Nat) (a0_1 : Int) (a1_1 : Int) (a1_2 : List AV) (a1_3 : Int) (a1_4 : Int) (a1_5 : List AV) (a1_6 : Int) (a1_7 : List UInt8) (a1_8 : Int) (a1_9 : Int) (a1_10 : List AV) : runE G ext (n + 1) 50 [.int a0_1, .agg [.int a1_1, .slice a1_2, .agg [.int a1_3, .int a1_4, .slice a1_5], .int a1_6, .str a1_7, .agg [.int a1_8, .int a1_9, .slice a1_10]]] = f50 (runE G ext n) n a0_1 a1_1 a1_2 a1_3 a1_4 a1_5 a1_6 a1_7 a1_8 a1_9 a1_10 := runE_succ f50_at f50_in

noncomputable def f22 (run : Run) (n : Nat) (a0_1 : List AV) (a1_1 : Int) (a1_2 : List AV) (a1_3 : Int) (a1_4 : Int) (a1_5 : List AV) (a1_6 : Int) (a1_7 : List UInt8) (a1_8 : Int) (a1_9 : Int) (a1_10 : List AV) : Option Res := evalK G run n f22_info.keep 0 f22_info.body (retE G f22_info) (f22_info.start [.slice a0_1, .agg [.int a1_1, .slice a1_2, .agg [.int a1_3, .int a1_4, .slice a1_5], .int a1_6, .str a1_7, .agg [.int a1_8, .int a1_9, .slice a1_10]]])
theorem f22_eq (run : Run) (n : Nat) (a0_1 : List AV) (a1_1 : Int) (a1_2 : List AV) (a1_3 : Int) (a1_4 : Int) (a1_5 : List AV) (a1_6 : Int) (a1_7 : List UInt8) (a1_8 : Int) (a1_9 : Int) (a1_10 : List AV) : f22 run n a0_1 a1_1 a1_2 a1_3 a1_4 a1_5 a1_6 a1_7 a1_8 a1_9 a1_10 =
  (run 50 [.int (a0_1.length : Int), .agg [.int a1_1, .slice a1_2, .agg [.int a1_3, .int a1_4, .slice a1_5], .int a1_6, .str a1_7, .agg [.int a1_8, .int a1_9, .slice a1_10]]]).bind fun r1 =>
    nilV r1.outs (consV r1.vals fun v1 vs1 =>
    nilV vs1 (bif !(eqI v1.toInt 0) then
    some ⟨[.agg [.int 0, .blob (List.replicate 32 0), .blob (List.replicate 32 0), .int 0], .bool false], [], f22_fresh⟩
  else
    bif ltI 0 (a1_2.length : Int) then
    bif inR a1_6 a1_2.length then
    some ⟨[.agg [.int ((((nth a1_2 (Int.toNat a1_6)).fld 0).fld 0).toInt), .blob ((((nth a1_2 (Int.toNat a1_6)).fld 0).fld 1).toBlob), .blob ((((nth a1_2 (Int.toNat a1_6)).fld 0).fld 2).toBlob), .int ((((nth a1_2 (Int.toNat a1_6)).fld 0).fld 3).toInt)], .bool true], [], f22_fresh⟩
  else none
  else
    bif inR a1_1 a0_1.length then
    some ⟨[.agg [.int ((((nth a0_1 (Int.toNat a1_1)).fld 0).fld 0).toInt), .blob ((((nth a0_1 (Int.toNat a1_1)).fld 0).fld 1).toBlob), .blob ((((nth a0_1 (Int.toNat a1_1)).fld 0).fld 2).toBlob), .int ((((nth a0_1 (Int.toNat a1_1)).fld 0).fld 3).toInt)], .bool true], [], f22_fresh⟩
  else none)) := by kernel_rfl
theorem f22_run (ext : Run) (n : Nat) (a0_1 : List AV) (a1_1 : Int) (a1_2 : List AV) (a1_3 : Int) (a1_4 : Int) (a1_5 : List AV) (a1_6 : Int) (a1_7 : List UInt8) (a1_8 : Int) (a1_9 : Int) (a1_10 : List AV) : runE G ext (n + 1) 22 [.slice a0_1, .agg [.int a1_1, .slice a1_2, .agg [.int a1_3, .int a1_4, .slice a1_5], .int a1_6, .str a1_7, .agg [.int a1_8, .int a1_9, .slice a1_10]]] = f22 (runE G ext n) n a0_1 a1_1 a1_2 a1_3 a1_4 a1_5 a1_6 a1_7 a1_8 a1_9 a1_10 := runE_succ f22_at f22_in

noncomputable def f82 (run : Run) (n : Nat) (a0_1 : List UInt8) (a1_1 : Int) (a1_2 : List UInt8) (a1_3 : List UInt8) (a1_4 : Int) (a1_5 : Int) (a1_6 : Int) (a1_7 : List AV) (a2_1 : Int) (a2_2 : List UInt8) (a2_3 : List UInt8) (a2_4 : Int) (a3_1 : Int) : Option Res := evalK G run n f82_info.keep 0 f82_info.body (retE G f82_info) (f82_info.start [.blob a0_1, .agg [.agg [.int a1_1, .blob a1_2, .blob a1_3, .int a1_4], .agg [.int a1_5, .int a1_6, .slice a1_7]], .agg [.int a2_1, .blob a2_2, .blob a2_3, .int a2_4], .int a3_1])
theorem f82_eq (run : Run) (n : Nat) (a0_1 : List UInt8) (a1_1 : Int) (a1_2 : List UInt8) (a1_3 : List UInt8) (a1_4 : Int) (a1_5 : Int) (a1_6 : Int) (a1_7 : List AV) (a2_1 : Int) (a2_2 : List UInt8) (a2_3 : List UInt8) (a2_4 : Int) (a3_1 : Int) : f82 run n a0_1 a1_1 a1_2 a1_3 a1_4 a1_5 a1_6 a1_7 a2_1 a2_2 a2_3 a2_4 a3_1 =
  (run 62 [.agg [.int a1_1, .blob a1_2, .blob a1_3, .int a1_4], .agg [.int a2_1, .blob a2_2, .blob a2_3, .int a2_4]]).bind fun r1 =>
    nilV r1.outs (consV r1.vals fun v1 vs1 =>
    nilV vs1 (bif !v1.toBool then
    some ⟨[.int 8], [], f82_fresh⟩
  else
    bif leI a3_1 a1_1 then
    some ⟨[.int 8], [], f82_fresh⟩
  else
    (run 65 [.agg [.int a1_1, .blob a1_2, .blob a1_3, .int a1_4]]).bind fun r2 =>
    nilV r2.outs (consV r2.vals fun v2 vs2 =>
    nilV vs2 ((run 64 [.blob v2.toBlob, .blob a0_1]).bind fun r3 =>
    nilV r3.outs (consV r3.vals fun v3 vs3 =>
    nilV vs3 (bif !v3.toBool then
    some ⟨[.int 9], [], f82_fresh⟩
  else
    (run 67 [.agg [.agg [.int a1_1, .blob a1_2, .blob a1_3, .int a1_4], .agg [.int a1_5, .int a1_6, .slice a1_7]], .agg [.int a2_1, .blob a2_2, .blob a2_3, .int a2_4]]).bind fun r4 =>
    nilV r4.outs (consV r4.vals fun v4 vs4 =>
    nilV vs4 (bif !v4.toBool then
    some ⟨[.int 10], [], f82_fresh⟩
  else
    some ⟨[.int 0], [], f82_fresh⟩)))))))) := by kernel_rfl
theorem f82_run (ext : Run) (n : Nat) (a0_1 : List UInt8) (a1_1 : Int) (a1_2 : List UInt8) (a1_3 : List UInt8) (a1_4 : Int) (a1_5 : Int) (a1_6 : Int) (a1_7 : List AV) (a2_1 : Int) (a2_2 : List UInt8) (a2_3 : List UInt8) (a2_4 : Int) (a3_1 : Int) : runE G ext (n + 1) 82 [.blob a0_1, .agg [.agg [.int a1_1, .blob a1_2, .blob a1_3, .int a1_4], .agg [.int a1_5, .int a1_6, .slice a1_7]], .agg [.int a2_1, .blob a2_2, .blob a2_3, .int a2_4], .int a3_1] = f82 (runE G ext n) n a0_1 a1_1 a1_2 a1_3 a1_4 a1_5 a1_6 a1_7 a2_1 a2_2 a2_3 a2_4 a3_1 := runE_succ f82_at f82_in

noncomputable def f51_l0 (run : Run) (n : Nat) (k0 : Nat) (x34_1 : List AV) (x35_1 : Int) (x36_1 : Int) (o3_1 : List UInt8) (o5_1 : Int) (o5_2 : List AV) (o5_3 : Int) (o5_4 : Int) (o5_5 : List AV) (o5_6 : Int) (o5_7 : List UInt8) (o5_8 : Int) (o5_9 : Int) (o5_10 : List AV) (o7_1 : Int) (o7_2 : List UInt8) (o7_3 : List UInt8) (o7_4 : Int) (o8_1 : Int) (o8_2 : List UInt8) (o8_3 : List UInt8) (o8_4 : Int) : Option Res :=
  iterK (evalK G run n f51_keep 0 (sub [1, 1, 1, 0, 1, 0, 0] f51_body)) f51_t0 f51_o0 (blockK 0 (seqK (evalK G run n f51_keep 0 (sub [1, 1, 1, 1] f51_body) (retE G f51_info)) (retE G f51_info))) k0
    ⟨[.any, .any, .any, .ptr ⟨(.blob 32), 3, 1, []⟩, .any, .ptr ⟨(.struct [(.int .i64), (.slice (.struct [(.struct [(.int .u32), (.blob 32), (.blob 32), (.int .u64)]), (.struct [(.int .i64), (.int .i64), (.slice (.blob 32))])])), (.struct [(.int .i64), (.int .i64), (.slice (.blob 32))]), (.int .i64), .str, (.struct [(.int .i64), (.int .i64), (.slice (.blob 32))])]), 5, 1, []⟩, .any, .ptr ⟨(.struct [(.int .u32), (.blob 32), (.blob 32), (.int .u64)]), 7, 1, []⟩, .ptr ⟨(.struct [(.int .u32), (.blob 32), (.blob 32), (.int .u64)]), 8, 1, []⟩, .any, .any, .any, .any, .any, .any, .any, .any, .any, .any, .any, .any, .any, .any, .any, .any, .any, .any, .any, .any, .any, .any, .any, .any, .any, .val (.slice (.struct [(.struct [(.int .u32), (.blob 32), (.blob 32), (.int .u64)]), (.struct [(.int .i64), (.int .i64), (.slice (.blob 32))])])) none (.slice x34_1), .val (.int .i64) none (.int x35_1), .val (.int .i64) none (.int x36_1), .any, .any, .any, .any, .any, .any, .any, .any, .any, .any, .any, .any, .any, .any, .any, .any, .any, .any, .any, .any, .any, .any], [⟨0, none⟩, ⟨0, none⟩, ⟨0, none⟩, ⟨1, some ⟨(.blob 32), .blob o3_1⟩⟩, ⟨0, none⟩, ⟨1, some ⟨(.struct [(.int .i64), (.slice (.struct [(.struct [(.int .u32), (.blob 32), (.blob 32), (.int .u64)]), (.struct [(.int .i64), (.int .i64), (.slice (.blob 32))])])), (.struct [(.int .i64), (.int .i64), (.slice (.blob 32))]), (.int .i64), .str, (.struct [(.int .i64), (.int .i64), (.slice (.blob 32))])]), .agg [.int o5_1, .slice o5_2, .agg [.int o5_3, .int o5_4, .slice o5_5], .int o5_6, .str o5_7, .agg [.int o5_8, .int o5_9, .slice o5_10]]⟩⟩, ⟨0, none⟩, ⟨1, some ⟨(.struct [(.int .u32), (.blob 32), (.blob 32), (.int .u64)]), .agg [.int o7_1, .blob o7_2, .blob o7_3, .int o7_4]⟩⟩, ⟨1, some ⟨(.struct [(.int .u32), (.blob 32), (.blob 32), (.int .u64)]), .agg [.int o8_1, .blob o8_2, .blob o8_3, .int o8_4]⟩⟩, ⟨0, none⟩, ⟨0, none⟩, ⟨0, none⟩, ⟨0, none⟩, ⟨0, none⟩, ⟨0, none⟩, ⟨0, none⟩, ⟨0, none⟩, ⟨0, none⟩, ⟨0, none⟩, ⟨0, none⟩, ⟨0, none⟩, ⟨0, none⟩, ⟨0, none⟩, ⟨0, none⟩, ⟨0, none⟩, ⟨0, none⟩, ⟨0, none⟩, ⟨0, none⟩, ⟨0, none⟩, ⟨0, none⟩, ⟨0, none⟩, ⟨0, none⟩, ⟨0, none⟩, ⟨0, none⟩, ⟨0, none⟩, ⟨0, none⟩, ⟨0, none⟩, ⟨0, none⟩, ⟨0, none⟩, ⟨0, none⟩, ⟨0, none⟩, ⟨0, none⟩, ⟨0, none⟩, ⟨0, none⟩, ⟨0, none⟩, ⟨0, none⟩, ⟨0, none⟩, ⟨0, none⟩, ⟨0, none⟩, ⟨0, none⟩, ⟨0, none⟩, ⟨0, none⟩, ⟨0, none⟩, ⟨0, none⟩, ⟨0, none⟩, ⟨0, none⟩, ⟨0, none⟩, ⟨0, none⟩, ⟨0, none⟩], List.replicate 59 0⟩
theorem f51_l0_eq (run : Run) (n : Nat) (k0 : Nat) (x34_1 : List AV) (x35_1 : Int) (x36_1 : Int) (o3_1 : List UInt8) (o5_1 : Int) (o5_2 : List AV) (o5_3 : Int) (o5_4 : Int) (o5_5 : List AV) (o5_6 : Int) (o5_7 : List UInt8) (o5_8 : Int) (o5_9 : Int) (o5_10 : List AV) (o7_1 : Int) (o7_2 : List UInt8) (o7_3 : List UInt8) (o7_4 : Int) (o8_1 : Int) (o8_2 : List UInt8) (o8_3 : List UInt8) (o8_4 : Int) : f51_l0 run n (k0 + 1) x34_1 x35_1 x36_1 o3_1 o5_1 o5_2 o5_3 o5_4 o5_5 o5_6 o5_7 o5_8 o5_9 o5_10 o7_1 o7_2 o7_3 o7_4 o8_1 o8_2 o8_3 o8_4 =
  bif ltI x36_1 x35_1 then
    bif inR x36_1 x34_1.length then
    (run 82 [.blob o3_1, .agg [.agg [.int ((((nth x34_1 (Int.toNat x36_1)).fld 0).fld 0).toInt), .blob ((((nth x34_1 (Int.toNat x36_1)).fld 0).fld 1).toBlob), .blob ((((nth x34_1 (Int.toNat x36_1)).fld 0).fld 2).toBlob), .int ((((nth x34_1 (Int.toNat x36_1)).fld 0).fld 3).toInt)], .agg [.int ((((nth x34_1 (Int.toNat x36_1)).fld 1).fld 0).toInt), .int ((((nth x34_1 (Int.toNat x36_1)).fld 1).fld 1).toInt), .slice ((((nth x34_1 (Int.toNat x36_1)).fld 1).fld 2).toSlice)]], .agg [.int o7_1, .blob o7_2, .blob o7_3, .int o7_4], .int o8_1]).bind fun r2 =>
    nilV r2.outs (consV r2.vals fun v2 vs2 =>
    nilV vs2 (bif !(eqI v2.toInt 0) then
    some ⟨[.int v2.toInt], [], f51_fresh⟩
  else
    f51_l0 run n k0 x34_1 x35_1 (IntKind.wrap .i64 (x36_1 + 1)) o3_1 o5_1 o5_2 o5_3 o5_4 o5_5 o5_6 o5_7 o5_8 o5_9 o5_10 ((((nth x34_1 (Int.toNat x36_1)).fld 0).fld 0).toInt) ((((nth x34_1 (Int.toNat x36_1)).fld 0).fld 1).toBlob) ((((nth x34_1 (Int.toNat x36_1)).fld 0).fld 2).toBlob) ((((nth x34_1 (Int.toNat x36_1)).fld 0).fld 3).toInt) o8_1 o8_2 o8_3 o8_4))
  else none
  else
    (run 67 [.agg [.agg [.int o8_1, .blob o8_2, .blob o8_3, .int o8_4], .agg [.int o5_3, .int o5_4, .slice o5_5]], .agg [.int o7_1, .blob o7_2, .blob o7_3, .int o7_4]]).bind fun r3 =>
    nilV r3.outs (consV r3.vals fun v3 vs3 =>
    nilV vs3 (bif !v3.toBool then
    some ⟨[.int 10], [], f51_fresh⟩
  else
    some ⟨[.int 0], [], f51_fresh⟩)) := by kernel_rfl
noncomputable def f51 (run : Run) (n : Nat) (a0_1 : List UInt8) (a1_1 : List AV) (a2_1 : Int) (a2_2 : List AV) (a2_3 : Int) (a2_4 : Int) (a2_5 : List AV) (a2_6 : Int) (a2_7 : List UInt8) (a2_8 : Int) (a2_9 : Int) (a2_10 : List AV) : Option Res := evalK G run n f51_info.keep 0 f51_info.body (retE G f51_info) (f51_info.start [.blob a0_1, .slice a1_1, .agg [.int a2_1, .slice a2_2, .agg [.int a2_3, .int a2_4, .slice a2_5], .int a2_6, .str a2_7, .agg [.int a2_8, .int a2_9, .slice a2_10]]])
theorem f51_eq (run : Run) (n : Nat) (a0_1 : List UInt8) (a1_1 : List AV) (a2_1 : Int) (a2_2 : List AV) (a2_3 : Int) (a2_4 : Int) (a2_5 : List AV) (a2_6 : Int) (a2_7 : List UInt8) (a2_8 : Int) (a2_9 : Int) (a2_10 : List AV) : f51 run n a0_1 a1_1 a2_1 a2_2 a2_3 a2_4 a2_5 a2_6 a2_7 a2_8 a2_9 a2_10 =
  bif eqI (a2_2.length : Int) 0 then
    (run 60 [.agg [.int a2_3, .int a2_4, .slice a2_5]]).bind fun r1 =>
    nilV r1.outs (consV r1.vals fun v1 vs1 =>
    nilV vs1 (bif !v1.toBool then
    some ⟨[.int 2], [], f51_fresh⟩
  else
    some ⟨[.int 0], [], f51_fresh⟩))
  else
    bif inR (IntKind.wrap .i64 (a2_1 - 1)) a1_1.length then
    bif inR a2_1 a1_1.length then
    f51_l0 run n n a2_2 (a2_2.length : Int) 0 a0_1 a2_1 a2_2 a2_3 a2_4 a2_5 a2_6 a2_7 a2_8 a2_9 a2_10 ((((nth a1_1 (Int.toNat (IntKind.wrap .i64 (a2_1 - 1)))).fld 0).fld 0).toInt) ((((nth a1_1 (Int.toNat (IntKind.wrap .i64 (a2_1 - 1)))).fld 0).fld 1).toBlob) ((((nth a1_1 (Int.toNat (IntKind.wrap .i64 (a2_1 - 1)))).fld 0).fld 2).toBlob) ((((nth a1_1 (Int.toNat (IntKind.wrap .i64 (a2_1 - 1)))).fld 0).fld 3).toInt) ((((nth a1_1 (Int.toNat a2_1)).fld 0).fld 0).toInt) ((((nth a1_1 (Int.toNat a2_1)).fld 0).fld 1).toBlob) ((((nth a1_1 (Int.toNat a2_1)).fld 0).fld 2).toBlob) ((((nth a1_1 (Int.toNat a2_1)).fld 0).fld 3).toInt)
  else none
  else none := by kernel_rfl
theorem f51_run (ext : Run) (n : Nat) (a0_1 : List UInt8) (a1_1 : List AV) (a2_1 : Int) (a2_2 : List AV) (a2_3 : Int) (a2_4 : Int) (a2_5 : List AV) (a2_6 : Int) (a2_7 : List UInt8) (a2_8 : Int) (a2_9 : Int) (a2_10 : List AV) : runE G ext (n + 1) 51 [.blob a0_1, .slice a1_1, .agg [.int a2_1, .slice a2_2, .agg [.int a2_3, .int a2_4, .slice a2_5], .int a2_6, .str a2_7, .agg [.int a2_8, .int a2_9, .slice a2_10]]] = f51 (runE G ext n) n a0_1 a1_1 a2_1 a2_2 a2_3 a2_4 a2_5 a2_6 a2_7 a2_8 a2_9 a2_10 := runE_succ f51_at f51_in

noncomputable def f52 (run : Run) (n : Nat) (a0_1 : List UInt8) (a1_1 : List UInt8) (a2_1 : Int) (a2_2 : Int) (a2_3 : List AV) : Option Res := evalK G run n f52_info.keep 0 f52_info.body (retE G f52_info) (f52_info.start [.blob a0_1, .str a1_1, .agg [.int a2_1, .int a2_2, .slice a2_3]])
theorem f52_eq (run : Run) (n : Nat) (a0_1 : List UInt8) (a1_1 : List UInt8) (a2_1 : Int) (a2_2 : Int) (a2_3 : List AV) : f52 run n a0_1 a1_1 a2_1 a2_2 a2_3 =
  bif leI a2_2 1024 then
    bif leI (a1_1.length : Int) 4096 then
    (run 84 [.str a1_1]).bind fun r1 =>
    nilV r1.outs (consV r1.vals fun v1 vs1 =>
    nilV vs1 ((run 83 [.blob a0_1, .str v1.toStr, .agg [.int a2_1, .int a2_2, .slice a2_3]]).bind fun r2 =>
    nilV r2.outs (consV r2.vals fun v2 vs2 =>
    nilV vs2 (some ⟨[.bool v2.toBool], [], f52_fresh⟩))))
  else
    some ⟨[.bool false], [], f52_fresh⟩
  else
    some ⟨[.bool false], [], f52_fresh⟩ := by kernel_rfl
theorem f52_run (ext : Run) (n : Nat) (a0_1 : List UInt8) (a1_1 : List UInt8) (a2_1 : Int) (a2_2 : Int) (a2_3 : List AV) : runE G ext (n + 1) 52 [.blob a0_1, .str a1_1, .agg [.int a2_1, .int a2_2, .slice a2_3]] = f52 (runE G ext n) n a0_1 a1_1 a2_1 a2_2 a2_3 := runE_succ f52_at f52_in

noncomputable def f24 (run : Run) (n : Nat) (a0_1 : List UInt8) (a1_1 : List AV) (a2_1 : Int) (a2_2 : List AV) (a2_3 : Int) (a2_4 : Int) (a2_5 : List AV) (a2_6 : Int) (a2_7 : List UInt8) (a2_8 : Int) (a2_9 : Int) (a2_10 : List AV) : Option Res := evalK G run n f24_info.keep 0 f24_info.body (retE G f24_info) (f24_info.start [.blob a0_1, .slice a1_1, .agg [.int a2_1, .slice a2_2, .agg [.int a2_3, .int a2_4, .slice a2_5], .int a2_6, .str a2_7, .agg [.int a2_8, .int a2_9, .slice a2_10]]])
theorem f24_eq (run : Run) (n : Nat) (a0_1 : List UInt8) (a1_1 : List AV) (a2_1 : Int) (a2_2 : List AV) (a2_3 : Int) (a2_4 : Int) (a2_5 : List AV) (a2_6 : Int) (a2_7 : List UInt8) (a2_8 : Int) (a2_9 : Int) (a2_10 : List AV) : f24 run n a0_1 a1_1 a2_1 a2_2 a2_3 a2_4 a2_5 a2_6 a2_7 a2_8 a2_9 a2_10 =
  (run 50 [.int (a1_1.length : Int), .agg [.int a2_1, .slice a2_2, .agg [.int a2_3, .int a2_4, .slice a2_5], .int a2_6, .str a2_7, .agg [.int a2_8, .int a2_9, .slice a2_10]]]).bind fun r1 =>
    nilV r1.outs (consV r1.vals fun v1 vs1 =>
    nilV vs1 (bif !(eqI v1.toInt 0) then
    some ⟨[.int v1.toInt], [], f24_fresh⟩
  else
    (run 51 [.blob a0_1, .slice a1_1, .agg [.int a2_1, .slice a2_2, .agg [.int a2_3, .int a2_4, .slice a2_5], .int a2_6, .str a2_7, .agg [.int a2_8, .int a2_9, .slice a2_10]]]).bind fun r2 =>
    nilV r2.outs (consV r2.vals fun v2 vs2 =>
    nilV vs2 (bif !(eqI v2.toInt 0) then
    some ⟨[.int v2.toInt], [], f24_fresh⟩
  else
    (run 22 [.slice a1_1, .agg [.int a2_1, .slice a2_2, .agg [.int a2_3, .int a2_4, .slice a2_5], .int a2_6, .str a2_7, .agg [.int a2_8, .int a2_9, .slice a2_10]]]).bind fun r3 =>
    nilV r3.outs (consV r3.vals fun v3 vs3 =>
    consV vs3 fun _v4 vs4 =>
    nilV vs4 ((run 52 [.blob ((v3.fld 2).toBlob), .str a2_7, .agg [.int a2_8, .int a2_9, .slice a2_10]]).bind fun r4 =>
    nilV r4.outs (consV r4.vals fun v5 vs5 =>
    nilV vs5 (bif !v5.toBool then
    some ⟨[.int 14], [], f24_fresh⟩
  else
    some ⟨[.int 0], [], f24_fresh⟩)))))))) := by kernel_rfl
theorem f24_run (ext : Run) (n : Nat) (a0_1 : List UInt8) (a1_1 : List AV) (a2_1 : Int) (a2_2 : List AV) (a2_3 : Int) (a2_4 : Int) (a2_5 : List AV) (a2_6 : Int) (a2_7 : List UInt8) (a2_8 : Int) (a2_9 : Int) (a2_10 : List AV) : runE G ext (n + 1) 24 [.blob a0_1, .slice a1_1, .agg [.int a2_1, .slice a2_2, .agg [.int a2_3, .int a2_4, .slice a2_5], .int a2_6, .str a2_7, .agg [.int a2_8, .int a2_9, .slice a2_10]]] = f24 (runE G ext n) n a0_1 a1_1 a2_1 a2_2 a2_3 a2_4 a2_5 a2_6 a2_7 a2_8 a2_9 a2_10 := runE_succ f24_at f24_in

noncomputable def f21 (run : Run) (n : Nat) : Option Res := evalK G run n f21_info.keep 0 f21_info.body (retE G f21_info) (f21_info.start [])
theorem f21_eq (run : Run) (n : Nat) : f21 run n  =
  (run 22 [.slice [.agg [.agg [.int 0, .blob (List.replicate 32 0), .blob (List.replicate 32 0), .int 7], .agg [.int 0, .int 0, .slice []]]], .agg [.int 0, .slice [], .agg [.int 0, .int 0, .slice []], .int 0, .str [], .agg [.int 0, .int 0, .slice []]]]).bind fun r1 =>
    nilV r1.outs (consV r1.vals fun v1 vs1 =>
    consV vs1 fun v2 vs2 =>
    nilV vs2 ((run 24 [.blob [0, 0, 0, 0, 0, 0, 0, 0, 0, 0, 0, 0, 0, 0, 0, 0, 0, 0, 0, 0, 0, 0, 0, 0, 0, 0, 0, 0, 0, 0, 0, 0], .slice [], .agg [.int 0, .slice [], .agg [.int 0, .int 0, .slice []], .int 0, .str [], .agg [.int 0, .int 0, .slice []]]]).bind fun r2 =>
    nilV r2.outs (consV r2.vals fun v3 vs3 =>
    nilV vs3 (bif eqI v3.toInt 15 then
    bif v2.toBool then
    some ⟨[.bool (eqI ((v1.fld 3).toInt) 7)], [], f21_fresh⟩
  else
    some ⟨[.bool false], [], f21_fresh⟩
  else
    some ⟨[.bool false], [], f21_fresh⟩)))) := by kernel_rfl
theorem f21_run (ext : Run) (n : Nat) : runE G ext (n + 1) 21 [] = f21 (runE G ext n) n  := runE_succ f21_at f21_in

noncomputable def f23 (run : Run) (n : Nat) (a0_1 : List AV) (a1_1 : Int) (a1_2 : List AV) (a1_3 : Int) (a1_4 : Int) (a1_5 : List AV) (a1_6 : Int) (a1_7 : List UInt8) (a1_8 : Int) (a1_9 : Int) (a1_10 : List AV) : Option Res := evalK G run n f23_info.keep 0 f23_info.body (retE G f23_info) (f23_info.start [.slice a0_1, .agg [.int a1_1, .slice a1_2, .agg [.int a1_3, .int a1_4, .slice a1_5], .int a1_6, .str a1_7, .agg [.int a1_8, .int a1_9, .slice a1_10]]])
theorem f23_eq (run : Run) (n : Nat) (a0_1 : List AV) (a1_1 : Int) (a1_2 : List AV) (a1_3 : Int) (a1_4 : Int) (a1_5 : List AV) (a1_6 : Int) (a1_7 : List UInt8) (a1_8 : Int) (a1_9 : Int) (a1_10 : List AV) : f23 run n a0_1 a1_1 a1_2 a1_3 a1_4 a1_5 a1_6 a1_7 a1_8 a1_9 a1_10 =
  bif ltI a1_1 0 then
    some ⟨[.agg [.int 0, .blob (List.replicate 32 0), .blob (List.replicate 32 0), .int 0], .int 15], [], f23_fresh⟩
  else
    bif leI (a0_1.length : Int) a1_1 then
    some ⟨[.agg [.int 0, .blob (List.replicate 32 0), .blob (List.replicate 32 0), .int 0], .int 15], [], f23_fresh⟩
  else
    bif ltI a1_6 0 then
    some ⟨[.agg [.int 0, .blob (List.replicate 32 0), .blob (List.replicate 32 0), .int 0], .int 15], [], f23_fresh⟩
  else
    bif eqI (a1_2.length : Int) 0 then
    bif ltI 0 a1_6 then
    some ⟨[.agg [.int 0, .blob (List.replicate 32 0), .blob (List.replicate 32 0), .int 0], .int 15], [], f23_fresh⟩
  else
    bif ltI 0 (a1_2.length : Int) then
    bif leI (a1_2.length : Int) a1_6 then
    some ⟨[.agg [.int 0, .blob (List.replicate 32 0), .blob (List.replicate 32 0), .int 0], .int 15], [], f23_fresh⟩
  else
    bif eqI a1_1 0 then
    some ⟨[.agg [.int 0, .blob (List.replicate 32 0), .blob (List.replicate 32 0), .int 0], .int 15], [], f23_fresh⟩
  else
    bif ltI 1024 (a1_2.length : Int) then
    some ⟨[.agg [.int 0, .blob (List.replicate 32 0), .blob (List.replicate 32 0), .int 0], .int 4], [], f23_fresh⟩
  else
    bif ltI 0 (a1_2.length : Int) then
    bif inR a1_6 a1_2.length then
    some ⟨[.agg [.int ((((nth a1_2 (Int.toNat a1_6)).fld 0).fld 0).toInt), .blob ((((nth a1_2 (Int.toNat a1_6)).fld 0).fld 1).toBlob), .blob ((((nth a1_2 (Int.toNat a1_6)).fld 0).fld 2).toBlob), .int ((((nth a1_2 (Int.toNat a1_6)).fld 0).fld 3).toInt)], .int 0], [], f23_fresh⟩
  else none
  else
    bif inR a1_1 a0_1.length then
    some ⟨[.agg [.int ((((nth a0_1 (Int.toNat a1_1)).fld 0).fld 0).toInt), .blob ((((nth a0_1 (Int.toNat a1_1)).fld 0).fld 1).toBlob), .blob ((((nth a0_1 (Int.toNat a1_1)).fld 0).fld 2).toBlob), .int ((((nth a0_1 (Int.toNat a1_1)).fld 0).fld 3).toInt)], .int 0], [], f23_fresh⟩
  else none
  else
    bif ltI 1024 (a1_2.length : Int) then
    some ⟨[.agg [.int 0, .blob (List.replicate 32 0), .blob (List.replicate 32 0), .int 0], .int 4], [], f23_fresh⟩
  else
    bif ltI 0 (a1_2.length : Int) then
    bif inR a1_6 a1_2.length then
    some ⟨[.agg [.int ((((nth a1_2 (Int.toNat a1_6)).fld 0).fld 0).toInt), .blob ((((nth a1_2 (Int.toNat a1_6)).fld 0).fld 1).toBlob), .blob ((((nth a1_2 (Int.toNat a1_6)).fld 0).fld 2).toBlob), .int ((((nth a1_2 (Int.toNat a1_6)).fld 0).fld 3).toInt)], .int 0], [], f23_fresh⟩
  else none
  else
    bif inR a1_1 a0_1.length then
    some ⟨[.agg [.int ((((nth a0_1 (Int.toNat a1_1)).fld 0).fld 0).toInt), .blob ((((nth a0_1 (Int.toNat a1_1)).fld 0).fld 1).toBlob), .blob ((((nth a0_1 (Int.toNat a1_1)).fld 0).fld 2).toBlob), .int ((((nth a0_1 (Int.toNat a1_1)).fld 0).fld 3).toInt)], .int 0], [], f23_fresh⟩
  else none
  else
    bif ltI 0 (a1_2.length : Int) then
    bif leI (a1_2.length : Int) a1_6 then
    some ⟨[.agg [.int 0, .blob (List.replicate 32 0), .blob (List.replicate 32 0), .int 0], .int 15], [], f23_fresh⟩
  else
    bif eqI a1_1 0 then
    some ⟨[.agg [.int 0, .blob (List.replicate 32 0), .blob (List.replicate 32 0), .int 0], .int 15], [], f23_fresh⟩
  else
    bif ltI 1024 (a1_2.length : Int) then
    some ⟨[.agg [.int 0, .blob (List.replicate 32 0), .blob (List.replicate 32 0), .int 0], .int 4], [], f23_fresh⟩
  else
    bif ltI 0 (a1_2.length : Int) then
    bif inR a1_6 a1_2.length then
    some ⟨[.agg [.int ((((nth a1_2 (Int.toNat a1_6)).fld 0).fld 0).toInt), .blob ((((nth a1_2 (Int.toNat a1_6)).fld 0).fld 1).toBlob), .blob ((((nth a1_2 (Int.toNat a1_6)).fld 0).fld 2).toBlob), .int ((((nth a1_2 (Int.toNat a1_6)).fld 0).fld 3).toInt)], .int 0], [], f23_fresh⟩
  else none
  else
    bif inR a1_1 a0_1.length then
    some ⟨[.agg [.int ((((nth a0_1 (Int.toNat a1_1)).fld 0).fld 0).toInt), .blob ((((nth a0_1 (Int.toNat a1_1)).fld 0).fld 1).toBlob), .blob ((((nth a0_1 (Int.toNat a1_1)).fld 0).fld 2).toBlob), .int ((((nth a0_1 (Int.toNat a1_1)).fld 0).fld 3).toInt)], .int 0], [], f23_fresh⟩
  else none
  else
    bif ltI 1024 (a1_2.length : Int) then
    some ⟨[.agg [.int 0, .blob (List.replicate 32 0), .blob (List.replicate 32 0), .int 0], .int 4], [], f23_fresh⟩
  else
    bif ltI 0 (a1_2.length : Int) then
    bif inR a1_6 a1_2.length then
    some ⟨[.agg [.int ((((nth a1_2 (Int.toNat a1_6)).fld 0).fld 0).toInt), .blob ((((nth a1_2 (Int.toNat a1_6)).fld 0).fld 1).toBlob), .blob ((((nth a1_2 (Int.toNat a1_6)).fld 0).fld 2).toBlob), .int ((((nth a1_2 (Int.toNat a1_6)).fld 0).fld 3).toInt)], .int 0], [], f23_fresh⟩
  else none
  else
    bif inR a1_1 a0_1.length then
    some ⟨[.agg [.int ((((nth a0_1 (Int.toNat a1_1)).fld 0).fld 0).toInt), .blob ((((nth a0_1 (Int.toNat a1_1)).fld 0).fld 1).toBlob), .blob ((((nth a0_1 (Int.toNat a1_1)).fld 0).fld 2).toBlob), .int ((((nth a0_1 (Int.toNat a1_1)).fld 0).fld 3).toInt)], .int 0], [], f23_fresh⟩
  else none := by kernel_rfl
theorem f23_run (ext : Run) (n : Nat) (a0_1 : List AV) (a1_1 : Int) (a1_2 : List AV) (a1_3 : Int) (a1_4 : Int) (a1_5 : List AV) (a1_6 : Int) (a1_7 : List UInt8) (a1_8 : Int) (a1_9 : Int) (a1_10 : List AV) : runE G ext (n + 1) 23 [.slice a0_1, .agg [.int a1_1, .slice a1_2, .agg [.int a1_3, .int a1_4, .slice a1_5], .int a1_6, .str a1_7, .agg [.int a1_8, .int a1_9, .slice a1_10]]] = f23 (runE G ext n) n a0_1 a1_1 a1_2 a1_3 a1_4 a1_5 a1_6 a1_7 a1_8 a1_9 a1_10 := runE_succ f23_at f23_in

noncomputable def f53 (run : Run) (n : Nat) (a0_1 : List UInt8) (a1_1 : List UInt8) (a2_1 : Int) (a2_2 : Int) (a2_3 : List AV) : Option Res := evalK G run n f53_info.keep 0 f53_info.body (retE G f53_info) (f53_info.start [.blob a0_1, .str a1_1, .agg [.int a2_1, .int a2_2, .slice a2_3]])
theorem f53_eq (run : Run) (n : Nat) (a0_1 : List UInt8) (a1_1 : List UInt8) (a2_1 : Int) (a2_2 : Int) (a2_3 : List AV) : f53 run n a0_1 a1_1 a2_1 a2_2 a2_3 =
  bif leI a2_2 1024 then
    bif leI (a1_1.length : Int) 4096 then
    bif Nat.ble (1 + a1_1.length) maxLen then
    (run 85 [.blob a0_1, .str ([84] ++ a1_1), .agg [.int a2_1, .int a2_2, .slice a2_3]]).bind fun r1 =>
    nilV r1.outs (consV r1.vals fun v1 vs1 =>
    nilV vs1 (some ⟨[.bool v1.toBool], [], f53_fresh⟩))
  else none
  else
    some ⟨[.bool false], [], f53_fresh⟩
  else
    some ⟨[.bool false], [], f53_fresh⟩ := by kernel_rfl
theorem f53_run (ext : Run) (n : Nat) (a0_1 : List UInt8) (a1_1 : List UInt8) (a2_1 : Int) (a2_2 : Int) (a2_3 : List AV) : runE G ext (n + 1) 53 [.blob a0_1, .str a1_1, .agg [.int a2_1, .int a2_2, .slice a2_3]] = f53 (runE G ext n) n a0_1 a1_1 a2_1 a2_2 a2_3 := runE_succ f53_at f53_in

noncomputable def f25_l0 (run : Run) (n : Nat) (k0 : Nat) (x1_1 : List AV) (x9_1 : Int) (o3_1 : List UInt8) (o5_1 : Int) (o5_2 : List AV) (o5_3 : Int) (o5_4 : Int) (o5_5 : List AV) (o5_6 : Int) (o5_7 : List UInt8) (o5_8 : Int) (o5_9 : Int) (o5_10 : List AV) (o7_1 : Int) (o7_2 : List UInt8) (o7_3 : List UInt8) (o7_4 : Int) : Option Res :=
  iterK (evalK G run n f25_keep 0 (sub [1, 1, 1, 1, 0, 1, 0, 0] f25_body)) f25_t0 f25_o0 (blockK 0 (seqK (evalK G run n f25_keep 0 (sub [1, 1, 1, 1, 1] f25_body) (retE G f25_info)) (retE G f25_info))) k0
    ⟨[.any, .val (.slice (.struct [(.struct [(.int .u32), (.blob 32), (.blob 32), (.int .u64)]), (.struct [(.int .i64), (.int .i64), (.slice (.blob 32))])])) none (.slice x1_1), .any, .ptr ⟨(.blob 32), 3, 1, []⟩, .any, .ptr ⟨(.struct [(.int .i64), (.slice (.struct [(.struct [(.int .u32), (.blob 32), (.blob 32), (.int .u64)]), (.struct [(.int .i64), (.int .i64), (.slice (.blob 32))])])), (.struct [(.int .i64), (.int .i64), (.slice (.blob 32))]), (.int .i64), .str, (.struct [(.int .i64), (.int .i64), (.slice (.blob 32))])]), 5, 1, []⟩, .any, .ptr ⟨(.struct [(.int .u32), (.blob 32), (.blob 32), (.int .u64)]), 7, 1, []⟩, .any, .val (.int .i64) none (.int x9_1), .any, .any, .any, .any, .any, .any, .any, .any, .any, .any, .any, .any, .any, .any, .any, .any, .any, .any, .any, .any, .any, .any, .any, .any, .any, .any, .any, .any, .any, .any, .any, .any, .any, .any, .any, .any, .any, .any, .any, .any, .any, .any, .any, .any, .any, .any, .any, .any, .any, .any, .any, .any, .any, .any, .any, .any, .any, .any, .any, .any, .any, .any, .any, .any, .any, .any, .any, .any, .any, .any, .any, .any, .any, .any, .any, .any, .any, .any, .any, .any, .any, .any, .any, .any, .any, .any, .any, .any, .any, .any, .any, .any, .any, .any, .any, .any, .any, .any, .any, .any, .any, .any, .any, .any, .any, .any, .any, .any, .any, .any, .any, .any, .any, .any, .any, .any, .any, .any, .any, .any, .any, .any, .any, .any, .any], [⟨0, none⟩, ⟨0, none⟩, ⟨0, none⟩, ⟨1, some ⟨(.blob 32), .blob o3_1⟩⟩, ⟨0, none⟩, ⟨1, some ⟨(.struct [(.int .i64), (.slice (.struct [(.struct [(.int .u32), (.blob 32), (.blob 32), (.int .u64)]), (.struct [(.int .i64), (.int .i64), (.slice (.blob 32))])])), (.struct [(.int .i64), (.int .i64), (.slice (.blob 32))]), (.int .i64), .str, (.struct [(.int .i64), (.int .i64), (.slice (.blob 32))])]), .agg [.int o5_1, .slice o5_2, .agg [.int o5_3, .int o5_4, .slice o5_5], .int o5_6, .str o5_7, .agg [.int o5_8, .int o5_9, .slice o5_10]]⟩⟩, ⟨0, none⟩, ⟨1, some ⟨(.struct [(.int .u32), (.blob 32), (.blob 32), (.int .u64)]), .agg [.int o7_1, .blob o7_2, .blob o7_3, .int o7_4]⟩⟩, ⟨0, none⟩, ⟨0, none⟩, ⟨0, none⟩, ⟨0, none⟩, ⟨0, none⟩, ⟨0, none⟩, ⟨0, none⟩, ⟨0, none⟩, ⟨0, none⟩, ⟨0, none⟩, ⟨0, none⟩, ⟨0, none⟩, ⟨0, none⟩, ⟨0, none⟩, ⟨0, none⟩, ⟨0, none⟩, ⟨0, none⟩, ⟨0, none⟩, ⟨0, none⟩, ⟨0, none⟩, ⟨0, none⟩, ⟨0, none⟩, ⟨0, none⟩, ⟨0, none⟩, ⟨0, none⟩, ⟨0, none⟩, ⟨0, none⟩, ⟨0, none⟩, ⟨0, none⟩, ⟨0, none⟩, ⟨0, none⟩, ⟨0, none⟩, ⟨0, none⟩, ⟨0, none⟩, ⟨0, none⟩, ⟨0, none⟩, ⟨0, none⟩, ⟨0, none⟩, ⟨0, none⟩, ⟨0, none⟩, ⟨0, none⟩, ⟨0, none⟩, ⟨0, none⟩, ⟨0, none⟩, ⟨0, none⟩, ⟨0, none⟩, ⟨0, none⟩, ⟨0, none⟩, ⟨0, none⟩, ⟨0, none⟩, ⟨0, none⟩, ⟨0, none⟩, ⟨0, none⟩, ⟨0, none⟩, ⟨0, none⟩, ⟨0, none⟩, ⟨0, none⟩, ⟨0, none⟩, ⟨0, none⟩, ⟨0, none⟩, ⟨0, none⟩, ⟨0, none⟩, ⟨0, none⟩, ⟨0, none⟩, ⟨0, none⟩, ⟨0, none⟩, ⟨0, none⟩, ⟨0, none⟩, ⟨0, none⟩, ⟨0, none⟩, ⟨0, none⟩, ⟨0, none⟩, ⟨0, none⟩, ⟨0, none⟩, ⟨0, none⟩, ⟨0, none⟩, ⟨0, none⟩, ⟨0, none⟩, ⟨0, none⟩, ⟨0, none⟩, ⟨0, none⟩, ⟨0, none⟩, ⟨0, none⟩, ⟨0, none⟩, ⟨0, none⟩, ⟨0, none⟩, ⟨0, none⟩, ⟨0, none⟩, ⟨0, none⟩, ⟨0, none⟩, ⟨0, none⟩, ⟨0, none⟩, ⟨0, none⟩, ⟨0, none⟩, ⟨0, none⟩, ⟨0, none⟩, ⟨0, none⟩, ⟨0, none⟩, ⟨0, none⟩, ⟨0, none⟩, ⟨0, none⟩, ⟨0, none⟩, ⟨0, none⟩, ⟨0, none⟩, ⟨0, none⟩, ⟨0, none⟩, ⟨0, none⟩, ⟨0, none⟩, ⟨0, none⟩, ⟨0, none⟩, ⟨0, none⟩, ⟨0, none⟩, ⟨0, none⟩, ⟨0, none⟩, ⟨0, none⟩, ⟨0, none⟩, ⟨0, none⟩, ⟨0, none⟩, ⟨0, none⟩, ⟨0, none⟩, ⟨0, none⟩, ⟨0, none⟩, ⟨0, none⟩, ⟨0, none⟩, ⟨0, none⟩, ⟨0, none⟩, ⟨0, none⟩], List.replicate 135 0⟩
theorem f25_l0_eq (run : Run) (n : Nat) (k0 : Nat) (x1_1 : List AV) (x9_1 : Int) (o3_1 : List UInt8) (o5_1 : Int) (o5_2 : List AV) (o5_3 : Int) (o5_4 : Int) (o5_5 : List AV) (o5_6 : Int) (o5_7 : List UInt8) (o5_8 : Int) (o5_9 : Int) (o5_10 : List AV) (o7_1 : Int) (o7_2 : List UInt8) (o7_3 : List UInt8) (o7_4 : Int) : f25_l0 run n (k0 + 1) x1_1 x9_1 o3_1 o5_1 o5_2 o5_3 o5_4 o5_5 o5_6 o5_7 o5_8 o5_9 o5_10 o7_1 o7_2 o7_3 o7_4 =
  bif ltI x9_1 (o5_2.length : Int) then
    bif inR x9_1 o5_2.length then
    bif inR (IntKind.wrap .i64 (o5_1 - 1)) x1_1.length then
    bif ltI 0 x9_1 then
    bif inR (IntKind.wrap .i64 (x9_1 - 1)) o5_2.length then
    bif leI ((((nth o5_2 (Int.toNat x9_1)).fld 0).fld 0).toInt) ((((nth o5_2 (Int.toNat (IntKind.wrap .i64 (x9_1 - 1)))).fld 0).fld 0).toInt) then
    some ⟨[.int 8], [], f25_fresh⟩
  else
    bif inR o5_1 x1_1.length then
    bif leI ((((nth x1_1 (Int.toNat o5_1)).fld 0).fld 0).toInt) ((((nth o5_2 (Int.toNat x9_1)).fld 0).fld 0).toInt) then
    some ⟨[.int 8], [], f25_fresh⟩
  else
    (run 39 [.agg [.int ((((nth o5_2 (Int.toNat x9_1)).fld 0).fld 0).toInt), .blob ((((nth o5_2 (Int.toNat x9_1)).fld 0).fld 1).toBlob), .blob ((((nth o5_2 (Int.toNat x9_1)).fld 0).fld 2).toBlob), .int ((((nth o5_2 (Int.toNat x9_1)).fld 0).fld 3).toInt)]]).bind fun r2 =>
    nilV r2.outs (consV r2.vals fun v3 vs3 =>
    nilV vs3 ((run 38 [.blob v3.toBlob, .blob o3_1]).bind fun r3 =>
    nilV r3.outs (consV r3.vals fun v4 vs4 =>
    nilV vs4 (bif !v4.toBool then
    some ⟨[.int 9], [], f25_fresh⟩
  else
    (run 40 [.agg [.agg [.int ((((nth o5_2 (Int.toNat x9_1)).fld 0).fld 0).toInt), .blob ((((nth o5_2 (Int.toNat x9_1)).fld 0).fld 1).toBlob), .blob ((((nth o5_2 (Int.toNat x9_1)).fld 0).fld 2).toBlob), .int ((((nth o5_2 (Int.toNat x9_1)).fld 0).fld 3).toInt)], .agg [.int ((((nth o5_2 (Int.toNat x9_1)).fld 1).fld 0).toInt), .int ((((nth o5_2 (Int.toNat x9_1)).fld 1).fld 1).toInt), .slice ((((nth o5_2 (Int.toNat x9_1)).fld 1).fld 2).toSlice)]], .agg [.int ((((nth o5_2 (Int.toNat (IntKind.wrap .i64 (x9_1 - 1)))).fld 0).fld 0).toInt), .blob ((((nth o5_2 (Int.toNat (IntKind.wrap .i64 (x9_1 - 1)))).fld 0).fld 1).toBlob), .blob ((((nth o5_2 (Int.toNat (IntKind.wrap .i64 (x9_1 - 1)))).fld 0).fld 2).toBlob), .int ((((nth o5_2 (Int.toNat (IntKind.wrap .i64 (x9_1 - 1)))).fld 0).fld 3).toInt)]]).bind fun r4 =>
    nilV r4.outs (consV r4.vals fun v5 vs5 =>
    nilV vs5 (bif !v5.toBool then
    some ⟨[.int 10], [], f25_fresh⟩
  else
    f25_l0 run n k0 x1_1 (IntKind.wrap .i64 (x9_1 + 1)) o3_1 o5_1 o5_2 o5_3 o5_4 o5_5 o5_6 o5_7 o5_8 o5_9 o5_10 o7_1 o7_2 o7_3 o7_4))))))
  else none
  else none
  else
    bif leI ((((nth o5_2 (Int.toNat x9_1)).fld 0).fld 0).toInt) ((((nth x1_1 (Int.toNat (IntKind.wrap .i64 (o5_1 - 1)))).fld 0).fld 0).toInt) then
    some ⟨[.int 8], [], f25_fresh⟩
  else
    bif inR o5_1 x1_1.length then
    bif leI ((((nth x1_1 (Int.toNat o5_1)).fld 0).fld 0).toInt) ((((nth o5_2 (Int.toNat x9_1)).fld 0).fld 0).toInt) then
    some ⟨[.int 8], [], f25_fresh⟩
  else
    (run 39 [.agg [.int ((((nth o5_2 (Int.toNat x9_1)).fld 0).fld 0).toInt), .blob ((((nth o5_2 (Int.toNat x9_1)).fld 0).fld 1).toBlob), .blob ((((nth o5_2 (Int.toNat x9_1)).fld 0).fld 2).toBlob), .int ((((nth o5_2 (Int.toNat x9_1)).fld 0).fld 3).toInt)]]).bind fun r5 =>
    nilV r5.outs (consV r5.vals fun v6 vs6 =>
    nilV vs6 ((run 38 [.blob v6.toBlob, .blob o3_1]).bind fun r6 =>
    nilV r6.outs (consV r6.vals fun v7 vs7 =>
    nilV vs7 (bif !v7.toBool then
    some ⟨[.int 9], [], f25_fresh⟩
  else
    (run 40 [.agg [.agg [.int ((((nth o5_2 (Int.toNat x9_1)).fld 0).fld 0).toInt), .blob ((((nth o5_2 (Int.toNat x9_1)).fld 0).fld 1).toBlob), .blob ((((nth o5_2 (Int.toNat x9_1)).fld 0).fld 2).toBlob), .int ((((nth o5_2 (Int.toNat x9_1)).fld 0).fld 3).toInt)], .agg [.int ((((nth o5_2 (Int.toNat x9_1)).fld 1).fld 0).toInt), .int ((((nth o5_2 (Int.toNat x9_1)).fld 1).fld 1).toInt), .slice ((((nth o5_2 (Int.toNat x9_1)).fld 1).fld 2).toSlice)]], .agg [.int ((((nth x1_1 (Int.toNat (IntKind.wrap .i64 (o5_1 - 1)))).fld 0).fld 0).toInt), .blob ((((nth x1_1 (Int.toNat (IntKind.wrap .i64 (o5_1 - 1)))).fld 0).fld 1).toBlob), .blob ((((nth x1_1 (Int.toNat (IntKind.wrap .i64 (o5_1 - 1)))).fld 0).fld 2).toBlob), .int ((((nth x1_1 (Int.toNat (IntKind.wrap .i64 (o5_1 - 1)))).fld 0).fld 3).toInt)]]).bind fun r7 =>
    nilV r7.outs (consV r7.vals fun v8 vs8 =>
    nilV vs8 (bif !v8.toBool then
    some ⟨[.int 10], [], f25_fresh⟩
  else
    f25_l0 run n k0 x1_1 (IntKind.wrap .i64 (x9_1 + 1)) o3_1 o5_1 o5_2 o5_3 o5_4 o5_5 o5_6 o5_7 o5_8 o5_9 o5_10 o7_1 o7_2 o7_3 o7_4))))))
  else none
  else none
  else none
  else
    bif ltI 0 (o5_2.length : Int) then
    bif inR o5_1 x1_1.length then
    bif inR (IntKind.wrap .i64 ((o5_2.length : Int) - 1)) o5_2.length then
    (run 40 [.agg [.agg [.int ((((nth x1_1 (Int.toNat o5_1)).fld 0).fld 0).toInt), .blob ((((nth x1_1 (Int.toNat o5_1)).fld 0).fld 1).toBlob), .blob ((((nth x1_1 (Int.toNat o5_1)).fld 0).fld 2).toBlob), .int ((((nth x1_1 (Int.toNat o5_1)).fld 0).fld 3).toInt)], .agg [.int o5_3, .int o5_4, .slice o5_5]], .agg [.int ((((nth o5_2 (Int.toNat (IntKind.wrap .i64 ((o5_2.length : Int) - 1)))).fld 0).fld 0).toInt), .blob ((((nth o5_2 (Int.toNat (IntKind.wrap .i64 ((o5_2.length : Int) - 1)))).fld 0).fld 1).toBlob), .blob ((((nth o5_2 (Int.toNat (IntKind.wrap .i64 ((o5_2.length : Int) - 1)))).fld 0).fld 2).toBlob), .int ((((nth o5_2 (Int.toNat (IntKind.wrap .i64 ((o5_2.length : Int) - 1)))).fld 0).fld 3).toInt)]]).bind fun r8 =>
    nilV r8.outs (consV r8.vals fun v9 vs9 =>
    nilV vs9 (bif !v9.toBool then
    some ⟨[.int 10], [], f25_fresh⟩
  else
    (run 53 [.blob o7_3, .str o5_7, .agg [.int o5_8, .int o5_9, .slice o5_10]]).bind fun r9 =>
    nilV r9.outs (consV r9.vals fun v10 vs10 =>
    nilV vs10 (bif !v10.toBool then
    some ⟨[.int 14], [], f25_fresh⟩
  else
    some ⟨[.int 0], [], f25_fresh⟩))))
  else none
  else none
  else
    (run 53 [.blob o7_3, .str o5_7, .agg [.int o5_8, .int o5_9, .slice o5_10]]).bind fun r10 =>
    nilV r10.outs (consV r10.vals fun v11 vs11 =>
    nilV vs11 (bif !v11.toBool then
    some ⟨[.int 14], [], f25_fresh⟩
  else
    some ⟨[.int 0], [], f25_fresh⟩)) := by kernel_rfl
noncomputable def f25 (run : Run) (n : Nat) (a0_1 : List UInt8) (a1_1 : List AV) (a2_1 : Int) (a2_2 : List AV) (a2_3 : Int) (a2_4 : Int) (a2_5 : List AV) (a2_6 : Int) (a2_7 : List UInt8) (a2_8 : Int) (a2_9 : Int) (a2_10 : List AV) : Option Res := evalK G run n f25_info.keep 0 f25_info.body (retE G f25_info) (f25_info.start [.blob a0_1, .slice a1_1, .agg [.int a2_1, .slice a2_2, .agg [.int a2_3, .int a2_4, .slice a2_5], .int a2_6, .str a2_7, .agg [.int a2_8, .int a2_9, .slice a2_10]]])
theorem f25_eq (run : Run) (n : Nat) (a0_1 : List UInt8) (a1_1 : List AV) (a2_1 : Int) (a2_2 : List AV) (a2_3 : Int) (a2_4 : Int) (a2_5 : List AV) (a2_6 : Int) (a2_7 : List UInt8) (a2_8 : Int) (a2_9 : Int) (a2_10 : List AV) : f25 run n a0_1 a1_1 a2_1 a2_2 a2_3 a2_4 a2_5 a2_6 a2_7 a2_8 a2_9 a2_10 =
  (run 23 [.slice a1_1, .agg [.int a2_1, .slice a2_2, .agg [.int a2_3, .int a2_4, .slice a2_5], .int a2_6, .str a2_7, .agg [.int a2_8, .int a2_9, .slice a2_10]]]).bind fun r1 =>
    nilV r1.outs (consV r1.vals fun v1 vs1 =>
    consV vs1 fun v2 vs2 =>
    nilV vs2 (bif !(eqI v2.toInt 0) then
    some ⟨[.int v2.toInt], [], f25_fresh⟩
  else
    bif eqI (a2_2.length : Int) 0 then
    bif !(eqI a2_4 0) then
    some ⟨[.int 2], [], f25_fresh⟩
  else
    bif !(eqI a2_3 0) then
    some ⟨[.int 2], [], f25_fresh⟩
  else
    bif ltI 0 (a2_5.length : Int) then
    some ⟨[.int 2], [], f25_fresh⟩
  else
    f25_l0 run n n a1_1 0 a0_1 a2_1 a2_2 a2_3 a2_4 a2_5 a2_6 a2_7 a2_8 a2_9 a2_10 ((v1.fld 0).toInt) ((v1.fld 1).toBlob) ((v1.fld 2).toBlob) ((v1.fld 3).toInt)
  else
    f25_l0 run n n a1_1 0 a0_1 a2_1 a2_2 a2_3 a2_4 a2_5 a2_6 a2_7 a2_8 a2_9 a2_10 ((v1.fld 0).toInt) ((v1.fld 1).toBlob) ((v1.fld 2).toBlob) ((v1.fld 3).toInt))) := by kernel_rfl
theorem f25_run (ext : Run) (n : Nat) (a0_1 : List UInt8) (a1_1 : List AV) (a2_1 : Int) (a2_2 : List AV) (a2_3 : Int) (a2_4 : Int) (a2_5 : List AV) (a2_6 : Int) (a2_7 : List UInt8) (a2_8 : Int) (a2_9 : Int) (a2_10 : List AV) : runE G ext (n + 1) 25 [.blob a0_1, .slice a1_1, .agg [.int a2_1, .slice a2_2, .agg [.int a2_3, .int a2_4, .slice a2_5], .int a2_6, .str a2_7, .agg [.int a2_8, .int a2_9, .slice a2_10]]] = f25 (runE G ext n) n a0_1 a1_1 a2_1 a2_2 a2_3 a2_4 a2_5 a2_6 a2_7 a2_8 a2_9 a2_10 := runE_succ f25_at f25_in

noncomputable def f5 (run : Run) (n : Nat) (a0_1 : List UInt8) (a1_1 : List AV) (a2_1 : Int) (a2_2 : List AV) (a2_3 : Int) (a2_4 : Int) (a2_5 : List AV) (a2_6 : Int) (a2_7 : List UInt8) (a2_8 : Int) (a2_9 : Int) (a2_10 : List AV) : Option Res := evalK G run n f5_info.keep 0 f5_info.body (retE G f5_info) (f5_info.start [.blob a0_1, .slice a1_1, .agg [.int a2_1, .slice a2_2, .agg [.int a2_3, .int a2_4, .slice a2_5], .int a2_6, .str a2_7, .agg [.int a2_8, .int a2_9, .slice a2_10]]])
theorem f5_eq (run : Run) (n : Nat) (a0_1 : List UInt8) (a1_1 : List AV) (a2_1 : Int) (a2_2 : List AV) (a2_3 : Int) (a2_4 : Int) (a2_5 : List AV) (a2_6 : Int) (a2_7 : List UInt8) (a2_8 : Int) (a2_9 : Int) (a2_10 : List AV) : f5 run n a0_1 a1_1 a2_1 a2_2 a2_3 a2_4 a2_5 a2_6 a2_7 a2_8 a2_9 a2_10 =
  (run 20 [.slice a1_1, .agg [.int a2_1, .slice a2_2, .agg [.int a2_3, .int a2_4, .slice a2_5], .int a2_6, .str a2_7, .agg [.int a2_8, .int a2_9, .slice a2_10]]]).bind fun r1 =>
    nilV r1.outs (consV r1.vals fun v1 vs1 =>
    nilV vs1 (bif v1.toBool then
    (run 21 []).bind fun r2 =>
    nilV r2.outs (consV r2.vals fun v2 vs2 =>
    nilV vs2 (some ⟨[.bool v2.toBool], [], f5_fresh⟩))
  else
    (run 22 [.slice a1_1, .agg [.int a2_1, .slice a2_2, .agg [.int a2_3, .int a2_4, .slice a2_5], .int a2_6, .str a2_7, .agg [.int a2_8, .int a2_9, .slice a2_10]]]).bind fun r3 =>
    nilV r3.outs (consV r3.vals fun v3 vs3 =>
    consV vs3 fun v4 vs4 =>
    nilV vs4 ((run 23 [.slice a1_1, .agg [.int a2_1, .slice a2_2, .agg [.int a2_3, .int a2_4, .slice a2_5], .int a2_6, .str a2_7, .agg [.int a2_8, .int a2_9, .slice a2_10]]]).bind fun r4 =>
    nilV r4.outs (consV r4.vals fun v5 vs5 =>
    consV vs5 fun v6 vs6 =>
    nilV vs6 ((run 24 [.blob a0_1, .slice a1_1, .agg [.int a2_1, .slice a2_2, .agg [.int a2_3, .int a2_4, .slice a2_5], .int a2_6, .str a2_7, .agg [.int a2_8, .int a2_9, .slice a2_10]]]).bind fun r5 =>
    nilV r5.outs (consV r5.vals fun v7 vs7 =>
    nilV vs7 ((run 25 [.blob a0_1, .slice a1_1, .agg [.int a2_1, .slice a2_2, .agg [.int a2_3, .int a2_4, .slice a2_5], .int a2_6, .str a2_7, .agg [.int a2_8, .int a2_9, .slice a2_10]]]).bind fun r6 =>
    nilV r6.outs (consV r6.vals fun v8 vs8 =>
    nilV vs8 (bif eqI v7.toInt v8.toInt then
    bif (eqI ((v3.fld 0).toInt) ((v5.fld 0).toInt) && (eqS ((v3.fld 1).toBlob) ((v5.fld 1).toBlob) && (eqS ((v3.fld 2).toBlob) ((v5.fld 2).toBlob) && (eqI ((v3.fld 3).toInt) ((v5.fld 3).toInt) && true)))) then
    bif eqO v4.toBool (eqI v6.toInt 0) then
    (run 21 []).bind fun r7 =>
    nilV r7.outs (consV r7.vals fun v9 vs9 =>
    nilV vs9 (some ⟨[.bool v9.toBool], [], f5_fresh⟩))
  else
    some ⟨[.bool false], [], f5_fresh⟩
  else
    some ⟨[.bool false], [], f5_fresh⟩
  else
    some ⟨[.bool false], [], f5_fresh⟩)))))))))) := by kernel_rfl
theorem f5_run (ext : Run) (n : Nat) (a0_1 : List UInt8) (a1_1 : List AV) (a2_1 : Int) (a2_2 : List AV) (a2_3 : Int) (a2_4 : Int) (a2_5 : List AV) (a2_6 : Int) (a2_7 : List UInt8) (a2_8 : Int) (a2_9 : Int) (a2_10 : List AV) : runE G ext (n + 1) 5 [.blob a0_1, .slice a1_1, .agg [.int a2_1, .slice a2_2, .agg [.int a2_3, .int a2_4, .slice a2_5], .int a2_6, .str a2_7, .agg [.int a2_8, .int a2_9, .slice a2_10]]] = f5 (runE G ext n) n a0_1 a1_1 a2_1 a2_2 a2_3 a2_4 a2_5 a2_6 a2_7 a2_8 a2_9 a2_10 := runE_succ f5_at f5_in

noncomputable def f56 (run : Run) (n : Nat) (a0_1 : Int) (a0_2 : List UInt8) (a0_3 : List UInt8) (a0_4 : Int) (a0_5 : List UInt8) (a0_6 : Int) (a0_7 : Int) (a0_8 : Int) (a0_9 : Int) (a0_10 : Int) (a0_11 : Int) (a0_12 : Int) (a0_13 : Int) (a0_14 : List UInt8) (a0_15 : List UInt8) (a0_16 : Int) (a0_17 : List AV) (a0_18 : List AV) : Option Res := evalK G run n f56_info.keep 0 f56_info.body (retE G f56_info) (f56_info.start [.agg [.agg [.agg [.int a0_1, .blob a0_2, .blob a0_3, .int a0_4], .blob a0_5, .int a0_6, .int a0_7, .int a0_8, .int a0_9, .int a0_10, .int a0_11], .int a0_12, .agg [.agg [.int a0_13, .blob a0_14, .blob a0_15, .int a0_16], .slice a0_17], .slice a0_18]])
theorem f56_eq (run : Run) (n : Nat) (a0_1 : Int) (a0_2 : List UInt8) (a0_3 : List UInt8) (a0_4 : Int) (a0_5 : List UInt8) (a0_6 : Int) (a0_7 : Int) (a0_8 : Int) (a0_9 : Int) (a0_10 : Int) (a0_11 : Int) (a0_12 : Int) (a0_13 : Int) (a0_14 : List UInt8) (a0_15 : List UInt8) (a0_16 : Int) (a0_17 : List AV) (a0_18 : List AV) : f56 run n a0_1 a0_2 a0_3 a0_4 a0_5 a0_6 a0_7 a0_8 a0_9 a0_10 a0_11 a0_12 a0_13 a0_14 a0_15 a0_16 a0_17 a0_18 =
  (run 87 [.agg [.agg [.int a0_13, .blob a0_14, .blob a0_15, .int a0_16], .slice a0_17]]).bind fun r1 =>
    nilV r1.outs (consV r1.vals fun v1 vs1 =>
    nilV vs1 ((run 64 [.blob v1.toBlob, .blob a0_5]).bind fun r2 =>
    nilV r2.outs (consV r2.vals fun v2 vs2 =>
    nilV vs2 (bif !v2.toBool then
    some ⟨[.int 9], [], f56_fresh⟩
  else
    some ⟨[.int 0], [], f56_fresh⟩)))) := by kernel_rfl
theorem f56_run (ext : Run) (n : Nat) (a0_1 : Int) (a0_2 : List UInt8) (a0_3 : List UInt8) (a0_4 : Int) (a0_5 : List UInt8) (a0_6 : Int) (a0_7 : Int) (a0_8 : Int) (a0_9 : Int) (a0_10 : Int) (a0_11 : Int) (a0_12 : Int) (a0_13 : Int) (a0_14 : List UInt8) (a0_15 : List UInt8) (a0_16 : Int) (a0_17 : List AV) (a0_18 : List AV) : runE G ext (n + 1) 56 [.agg [.agg [.agg [.int a0_1, .blob a0_2, .blob a0_3, .int a0_4], .blob a0_5, .int a0_6, .int a0_7, .int a0_8, .int a0_9, .int a0_10, .int a0_11], .int a0_12, .agg [.agg [.int a0_13, .blob a0_14, .blob a0_15, .int a0_16], .slice a0_17], .slice a0_18]] = f56 (runE G ext n) n a0_1 a0_2 a0_3 a0_4 a0_5 a0_6 a0_7 a0_8 a0_9 a0_10 a0_11 a0_12 a0_13 a0_14 a0_15 a0_16 a0_17 a0_18 := runE_succ f56_at f56_in

noncomputable def f86 (run : Run) (n : Nat) (a0_1 : Int) (a0_2 : List UInt8) (a0_3 : List UInt8) (a0_4 : Int) (a0_5 : List AV) (a1_1 : Int) (a2_1 : List AV) : Option Res := evalK G run n f86_info.keep 0 f86_info.body (retE G f86_info) (f86_info.start [.agg [.agg [.int a0_1, .blob a0_2, .blob a0_3, .int a0_4], .slice a0_5], .int a1_1, .slice a2_1])
theorem f86_eq (run : Run) (n : Nat) (a0_1 : Int) (a0_2 : List UInt8) (a0_3 : List UInt8) (a0_4 : Int) (a0_5 : List AV) (a1_1 : Int) (a2_1 : List AV) : f86 run n a0_1 a0_2 a0_3 a0_4 a0_5 a1_1 a2_1 =
  bif !(eqI a0_1 a1_1) then
    some ⟨[.int 8], [], f86_fresh⟩
  else
    (run 75 [.slice a0_5]).bind fun r1 =>
    nilV r1.outs (consV r1.vals fun v1 vs1 =>
    nilV vs1 (bif !(eqI v1.toInt 0) then
    some ⟨[.int v1.toInt], [], f86_fresh⟩
  else
    (run 76 [.int a1_1, .slice a2_1, .slice a0_5, .int a0_4]).bind fun r2 =>
    nilV r2.outs (consV r2.vals fun v2 vs2 =>
    nilV vs2 (bif !(eqI (((v2.fld 0).fld 0).toInt) a0_1 && (eqS (((v2.fld 0).fld 1).toBlob) a0_2 && (eqS (((v2.fld 0).fld 2).toBlob) a0_3 && (eqI (((v2.fld 0).fld 3).toInt) a0_4 && true)))) then
    some ⟨[.int 12], [], f86_fresh⟩
  else
    some ⟨[.int 0], [], f86_fresh⟩)))) := by kernel_rfl
theorem f86_run (ext : Run) (n : Nat) (a0_1 : Int) (a0_2 : List UInt8) (a0_3 : List UInt8) (a0_4 : Int) (a0_5 : List AV) (a1_1 : Int) (a2_1 : List AV) : runE G ext (n + 1) 86 [.agg [.agg [.int a0_1, .blob a0_2, .blob a0_3, .int a0_4], .slice a0_5], .int a1_1, .slice a2_1] = f86 (runE G ext n) n a0_1 a0_2 a0_3 a0_4 a0_5 a1_1 a2_1 := runE_succ f86_at f86_in

noncomputable def f55 (run : Run) (n : Nat) (a0_1 : Int) (a0_2 : List UInt8) (a0_3 : List UInt8) (a0_4 : Int) (a0_5 : List UInt8) (a0_6 : Int) (a0_7 : Int) (a0_8 : Int) (a0_9 : Int) (a0_10 : Int) (a0_11 : Int) (a0_12 : Int) (a0_13 : Int) (a0_14 : List UInt8) (a0_15 : List UInt8) (a0_16 : Int) (a0_17 : List AV) (a0_18 : List AV) : Option Res := evalK G run n f55_info.keep 0 f55_info.body (retE G f55_info) (f55_info.start [.agg [.agg [.agg [.int a0_1, .blob a0_2, .blob a0_3, .int a0_4], .blob a0_5, .int a0_6, .int a0_7, .int a0_8, .int a0_9, .int a0_10, .int a0_11], .int a0_12, .agg [.agg [.int a0_13, .blob a0_14, .blob a0_15, .int a0_16], .slice a0_17], .slice a0_18]])
theorem f55_eq (run : Run) (n : Nat) (a0_1 : Int) (a0_2 : List UInt8) (a0_3 : List UInt8) (a0_4 : Int) (a0_5 : List UInt8) (a0_6 : Int) (a0_7 : Int) (a0_8 : Int) (a0_9 : Int) (a0_10 : Int) (a0_11 : Int) (a0_12 : Int) (a0_13 : Int) (a0_14 : List UInt8) (a0_15 : List UInt8) (a0_16 : Int) (a0_17 : List AV) (a0_18 : List AV) : f55 run n a0_1 a0_2 a0_3 a0_4 a0_5 a0_6 a0_7 a0_8 a0_9 a0_10 a0_11 a0_12 a0_13 a0_14 a0_15 a0_16 a0_17 a0_18 =
  (run 86 [.agg [.agg [.int a0_13, .blob a0_14, .blob a0_15, .int a0_16], .slice a0_17], .int (IntKind.wrap .u32 a0_12), .slice a0_18]).bind fun r1 =>
    nilV r1.outs (consV r1.vals fun v1 vs1 =>
    nilV vs1 (some ⟨[.int v1.toInt], [], f55_fresh⟩)) := by kernel_rfl
theorem f55_run (ext : Run) (n : Nat) (a0_1 : Int) (a0_2 : List UInt8) (a0_3 : List UInt8) (a0_4 : Int) (a0_5 : List UInt8) (a0_6 : Int) (a0_7 : Int) (a0_8 : Int) (a0_9 : Int) (a0_10 : Int) (a0_11 : Int) (a0_12 : Int) (a0_13 : Int) (a0_14 : List UInt8) (a0_15 : List UInt8) (a0_16 : Int) (a0_17 : List AV) (a0_18 : List AV) : runE G ext (n + 1) 55 [.agg [.agg [.agg [.int a0_1, .blob a0_2, .blob a0_3, .int a0_4], .blob a0_5, .int a0_6, .int a0_7, .int a0_8, .int a0_9, .int a0_10, .int a0_11], .int a0_12, .agg [.agg [.int a0_13, .blob a0_14, .blob a0_15, .int a0_16], .slice a0_17], .slice a0_18]] = f55 (runE G ext n) n a0_1 a0_2 a0_3 a0_4 a0_5 a0_6 a0_7 a0_8 a0_9 a0_10 a0_11 a0_12 a0_13 a0_14 a0_15 a0_16 a0_17 a0_18 := runE_succ f55_at f55_in

noncomputable def f54 (run : Run) (n : Nat) (a0_1 : Int) (a0_2 : List UInt8) (a0_3 : List UInt8) (a0_4 : Int) (a0_5 : List UInt8) (a0_6 : Int) (a0_7 : Int) (a0_8 : Int) (a0_9 : Int) (a0_10 : Int) (a0_11 : Int) (a0_12 : Int) (a0_13 : Int) (a0_14 : List UInt8) (a0_15 : List UInt8) (a0_16 : Int) (a0_17 : List AV) (a0_18 : List AV) : Option Res := evalK G run n f54_info.keep 0 f54_info.body (retE G f54_info) (f54_info.start [.agg [.agg [.agg [.int a0_1, .blob a0_2, .blob a0_3, .int a0_4], .blob a0_5, .int a0_6, .int a0_7, .int a0_8, .int a0_9, .int a0_10, .int a0_11], .int a0_12, .agg [.agg [.int a0_13, .blob a0_14, .blob a0_15, .int a0_16], .slice a0_17], .slice a0_18]])
theorem f54_eq (run : Run) (n : Nat) (a0_1 : Int) (a0_2 : List UInt8) (a0_3 : List UInt8) (a0_4 : Int) (a0_5 : List UInt8) (a0_6 : Int) (a0_7 : Int) (a0_8 : Int) (a0_9 : Int) (a0_10 : Int) (a0_11 : Int) (a0_12 : Int) (a0_13 : Int) (a0_14 : List UInt8) (a0_15 : List UInt8) (a0_16 : Int) (a0_17 : List AV) (a0_18 : List AV) : f54 run n a0_1 a0_2 a0_3 a0_4 a0_5 a0_6 a0_7 a0_8 a0_9 a0_10 a0_11 a0_12 a0_13 a0_14 a0_15 a0_16 a0_17 a0_18 =
  bif eqI a0_12 0 then
    bif !(eqI a0_13 a0_1 && (eqS a0_14 a0_2 && (eqS a0_15 a0_3 && (eqI a0_16 a0_4 && true)))) then
    some ⟨[.int 7], [], f54_fresh⟩
  else
    some ⟨[.int 0], [], f54_fresh⟩
  else
    some ⟨[.int 0], [], f54_fresh⟩ := by kernel_rfl
theorem f54_run (ext : Run) (n : Nat) (a0_1 : Int) (a0_2 : List UInt8) (a0_3 : List UInt8) (a0_4 : Int) (a0_5 : List UInt8) (a0_6 : Int) (a0_7 : Int) (a0_8 : Int) (a0_9 : Int) (a0_10 : Int) (a0_11 : Int) (a0_12 : Int) (a0_13 : Int) (a0_14 : List UInt8) (a0_15 : List UInt8) (a0_16 : Int) (a0_17 : List AV) (a0_18 : List AV) : runE G ext (n + 1) 54 [.agg [.agg [.agg [.int a0_1, .blob a0_2, .blob a0_3, .int a0_4], .blob a0_5, .int a0_6, .int a0_7, .int a0_8, .int a0_9, .int a0_10, .int a0_11], .int a0_12, .agg [.agg [.int a0_13, .blob a0_14, .blob a0_15, .int a0_16], .slice a0_17], .slice a0_18]] = f54 (runE G ext n) n a0_1 a0_2 a0_3 a0_4 a0_5 a0_6 a0_7 a0_8 a0_9 a0_10 a0_11 a0_12 a0_13 a0_14 a0_15 a0_16 a0_17 a0_18 := runE_succ f54_at f54_in

end Go.Proofs.YtddcooedbibehaaGreat.Ev
