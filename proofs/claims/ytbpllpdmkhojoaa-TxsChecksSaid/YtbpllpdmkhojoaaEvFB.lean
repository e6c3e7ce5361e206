/- What the evaluator does with the functions, as programs over plain values: printed by gen.py, checked by the kernel. -/
import Derived.Test.YtbpllpdmkhojoaaEvFA
namespace Go.Proofs.Ytbpllpdmkhojoaa.Ev
open Go Go.RowKit
set_option maxRecDepth 100000


noncomputable def f112 (run : Run) (n : Nat) (a0_1 : Int) : Option Res := evalK G run n f112_info.keep 0 f112_info.body (retE G f112_info) (f112_info.start [.int a0_1])
theorem f112_eq (run : Run) (n : Nat) (a0_1 : Int) : f112 run n a0_1 =
  some ⟨[.str (bytesOf [.int (IntKind.wrap .u8 a0_1)])], [], f112_fresh⟩ := by kernel_rfl
theorem f112_run (ext : Run) (n : Nat) (a0_1 : Int) : runE G ext (n + 1) 112 [.int a0_1] = f112 (runE G ext n) n a0_1 := runE_succ f112_at f112_in

noncomputable def f104 (run : Run) (n : Nat) (a0_1 : List UInt8) : Option Res := evalK G run n f104_info.keep 0 f104_info.body (retE G f104_info) (f104_info.start [.str a0_1])
theorem f104_eq (run : Run) (n : Nat) (a0_1 : List UInt8) : f104 run n a0_1 =
  (run 112 [.int 0]).bind fun r1 =>
    nilV r1.outs (consV r1.vals fun v1 vs1 =>
    nilV vs1 (bif Nat.ble (v1.toStr.length + a0_1.length) maxLen then
    some ⟨[.str (v1.toStr ++ a0_1)], [], f104_fresh⟩
  else none)) := by kernel_rfl
theorem f104_run (ext : Run) (n : Nat) (a0_1 : List UInt8) : runE G ext (n + 1) 104 [.str a0_1] = f104 (runE G ext n) n a0_1 := runE_succ f104_at f104_in

noncomputable def f108 (run : Run) (n : Nat) : Option Res := evalK G run n f108_info.keep 0 f108_info.body (retE G f108_info) (f108_info.start [])
theorem f108_eq (run : Run) (n : Nat) : f108 run n  =
  some ⟨[.agg [.int 1779033703, .int 3144134277, .int 1013904242, .int 2773480762, .int 1359893119, .int 2600822924, .int 528734635, .int 1541459225]], [], f108_fresh⟩ := by kernel_rfl
theorem f108_run (ext : Run) (n : Nat) : runE G ext (n + 1) 108 [] = f108 (runE G ext n) n  := runE_succ f108_at f108_in

noncomputable def f111_l0 (run : Run) (n : Nat) (k0 : Nat) (x0_1 : Int) (x1_1 : Int) (x5_1 : List UInt8) (x6_1 : Int) : Option Res :=
  iterK (evalK G run n f111_keep 0 (sub [1, 1, 0, 1, 0, 0] f111_body)) f111_t0 f111_o0 (blockK 0 (seqK (evalK G run n f111_keep 0 (sub [1, 1, 1] f111_body) (retE G f111_info)) (retE G f111_info))) k0
    ⟨[.val (.int .u64) none (.int x0_1), .val (.int .i64) none (.int x1_1), .any, .any, .any, .val .str none (.str x5_1), .val (.int .i64) none (.int x6_1), .any, .any, .any, .any, .any, .any, .any, .any, .any, .any, .any, .any, .any, .any], [⟨0, none⟩, ⟨0, none⟩, ⟨0, none⟩, ⟨0, none⟩, ⟨0, none⟩, ⟨0, none⟩, ⟨0, none⟩, ⟨0, none⟩, ⟨0, none⟩, ⟨0, none⟩, ⟨0, none⟩, ⟨0, none⟩, ⟨0, none⟩, ⟨0, none⟩, ⟨0, none⟩, ⟨0, none⟩, ⟨0, none⟩, ⟨0, none⟩, ⟨0, none⟩, ⟨0, none⟩, ⟨0, none⟩], List.replicate 21 0⟩
theorem f111_l0_eq (run : Run) (n : Nat) (k0 : Nat) (x0_1 : Int) (x1_1 : Int) (x5_1 : List UInt8) (x6_1 : Int) : f111_l0 run n (k0 + 1) x0_1 x1_1 x5_1 x6_1 =
  bif ltI x6_1 x1_1 then
    (run 112 [.int (IntKind.wrap .i64 (Int.tmod x0_1 256))]).bind fun r1 =>
    nilV r1.outs (consV r1.vals fun v1 vs1 =>
    nilV vs1 (bif Nat.ble (v1.toStr.length + x5_1.length) maxLen then
    f111_l0 run n k0 (IntKind.wrap .u64 (Int.tdiv x0_1 256)) x1_1 (v1.toStr ++ x5_1) (IntKind.wrap .i64 (x6_1 + 1))
  else none))
  else
    some ⟨[.str x5_1], [], f111_fresh⟩ := by kernel_rfl
noncomputable def f111 (run : Run) (n : Nat) (a0_1 : Int) (a1_1 : Int) : Option Res := evalK G run n f111_info.keep 0 f111_info.body (retE G f111_info) (f111_info.start [.int a0_1, .int a1_1])
theorem f111_eq (run : Run) (n : Nat) (a0_1 : Int) (a1_1 : Int) : f111 run n a0_1 a1_1 =
  f111_l0 run n n a0_1 a1_1 [] 0 := by kernel_rfl
theorem f111_run (ext : Run) (n : Nat) (a0_1 : Int) (a1_1 : Int) : runE G ext (n + 1) 111 [.int a0_1, .int a1_1] = f111 (runE G ext n) n a0_1 a1_1 := runE_succ f111_at f111_in

noncomputable def f109_l0 (run : Run) (n : Nat) (k0 : Nat) (x0_1 : Int) (x3_1 : List UInt8) : Option Res :=
  iterK (evalK G run n f109_keep 0 (sub [1, 1, 0, 0, 0] f109_body)) f109_t0 f109_o0 (blockK 0 (seqK (evalK G run n f109_keep 0 (sub [1, 1, 1] f109_body) (retE G f109_info)) (retE G f109_info))) k0
    ⟨[.val (.int .u64) none (.int x0_1), .any, .any, .val .str none (.str x3_1), .any, .any, .any, .any, .any, .any, .any, .any, .any, .any, .any, .any, .any, .any, .any, .any, .any, .any], [⟨0, none⟩, ⟨0, none⟩, ⟨0, none⟩, ⟨0, none⟩, ⟨0, none⟩, ⟨0, none⟩, ⟨0, none⟩, ⟨0, none⟩, ⟨0, none⟩, ⟨0, none⟩, ⟨0, none⟩, ⟨0, none⟩, ⟨0, none⟩, ⟨0, none⟩, ⟨0, none⟩, ⟨0, none⟩, ⟨0, none⟩, ⟨0, none⟩, ⟨0, none⟩, ⟨0, none⟩, ⟨0, none⟩, ⟨0, none⟩], List.replicate 22 0⟩
theorem f109_l0_eq (run : Run) (n : Nat) (k0 : Nat) (x0_1 : Int) (x3_1 : List UInt8) : f109_l0 run n (k0 + 1) x0_1 x3_1 =
  bif !(eqI (Int.tmod (IntKind.wrap .u64 (IntKind.wrap .u64 (Int.tmod x0_1 64 + IntKind.wrap .u64 (x3_1.length : Int)) + 8)) 64) 0) then
    (run 112 [.int 0]).bind fun r2 =>
    nilV r2.outs (consV r2.vals fun v2 vs2 =>
    nilV vs2 (bif Nat.ble (x3_1.length + v2.toStr.length) maxLen then
    f109_l0 run n k0 x0_1 (x3_1 ++ v2.toStr)
  else none))
  else
    (run 111 [.int (IntKind.wrap .u64 (x0_1 * 8)), .int 8]).bind fun r3 =>
    nilV r3.outs (consV r3.vals fun v3 vs3 =>
    nilV vs3 (bif Nat.ble (x3_1.length + v3.toStr.length) maxLen then
    some ⟨[.str (x3_1 ++ v3.toStr)], [], f109_fresh⟩
  else none)) := by kernel_rfl
noncomputable def f109 (run : Run) (n : Nat) (a0_1 : Int) : Option Res := evalK G run n f109_info.keep 0 f109_info.body (retE G f109_info) (f109_info.start [.int a0_1])
theorem f109_eq (run : Run) (n : Nat) (a0_1 : Int) : f109 run n a0_1 =
  (run 112 [.int 128]).bind fun r1 =>
    nilV r1.outs (consV r1.vals fun v1 vs1 =>
    nilV vs1 (f109_l0 run n n a0_1 v1.toStr)) := by kernel_rfl
theorem f109_run (ext : Run) (n : Nat) (a0_1 : Int) : runE G ext (n + 1) 109 [.int a0_1] = f109 (runE G ext n) n a0_1 := runE_succ f109_at f109_in

noncomputable def f132_l0 (run : Run) (n : Nat) (k0 : Nat) (x0_1 : List UInt8) (x1_1 : Int) (x2_1 : Int) (x7_1 : Int) (x8_1 : Int) : Option Res :=
  iterK (evalK G run n f132_keep 0 (sub [1, 1, 0, 1, 0, 0] f132_body)) f132_t0 f132_o0 (blockK 0 (seqK (evalK G run n f132_keep 0 (sub [1, 1, 1] f132_body) (retE G f132_info)) (retE G f132_info))) k0
    ⟨[.val .str none (.str x0_1), .val (.int .i64) none (.int x1_1), .val (.int .i64) none (.int x2_1), .any, .any, .any, .any, .val (.int .u64) none (.int x7_1), .val (.int .i64) none (.int x8_1), .any, .any, .any, .any, .any, .any, .any, .any, .any, .any, .any, .any, .any, .any, .any, .any, .any, .any, .any, .any, .any, .any, .any, .any, .any, .any, .any, .any, .any, .any, .any, .any], [⟨0, none⟩, ⟨0, none⟩, ⟨0, none⟩, ⟨0, none⟩, ⟨0, none⟩, ⟨0, none⟩, ⟨0, none⟩, ⟨0, none⟩, ⟨0, none⟩, ⟨0, none⟩, ⟨0, none⟩, ⟨0, none⟩, ⟨0, none⟩, ⟨0, none⟩, ⟨0, none⟩, ⟨0, none⟩, ⟨0, none⟩, ⟨0, none⟩, ⟨0, none⟩, ⟨0, none⟩, ⟨0, none⟩, ⟨0, none⟩, ⟨0, none⟩, ⟨0, none⟩, ⟨0, none⟩, ⟨0, none⟩, ⟨0, none⟩, ⟨0, none⟩, ⟨0, none⟩, ⟨0, none⟩, ⟨0, none⟩, ⟨0, none⟩, ⟨0, none⟩, ⟨0, none⟩, ⟨0, none⟩, ⟨0, none⟩, ⟨0, none⟩, ⟨0, none⟩, ⟨0, none⟩, ⟨0, none⟩, ⟨0, none⟩], List.replicate 41 0⟩
theorem f132_l0_eq (run : Run) (n : Nat) (k0 : Nat) (x0_1 : List UInt8) (x1_1 : Int) (x2_1 : Int) (x7_1 : Int) (x8_1 : Int) : f132_l0 run n (k0 + 1) x0_1 x1_1 x2_1 x7_1 x8_1 =
  bif ltI x8_1 x2_1 then
    bif leI 0 x1_1 then
    bif ltI x1_1 (x0_1.length : Int) then
    bif ltI x8_1 (IntKind.wrap .i64 ((x0_1.length : Int) - x1_1)) then
    bif inR (IntKind.wrap .i64 (x1_1 + x8_1)) x0_1.length then
    f132_l0 run n k0 x0_1 x1_1 x2_1 (IntKind.wrap .u64 (IntKind.wrap .u64 (x7_1 * 256) + IntKind.wrap .u64 ((x0_1.getD (Int.toNat (IntKind.wrap .i64 (x1_1 + x8_1))) 0).toNat : Int))) (IntKind.wrap .i64 (x8_1 + 1))
  else none
  else
    f132_l0 run n k0 x0_1 x1_1 x2_1 (IntKind.wrap .u64 (x7_1 * 256)) (IntKind.wrap .i64 (x8_1 + 1))
  else
    f132_l0 run n k0 x0_1 x1_1 x2_1 (IntKind.wrap .u64 (x7_1 * 256)) (IntKind.wrap .i64 (x8_1 + 1))
  else
    f132_l0 run n k0 x0_1 x1_1 x2_1 (IntKind.wrap .u64 (x7_1 * 256)) (IntKind.wrap .i64 (x8_1 + 1))
  else
    some ⟨[.int x7_1], [], f132_fresh⟩ := by kernel_rfl
noncomputable def f132 (run : Run) (n : Nat) (a0_1 : List UInt8) (a1_1 : Int) (a2_1 : Int) : Option Res := evalK G run n f132_info.keep 0 f132_info.body (retE G f132_info) (f132_info.start [.str a0_1, .int a1_1, .int a2_1])
theorem f132_eq (run : Run) (n : Nat) (a0_1 : List UInt8) (a1_1 : Int) (a2_1 : Int) : f132 run n a0_1 a1_1 a2_1 =
  f132_l0 run n n a0_1 a1_1 a2_1 0 0 := by kernel_rfl
theorem f132_run (ext : Run) (n : Nat) (a0_1 : List UInt8) (a1_1 : Int) (a2_1 : Int) : runE G ext (n + 1) 132 [.str a0_1, .int a1_1, .int a2_1] = f132 (runE G ext n) n a0_1 a1_1 a2_1 := runE_succ f132_at f132_in

noncomputable def f123 (run : Run) (n : Nat) (a0_1 : Int) (a1_1 : Int) : Option Res := evalK G run n f123_info.keep 0 f123_info.body (retE G f123_info) (f123_info.start [.int a0_1, .int a1_1])
theorem f123_eq (run : Run) (n : Nat) (a0_1 : Int) (a1_1 : Int) : f123 run n a0_1 a1_1 =
  bif leI 0 a1_1 then
    bif leI 0 (IntKind.wrap .u64 (32 - a1_1)) then
    some ⟨[.int (IntKind.wrap .u32 (Int.fdiv a0_1 (2 ^ (min (Int.toNat a1_1) 32)) + IntKind.wrap .u32 (a0_1 * 2 ^ (min (Int.toNat (IntKind.wrap .u64 (32 - a1_1))) 32))))], [], f123_fresh⟩
  else none
  else none := by kernel_rfl
theorem f123_run (ext : Run) (n : Nat) (a0_1 : Int) (a1_1 : Int) : runE G ext (n + 1) 123 [.int a0_1, .int a1_1] = f123 (runE G ext n) n a0_1 a1_1 := runE_succ f123_at f123_in

noncomputable def f122_l2 (run : Run) (n : Nat) (_k0 : Nat) (k2 : Nat) (x5_1 : Int) (o2_3 : List AV) (o3_3 : List AV) : Option Res :=
  iterK (evalK G run n f122_keep 2 (sub [1, 1, 1, 0, 1, 0, 0] f122_body)) f122_t2 f122_o2 (blockK 2 (seqK (evalK G run n f122_keep 0 (sub [1, 1, 1, 1] f122_body) (retE G f122_info)) (retE G f122_info))) k2
    ⟨[.any, .any, .ptr ⟨(.arr 64 (.int .u32)), 2, 1, []⟩, .ptr ⟨(.arr 64 (.int .u32)), 3, 1, []⟩, .any, .val (.int .i64) none (.int x5_1), .any, .any, .any, .any, .any, .any, .any, .any, .any, .any, .any, .any, .any, .any, .any, .any, .any, .any, .any, .any, .any, .any, .any, .any, .any, .any, .any, .any, .any, .any, .any, .any, .any, .any, .any, .any, .any, .any, .any, .any, .any, .any, .any, .any, .any, .any, .any, .any, .any, .any, .any, .any, .any, .any, .any], [⟨0, none⟩, ⟨0, none⟩, ⟨1, some ⟨(.arr 64 (.int .u32)), .agg o2_3⟩⟩, ⟨1, some ⟨(.arr 64 (.int .u32)), .agg o3_3⟩⟩, ⟨0, none⟩, ⟨0, none⟩, ⟨0, none⟩, ⟨0, none⟩, ⟨0, none⟩, ⟨0, none⟩, ⟨0, none⟩, ⟨0, none⟩, ⟨0, none⟩, ⟨0, none⟩, ⟨0, none⟩, ⟨0, none⟩, ⟨0, none⟩, ⟨0, none⟩, ⟨0, none⟩, ⟨0, none⟩, ⟨0, none⟩, ⟨0, none⟩, ⟨0, none⟩, ⟨0, none⟩, ⟨0, none⟩, ⟨0, none⟩, ⟨0, none⟩, ⟨0, none⟩, ⟨0, none⟩, ⟨0, none⟩, ⟨0, none⟩, ⟨0, none⟩, ⟨0, none⟩, ⟨0, none⟩, ⟨0, none⟩, ⟨0, none⟩, ⟨0, none⟩, ⟨0, none⟩, ⟨0, none⟩, ⟨0, none⟩, ⟨0, none⟩, ⟨0, none⟩, ⟨0, none⟩, ⟨0, none⟩, ⟨0, none⟩, ⟨0, none⟩, ⟨0, none⟩, ⟨0, none⟩, ⟨0, none⟩, ⟨0, none⟩, ⟨0, none⟩, ⟨0, none⟩, ⟨0, none⟩, ⟨0, none⟩, ⟨0, none⟩, ⟨0, none⟩, ⟨0, none⟩, ⟨0, none⟩, ⟨0, none⟩, ⟨0, none⟩, ⟨0, none⟩], List.replicate 61 0⟩
noncomputable def f122_l0 (run : Run) (n : Nat) (k0 : Nat) (x0_1 : List UInt8) (x4_1 : Int) (o2_1 : List AV) (o3_1 : List AV) : Option Res :=
  iterK (evalK G run n f122_keep 0 (sub [1, 1, 0, 1, 0, 0] f122_body)) f122_t0 f122_o0 (blockK 0 (seqK (evalK G run n f122_keep 0 (sub [1, 1, 1] f122_body) (retE G f122_info)) (retE G f122_info))) k0
    ⟨[.val .str none (.str x0_1), .any, .ptr ⟨(.arr 64 (.int .u32)), 2, 1, []⟩, .ptr ⟨(.arr 64 (.int .u32)), 3, 1, []⟩, .val (.int .i64) none (.int x4_1), .any, .any, .any, .any, .any, .any, .any, .any, .any, .any, .any, .any, .any, .any, .any, .any, .any, .any, .any, .any, .any, .any, .any, .any, .any, .any, .any, .any, .any, .any, .any, .any, .any, .any, .any, .any, .any, .any, .any, .any, .any, .any, .any, .any, .any, .any, .any, .any, .any, .any, .any, .any, .any, .any, .any, .any], [⟨0, none⟩, ⟨0, none⟩, ⟨1, some ⟨(.arr 64 (.int .u32)), .agg o2_1⟩⟩, ⟨1, some ⟨(.arr 64 (.int .u32)), .agg o3_1⟩⟩, ⟨0, none⟩, ⟨0, none⟩, ⟨0, none⟩, ⟨0, none⟩, ⟨0, none⟩, ⟨0, none⟩, ⟨0, none⟩, ⟨0, none⟩, ⟨0, none⟩, ⟨0, none⟩, ⟨0, none⟩, ⟨0, none⟩, ⟨0, none⟩, ⟨0, none⟩, ⟨0, none⟩, ⟨0, none⟩, ⟨0, none⟩, ⟨0, none⟩, ⟨0, none⟩, ⟨0, none⟩, ⟨0, none⟩, ⟨0, none⟩, ⟨0, none⟩, ⟨0, none⟩, ⟨0, none⟩, ⟨0, none⟩, ⟨0, none⟩, ⟨0, none⟩, ⟨0, none⟩, ⟨0, none⟩, ⟨0, none⟩, ⟨0, none⟩, ⟨0, none⟩, ⟨0, none⟩, ⟨0, none⟩, ⟨0, none⟩, ⟨0, none⟩, ⟨0, none⟩, ⟨0, none⟩, ⟨0, none⟩, ⟨0, none⟩, ⟨0, none⟩, ⟨0, none⟩, ⟨0, none⟩, ⟨0, none⟩, ⟨0, none⟩, ⟨0, none⟩, ⟨0, none⟩, ⟨0, none⟩, ⟨0, none⟩, ⟨0, none⟩, ⟨0, none⟩, ⟨0, none⟩, ⟨0, none⟩, ⟨0, none⟩, ⟨0, none⟩, ⟨0, none⟩], List.replicate 61 0⟩
theorem f122_l2_eq (run : Run) (n : Nat) (k0 : Nat) (k2 : Nat) (x5_1 : Int) (o2_3 : List AV) (o3_3 : List AV) : f122_l2 run n k0 (k2 + 1) x5_1 o2_3 o3_3 =
  bif ltI x5_1 64 then
    bif inR (IntKind.wrap .i64 (x5_1 - 15)) 64 then
    bif inR (IntKind.wrap .i64 (x5_1 - 2)) 64 then
    bif inR (IntKind.wrap .i64 (x5_1 - 16)) 64 then
    (run 123 [.int ((AV.fld (.agg o3_3) (Int.toNat (IntKind.wrap .i64 (x5_1 - 15)))).toInt), .int 7]).bind fun r2 =>
    nilV r2.outs (consV r2.vals fun v2 vs2 =>
    nilV vs2 ((run 123 [.int ((AV.fld (.agg o3_3) (Int.toNat (IntKind.wrap .i64 (x5_1 - 15)))).toInt), .int 18]).bind fun r3 =>
    nilV r3.outs (consV r3.vals fun v3 vs3 =>
    nilV vs3 (bif inR (IntKind.wrap .i64 (x5_1 - 7)) 64 then
    (run 123 [.int ((AV.fld (.agg o3_3) (Int.toNat (IntKind.wrap .i64 (x5_1 - 2)))).toInt), .int 17]).bind fun r4 =>
    nilV r4.outs (consV r4.vals fun v4 vs4 =>
    nilV vs4 ((run 123 [.int ((AV.fld (.agg o3_3) (Int.toNat (IntKind.wrap .i64 (x5_1 - 2)))).toInt), .int 19]).bind fun r5 =>
    nilV r5.outs (consV r5.vals fun v5 vs5 =>
    nilV vs5 (bif inR x5_1 64 then
    f122_l2 run n k0 k2 (IntKind.wrap .i64 (x5_1 + 1)) o2_3 (o3_3.set (Int.toNat x5_1) (.int (IntKind.wrap .u32 (IntKind.wrap .u32 (IntKind.wrap .u32 ((AV.fld (.agg o3_3) (Int.toNat (IntKind.wrap .i64 (x5_1 - 16)))).toInt + IntKind.wrap .u32 (BitVec.toNat (BitVec.ofInt 32 (IntKind.wrap .u32 (BitVec.toNat (BitVec.ofInt 32 v2.toInt ^^^ BitVec.ofInt 32 v3.toInt))) ^^^ BitVec.ofInt 32 (Int.fdiv ((AV.fld (.agg o3_3) (Int.toNat (IntKind.wrap .i64 (x5_1 - 15)))).toInt) (2 ^ 3))))) + (AV.fld (.agg o3_3) (Int.toNat (IntKind.wrap .i64 (x5_1 - 7)))).toInt) + IntKind.wrap .u32 (BitVec.toNat (BitVec.ofInt 32 (IntKind.wrap .u32 (BitVec.toNat (BitVec.ofInt 32 v4.toInt ^^^ BitVec.ofInt 32 v5.toInt))) ^^^ BitVec.ofInt 32 (Int.fdiv ((AV.fld (.agg o3_3) (Int.toNat (IntKind.wrap .i64 (x5_1 - 2)))).toInt) (2 ^ 10))))))))
  else none))))
  else none))))
  else none
  else none
  else none
  else
    some ⟨[.agg o3_3], [], f122_fresh⟩ := by kernel_rfl
theorem f122_l0_eq (run : Run) (n : Nat) (k0 : Nat) (x0_1 : List UInt8) (x4_1 : Int) (o2_1 : List AV) (o3_1 : List AV) : f122_l0 run n (k0 + 1) x0_1 x4_1 o2_1 o3_1 =
  bif ltI x4_1 16 then
    (run 132 [.str x0_1, .int (IntKind.wrap .i64 (4 * x4_1)), .int 4]).bind fun r1 =>
    nilV r1.outs (consV r1.vals fun v1 vs1 =>
    nilV vs1 (bif inR x4_1 64 then
    f122_l0 run n k0 x0_1 (IntKind.wrap .i64 (x4_1 + 1)) o2_1 (o3_1.set (Int.toNat x4_1) (.int (IntKind.wrap .u32 v1.toInt)))
  else none))
  else
    f122_l2 run n k0 n 16 o2_1 o3_1 := by kernel_rfl
noncomputable def f122 (run : Run) (n : Nat) (a0_1 : List UInt8) : Option Res := evalK G run n f122_info.keep 0 f122_info.body (retE G f122_info) (f122_info.start [.str a0_1])
theorem f122_eq (run : Run) (n : Nat) (a0_1 : List UInt8) : f122 run n a0_1 =
  f122_l0 run n n a0_1 0 (List.replicate 64 (.int 0)) (List.replicate 64 (.int 0)) := by kernel_rfl
theorem f122_run (ext : Run) (n : Nat) (a0_1 : List UInt8) : runE G ext (n + 1) 122 [.str a0_1] = f122 (runE G ext n) n a0_1 := runE_succ f122_at f122_in

noncomputable def f124 (run : Run) (n : Nat) (a0_1 : Int) : Option Res := evalK G run n f124_info.keep 0 f124_info.body (retE G f124_info) (f124_info.start [.int a0_1])
theorem f124_eq (run : Run) (n : Nat) (a0_1 : Int) : f124 run n a0_1 =
  bif inR a0_1 64 then
    some ⟨[.int ((nth [.int 1116352408, .int 1899447441, .int 3049323471, .int 3921009573, .int 961987163, .int 1508970993, .int 2453635748, .int 2870763221, .int 3624381080, .int 310598401, .int 607225278, .int 1426881987, .int 1925078388, .int 2162078206, .int 2614888103, .int 3248222580, .int 3835390401, .int 4022224774, .int 264347078, .int 604807628, .int 770255983, .int 1249150122, .int 1555081692, .int 1996064986, .int 2554220882, .int 2821834349, .int 2952996808, .int 3210313671, .int 3336571891, .int 3584528711, .int 113926993, .int 338241895, .int 666307205, .int 773529912, .int 1294757372, .int 1396182291, .int 1695183700, .int 1986661051, .int 2177026350, .int 2456956037, .int 2730485921, .int 2820302411, .int 3259730800, .int 3345764771, .int 3516065817, .int 3600352804, .int 4094571909, .int 275423344, .int 430227734, .int 506948616, .int 659060556, .int 883997877, .int 958139571, .int 1322822218, .int 1537002063, .int 1747873779, .int 1955562222, .int 2024104815, .int 2227730452, .int 2361852424, .int 2428436474, .int 2756734187, .int 3204031479, .int 3329325298] (Int.toNat a0_1)).toInt)], [], f124_fresh⟩
  else none := by kernel_rfl
theorem f124_run (ext : Run) (n : Nat) (a0_1 : Int) : runE G ext (n + 1) 124 [.int a0_1] = f124 (runE G ext n) n a0_1 := runE_succ f124_at f124_in

noncomputable def f110_l2 (run : Run) (n : Nat) (k0 : Nat) (k2 : Nat) (x7_2 : Int) (x10_1 : Int) (x11_1 : Int) (x12_1 : Int) (o2_2 : List AV) (o4_2 : List AV) (o5_2 : List AV) (o6_2 : List AV) : Option Res :=
  iterK (evalK G run n f110_keep 2 (sub [1, 1, 1, 0, 1, 0, 0, 1, 0, 0, 1, 1, 1, 1, 0, 1, 0, 0] f110_body)) f110_t2 f110_o2 (blockK 2 (seqK (evalK G run n f110_keep 1 (sub [1, 1, 1, 0, 1, 0, 0, 1, 0, 0, 1, 1, 1, 1, 1] f110_body) (blockK 1 (seqK (evalK G run n f110_keep 0 (sub [1, 1, 1, 0, 1, 0, 0, 1, 1] f110_body) (seqK (fun t => iterK (evalK G run n f110_keep 0 (sub [1, 1, 1, 0, 1, 0, 0] f110_body)) f110_t0 f110_o0 (blockK 0 (seqK (evalK G run n f110_keep 0 (sub [1, 1, 1, 1] f110_body) (retE G f110_info)) (retE G f110_info))) k0 (t.clear f110_t0 f110_o0)) (blockK 0 (seqK (evalK G run n f110_keep 0 (sub [1, 1, 1, 1] f110_body) (retE G f110_info)) (retE G f110_info))))) (seqK (fun t => iterK (evalK G run n f110_keep 0 (sub [1, 1, 1, 0, 1, 0, 0] f110_body)) f110_t0 f110_o0 (blockK 0 (seqK (evalK G run n f110_keep 0 (sub [1, 1, 1, 1] f110_body) (retE G f110_info)) (retE G f110_info))) k0 (t.clear f110_t0 f110_o0)) (blockK 0 (seqK (evalK G run n f110_keep 0 (sub [1, 1, 1, 1] f110_body) (retE G f110_info)) (retE G f110_info))))))) (blockK 1 (seqK (evalK G run n f110_keep 0 (sub [1, 1, 1, 0, 1, 0, 0, 1, 1] f110_body) (seqK (fun t => iterK (evalK G run n f110_keep 0 (sub [1, 1, 1, 0, 1, 0, 0] f110_body)) f110_t0 f110_o0 (blockK 0 (seqK (evalK G run n f110_keep 0 (sub [1, 1, 1, 1] f110_body) (retE G f110_info)) (retE G f110_info))) k0 (t.clear f110_t0 f110_o0)) (blockK 0 (seqK (evalK G run n f110_keep 0 (sub [1, 1, 1, 1] f110_body) (retE G f110_info)) (retE G f110_info))))) (seqK (fun t => iterK (evalK G run n f110_keep 0 (sub [1, 1, 1, 0, 1, 0, 0] f110_body)) f110_t0 f110_o0 (blockK 0 (seqK (evalK G run n f110_keep 0 (sub [1, 1, 1, 1] f110_body) (retE G f110_info)) (retE G f110_info))) k0 (t.clear f110_t0 f110_o0)) (blockK 0 (seqK (evalK G run n f110_keep 0 (sub [1, 1, 1, 1] f110_body) (retE G f110_info)) (retE G f110_info)))))))) k2
    ⟨[.any, .any, .ptr ⟨(.arr 8 (.int .u32)), 2, 1, []⟩, .any, .ptr ⟨(.arr 8 (.int .u32)), 4, 1, []⟩, .ptr ⟨(.arr 64 (.int .u32)), 5, 1, []⟩, .ptr ⟨(.arr 8 (.int .u32)), 6, 1, []⟩, .val (.int .i64) none (.int x7_2), .any, .any, .val (.int .u32) none (.int x10_1), .val (.int .u32) none (.int x11_1), .val (.int .i64) none (.int x12_1), .any, .any, .any, .any, .any, .any, .any, .any, .any, .any, .any, .any, .any, .any, .any, .any, .any, .any, .any, .any, .any, .any, .any, .any, .any, .any, .any, .any, .any, .any, .any, .any, .any, .any, .any, .any, .any, .any, .any, .any, .any, .any, .any, .any, .any, .any, .any, .any, .any, .any, .any, .any, .any, .any, .any, .any, .any, .any, .any, .any, .any, .any, .any, .any, .any, .any, .any, .any, .any, .any, .any, .any, .any, .any, .any, .any, .any, .any, .any, .any, .any, .any, .any, .any, .any, .any, .any, .any, .any, .any, .any, .any, .any, .any, .any, .any, .any], [⟨0, none⟩, ⟨0, none⟩, ⟨1, some ⟨(.arr 8 (.int .u32)), .agg o2_2⟩⟩, ⟨0, none⟩, ⟨1, some ⟨(.arr 8 (.int .u32)), .agg o4_2⟩⟩, ⟨1, some ⟨(.arr 64 (.int .u32)), .agg o5_2⟩⟩, ⟨1, some ⟨(.arr 8 (.int .u32)), .agg o6_2⟩⟩, ⟨0, none⟩, ⟨0, none⟩, ⟨0, none⟩, ⟨0, none⟩, ⟨0, none⟩, ⟨0, none⟩, ⟨0, none⟩, ⟨0, none⟩, ⟨0, none⟩, ⟨0, none⟩, ⟨0, none⟩, ⟨0, none⟩, ⟨0, none⟩, ⟨0, none⟩, ⟨0, none⟩, ⟨0, none⟩, ⟨0, none⟩, ⟨0, none⟩, ⟨0, none⟩, ⟨0, none⟩, ⟨0, none⟩, ⟨0, none⟩, ⟨0, none⟩, ⟨0, none⟩, ⟨0, none⟩, ⟨0, none⟩, ⟨0, none⟩, ⟨0, none⟩, ⟨0, none⟩, ⟨0, none⟩, ⟨0, none⟩, ⟨0, none⟩, ⟨0, none⟩, ⟨0, none⟩, ⟨0, none⟩, ⟨0, none⟩, ⟨0, none⟩, ⟨0, none⟩, ⟨0, none⟩, ⟨0, none⟩, ⟨0, none⟩, ⟨0, none⟩, ⟨0, none⟩, ⟨0, none⟩, ⟨0, none⟩, ⟨0, none⟩, ⟨0, none⟩, ⟨0, none⟩, ⟨0, none⟩, ⟨0, none⟩, ⟨0, none⟩, ⟨0, none⟩, ⟨0, none⟩, ⟨0, none⟩, ⟨0, none⟩, ⟨0, none⟩, ⟨0, none⟩, ⟨0, none⟩, ⟨0, none⟩, ⟨0, none⟩, ⟨0, none⟩, ⟨0, none⟩, ⟨0, none⟩, ⟨0, none⟩, ⟨0, none⟩, ⟨0, none⟩, ⟨0, none⟩, ⟨0, none⟩, ⟨0, none⟩, ⟨0, none⟩, ⟨0, none⟩, ⟨0, none⟩, ⟨0, none⟩, ⟨0, none⟩, ⟨0, none⟩, ⟨0, none⟩, ⟨0, none⟩, ⟨0, none⟩, ⟨0, none⟩, ⟨0, none⟩, ⟨0, none⟩, ⟨0, none⟩, ⟨0, none⟩, ⟨0, none⟩, ⟨0, none⟩, ⟨0, none⟩, ⟨0, none⟩, ⟨0, none⟩, ⟨0, none⟩, ⟨0, none⟩, ⟨0, none⟩, ⟨0, none⟩, ⟨0, none⟩, ⟨0, none⟩, ⟨0, none⟩, ⟨0, none⟩, ⟨0, none⟩, ⟨0, none⟩, ⟨0, none⟩, ⟨0, none⟩, ⟨0, none⟩, ⟨0, none⟩, ⟨0, none⟩], List.replicate 110 0⟩
noncomputable def f110_l4 (run : Run) (n : Nat) (_k0 : Nat) (k4 : Nat) (x13_1 : Int) (o2_5 : List AV) (o4_5 : List AV) (o6_5 : List AV) : Option Res :=
  iterK (evalK G run n f110_keep 4 (sub [1, 1, 1, 1, 0, 1, 0, 0] f110_body)) f110_t4 f110_o4 (blockK 4 (seqK (evalK G run n f110_keep 0 (sub [1, 1, 1, 1, 1] f110_body) (retE G f110_info)) (retE G f110_info))) k4
    ⟨[.any, .any, .ptr ⟨(.arr 8 (.int .u32)), 2, 1, []⟩, .any, .ptr ⟨(.arr 8 (.int .u32)), 4, 1, []⟩, .any, .ptr ⟨(.arr 8 (.int .u32)), 6, 1, []⟩, .any, .any, .any, .any, .any, .any, .val (.int .i64) none (.int x13_1), .any, .any, .any, .any, .any, .any, .any, .any, .any, .any, .any, .any, .any, .any, .any, .any, .any, .any, .any, .any, .any, .any, .any, .any, .any, .any, .any, .any, .any, .any, .any, .any, .any, .any, .any, .any, .any, .any, .any, .any, .any, .any, .any, .any, .any, .any, .any, .any, .any, .any, .any, .any, .any, .any, .any, .any, .any, .any, .any, .any, .any, .any, .any, .any, .any, .any, .any, .any, .any, .any, .any, .any, .any, .any, .any, .any, .any, .any, .any, .any, .any, .any, .any, .any, .any, .any, .any, .any, .any, .any, .any, .any, .any, .any, .any, .any], [⟨0, none⟩, ⟨0, none⟩, ⟨1, some ⟨(.arr 8 (.int .u32)), .agg o2_5⟩⟩, ⟨0, none⟩, ⟨1, some ⟨(.arr 8 (.int .u32)), .agg o4_5⟩⟩, ⟨0, none⟩, ⟨1, some ⟨(.arr 8 (.int .u32)), .agg o6_5⟩⟩, ⟨0, none⟩, ⟨0, none⟩, ⟨0, none⟩, ⟨0, none⟩, ⟨0, none⟩, ⟨0, none⟩, ⟨0, none⟩, ⟨0, none⟩, ⟨0, none⟩, ⟨0, none⟩, ⟨0, none⟩, ⟨0, none⟩, ⟨0, none⟩, ⟨0, none⟩, ⟨0, none⟩, ⟨0, none⟩, ⟨0, none⟩, ⟨0, none⟩, ⟨0, none⟩, ⟨0, none⟩, ⟨0, none⟩, ⟨0, none⟩, ⟨0, none⟩, ⟨0, none⟩, ⟨0, none⟩, ⟨0, none⟩, ⟨0, none⟩, ⟨0, none⟩, ⟨0, none⟩, ⟨0, none⟩, ⟨0, none⟩, ⟨0, none⟩, ⟨0, none⟩, ⟨0, none⟩, ⟨0, none⟩, ⟨0, none⟩, ⟨0, none⟩, ⟨0, none⟩, ⟨0, none⟩, ⟨0, none⟩, ⟨0, none⟩, ⟨0, none⟩, ⟨0, none⟩, ⟨0, none⟩, ⟨0, none⟩, ⟨0, none⟩, ⟨0, none⟩, ⟨0, none⟩, ⟨0, none⟩, ⟨0, none⟩, ⟨0, none⟩, ⟨0, none⟩, ⟨0, none⟩, ⟨0, none⟩, ⟨0, none⟩, ⟨0, none⟩, ⟨0, none⟩, ⟨0, none⟩, ⟨0, none⟩, ⟨0, none⟩, ⟨0, none⟩, ⟨0, none⟩, ⟨0, none⟩, ⟨0, none⟩, ⟨0, none⟩, ⟨0, none⟩, ⟨0, none⟩, ⟨0, none⟩, ⟨0, none⟩, ⟨0, none⟩, ⟨0, none⟩, ⟨0, none⟩, ⟨0, none⟩, ⟨0, none⟩, ⟨0, none⟩, ⟨0, none⟩, ⟨0, none⟩, ⟨0, none⟩, ⟨0, none⟩, ⟨0, none⟩, ⟨0, none⟩, ⟨0, none⟩, ⟨0, none⟩, ⟨0, none⟩, ⟨0, none⟩, ⟨0, none⟩, ⟨0, none⟩, ⟨0, none⟩, ⟨0, none⟩, ⟨0, none⟩, ⟨0, none⟩, ⟨0, none⟩, ⟨0, none⟩, ⟨0, none⟩, ⟨0, none⟩, ⟨0, none⟩, ⟨0, none⟩, ⟨0, none⟩, ⟨0, none⟩, ⟨0, none⟩, ⟨0, none⟩, ⟨0, none⟩, ⟨0, none⟩], List.replicate 110 0⟩
noncomputable def f110_l0 (run : Run) (n : Nat) (k0 : Nat) (x7_1 : Int) (o2_1 : List AV) (o4_1 : List AV) (o5_1 : List AV) (o6_1 : List AV) : Option Res :=
  iterK (evalK G run n f110_keep 0 (sub [1, 1, 1, 0, 1, 0, 0] f110_body)) f110_t0 f110_o0 (blockK 0 (seqK (evalK G run n f110_keep 0 (sub [1, 1, 1, 1] f110_body) (retE G f110_info)) (retE G f110_info))) k0
    ⟨[.any, .any, .ptr ⟨(.arr 8 (.int .u32)), 2, 1, []⟩, .any, .ptr ⟨(.arr 8 (.int .u32)), 4, 1, []⟩, .ptr ⟨(.arr 64 (.int .u32)), 5, 1, []⟩, .ptr ⟨(.arr 8 (.int .u32)), 6, 1, []⟩, .val (.int .i64) none (.int x7_1), .any, .any, .any, .any, .any, .any, .any, .any, .any, .any, .any, .any, .any, .any, .any, .any, .any, .any, .any, .any, .any, .any, .any, .any, .any, .any, .any, .any, .any, .any, .any, .any, .any, .any, .any, .any, .any, .any, .any, .any, .any, .any, .any, .any, .any, .any, .any, .any, .any, .any, .any, .any, .any, .any, .any, .any, .any, .any, .any, .any, .any, .any, .any, .any, .any, .any, .any, .any, .any, .any, .any, .any, .any, .any, .any, .any, .any, .any, .any, .any, .any, .any, .any, .any, .any, .any, .any, .any, .any, .any, .any, .any, .any, .any, .any, .any, .any, .any, .any, .any, .any, .any], [⟨0, none⟩, ⟨0, none⟩, ⟨1, some ⟨(.arr 8 (.int .u32)), .agg o2_1⟩⟩, ⟨0, none⟩, ⟨1, some ⟨(.arr 8 (.int .u32)), .agg o4_1⟩⟩, ⟨1, some ⟨(.arr 64 (.int .u32)), .agg o5_1⟩⟩, ⟨1, some ⟨(.arr 8 (.int .u32)), .agg o6_1⟩⟩, ⟨0, none⟩, ⟨0, none⟩, ⟨0, none⟩, ⟨0, none⟩, ⟨0, none⟩, ⟨0, none⟩, ⟨0, none⟩, ⟨0, none⟩, ⟨0, none⟩, ⟨0, none⟩, ⟨0, none⟩, ⟨0, none⟩, ⟨0, none⟩, ⟨0, none⟩, ⟨0, none⟩, ⟨0, none⟩, ⟨0, none⟩, ⟨0, none⟩, ⟨0, none⟩, ⟨0, none⟩, ⟨0, none⟩, ⟨0, none⟩, ⟨0, none⟩, ⟨0, none⟩, ⟨0, none⟩, ⟨0, none⟩, ⟨0, none⟩, ⟨0, none⟩, ⟨0, none⟩, ⟨0, none⟩, ⟨0, none⟩, ⟨0, none⟩, ⟨0, none⟩, ⟨0, none⟩, ⟨0, none⟩, ⟨0, none⟩, ⟨0, none⟩, ⟨0, none⟩, ⟨0, none⟩, ⟨0, none⟩, ⟨0, none⟩, ⟨0, none⟩, ⟨0, none⟩, ⟨0, none⟩, ⟨0, none⟩, ⟨0, none⟩, ⟨0, none⟩, ⟨0, none⟩, ⟨0, none⟩, ⟨0, none⟩, ⟨0, none⟩, ⟨0, none⟩, ⟨0, none⟩, ⟨0, none⟩, ⟨0, none⟩, ⟨0, none⟩, ⟨0, none⟩, ⟨0, none⟩, ⟨0, none⟩, ⟨0, none⟩, ⟨0, none⟩, ⟨0, none⟩, ⟨0, none⟩, ⟨0, none⟩, ⟨0, none⟩, ⟨0, none⟩, ⟨0, none⟩, ⟨0, none⟩, ⟨0, none⟩, ⟨0, none⟩, ⟨0, none⟩, ⟨0, none⟩, ⟨0, none⟩, ⟨0, none⟩, ⟨0, none⟩, ⟨0, none⟩, ⟨0, none⟩, ⟨0, none⟩, ⟨0, none⟩, ⟨0, none⟩, ⟨0, none⟩, ⟨0, none⟩, ⟨0, none⟩, ⟨0, none⟩, ⟨0, none⟩, ⟨0, none⟩, ⟨0, none⟩, ⟨0, none⟩, ⟨0, none⟩, ⟨0, none⟩, ⟨0, none⟩, ⟨0, none⟩, ⟨0, none⟩, ⟨0, none⟩, ⟨0, none⟩, ⟨0, none⟩, ⟨0, none⟩, ⟨0, none⟩, ⟨0, none⟩, ⟨0, none⟩, ⟨0, none⟩, ⟨0, none⟩, ⟨0, none⟩], List.replicate 110 0⟩
theorem f110_l2_eq (run : Run) (n : Nat) (k0 : Nat) (k2 : Nat) (x7_2 : Int) (x10_1 : Int) (x11_1 : Int) (x12_1 : Int) (o2_2 : List AV) (o4_2 : List AV) (o5_2 : List AV) (o6_2 : List AV) : f110_l2 run n k0 (k2 + 1) x7_2 x10_1 x11_1 x12_1 o2_2 o4_2 o5_2 o6_2 =
  bif ltI 0 x12_1 then
    bif inR (IntKind.wrap .i64 (x12_1 - 1)) 8 then
    bif inR x12_1 8 then
    f110_l2 run n k0 k2 x7_2 x10_1 x11_1 (IntKind.wrap .i64 (x12_1 - 1)) (o2_2.set (Int.toNat x12_1) (.int ((AV.fld (.agg o2_2) (Int.toNat (IntKind.wrap .i64 (x12_1 - 1)))).toInt))) o4_2 o5_2 o6_2
  else none
  else none
  else
    f110_l0 run n k0 (IntKind.wrap .i64 (x7_2 + 1)) ((o2_2.set 4 (.int (IntKind.wrap .u32 ((AV.fld (.agg o2_2) 4).toInt + x10_1)))).set 0 (.int (IntKind.wrap .u32 (x10_1 + x11_1)))) o4_2 o5_2 o6_2 := by kernel_rfl
theorem f110_l4_eq (run : Run) (n : Nat) (k0 : Nat) (k4 : Nat) (x13_1 : Int) (o2_5 : List AV) (o4_5 : List AV) (o6_5 : List AV) : f110_l4 run n k0 (k4 + 1) x13_1 o2_5 o4_5 o6_5 =
  bif ltI x13_1 8 then
    bif inR x13_1 8 then
    bif inR x13_1 8 then
    bif inR x13_1 8 then
    f110_l4 run n k0 k4 (IntKind.wrap .i64 (x13_1 + 1)) (o2_5.set (Int.toNat x13_1) (.int (IntKind.wrap .u32 ((AV.fld (.agg o2_5) (Int.toNat x13_1)).toInt + (AV.fld (.agg o6_5) (Int.toNat x13_1)).toInt)))) o4_5 o6_5
  else none
  else none
  else none
  else
    some ⟨[.agg o2_5], [], f110_fresh⟩ := by kernel_rfl
theorem f110_l0_eq (run : Run) (n : Nat) (k0 : Nat) (x7_1 : Int) (o2_1 : List AV) (o4_1 : List AV) (o5_1 : List AV) (o6_1 : List AV) : f110_l0 run n (k0 + 1) x7_1 o2_1 o4_1 o5_1 o6_1 =
  bif ltI x7_1 64 then
    (run 123 [.int ((AV.fld (.agg o2_1) 4).toInt), .int 6]).bind fun r2 =>
    nilV r2.outs (consV r2.vals fun v2 vs2 =>
    nilV vs2 ((run 123 [.int ((AV.fld (.agg o2_1) 4).toInt), .int 11]).bind fun r3 =>
    nilV r3.outs (consV r3.vals fun v3 vs3 =>
    nilV vs3 ((run 123 [.int ((AV.fld (.agg o2_1) 4).toInt), .int 25]).bind fun r4 =>
    nilV r4.outs (consV r4.vals fun v4 vs4 =>
    nilV vs4 ((run 124 [.int x7_1]).bind fun r5 =>
    nilV r5.outs (consV r5.vals fun v5 vs5 =>
    nilV vs5 (bif inR x7_1 64 then
    (run 123 [.int ((AV.fld (.agg o2_1) 0).toInt), .int 2]).bind fun r6 =>
    nilV r6.outs (consV r6.vals fun v6 vs6 =>
    nilV vs6 ((run 123 [.int ((AV.fld (.agg o2_1) 0).toInt), .int 13]).bind fun r7 =>
    nilV r7.outs (consV r7.vals fun v7 vs7 =>
    nilV vs7 ((run 123 [.int ((AV.fld (.agg o2_1) 0).toInt), .int 22]).bind fun r8 =>
    nilV r8.outs (consV r8.vals fun v8 vs8 =>
    nilV vs8 (f110_l2 run n k0 n x7_1 (IntKind.wrap .u32 (IntKind.wrap .u32 (IntKind.wrap .u32 (IntKind.wrap .u32 ((AV.fld (.agg o2_1) 7).toInt + IntKind.wrap .u32 (BitVec.toNat (BitVec.ofInt 32 (IntKind.wrap .u32 (BitVec.toNat (BitVec.ofInt 32 v2.toInt ^^^ BitVec.ofInt 32 v3.toInt))) ^^^ BitVec.ofInt 32 v4.toInt))) + IntKind.wrap .u32 (BitVec.toNat (BitVec.ofInt 32 (IntKind.wrap .u32 (BitVec.toNat (BitVec.ofInt 32 ((AV.fld (.agg o2_1) 4).toInt) &&& BitVec.ofInt 32 ((AV.fld (.agg o2_1) 5).toInt)))) ^^^ BitVec.ofInt 32 (IntKind.wrap .u32 (BitVec.toNat (BitVec.ofInt 32 (IntKind.wrap .u32 (4294967295 - (AV.fld (.agg o2_1) 4).toInt)) &&& BitVec.ofInt 32 ((AV.fld (.agg o2_1) 6).toInt))))))) + v5.toInt) + (AV.fld (.agg o5_1) (Int.toNat x7_1)).toInt)) (IntKind.wrap .u32 (IntKind.wrap .u32 (BitVec.toNat (BitVec.ofInt 32 (IntKind.wrap .u32 (BitVec.toNat (BitVec.ofInt 32 v6.toInt ^^^ BitVec.ofInt 32 v7.toInt))) ^^^ BitVec.ofInt 32 v8.toInt)) + IntKind.wrap .u32 (BitVec.toNat (BitVec.ofInt 32 (IntKind.wrap .u32 (BitVec.toNat (BitVec.ofInt 32 (IntKind.wrap .u32 (BitVec.toNat (BitVec.ofInt 32 ((AV.fld (.agg o2_1) 0).toInt) &&& BitVec.ofInt 32 ((AV.fld (.agg o2_1) 1).toInt)))) ^^^ BitVec.ofInt 32 (IntKind.wrap .u32 (BitVec.toNat (BitVec.ofInt 32 ((AV.fld (.agg o2_1) 0).toInt) &&& BitVec.ofInt 32 ((AV.fld (.agg o2_1) 2).toInt))))))) ^^^ BitVec.ofInt 32 (IntKind.wrap .u32 (BitVec.toNat (BitVec.ofInt 32 ((AV.fld (.agg o2_1) 1).toInt) &&& BitVec.ofInt 32 ((AV.fld (.agg o2_1) 2).toInt)))))))) 7 o2_1 o4_1 o5_1 o6_1))))))
  else none))))))))
  else
    f110_l4 run n k0 n 0 o2_1 o4_1 o6_1 := by kernel_rfl
noncomputable def f110 (run : Run) (n : Nat) (a0_1 : List AV) (a1_1 : List UInt8) : Option Res := evalK G run n f110_info.keep 0 f110_info.body (retE G f110_info) (f110_info.start [.agg a0_1, .str a1_1])
theorem f110_eq (run : Run) (n : Nat) (a0_1 : List AV) (a1_1 : List UInt8) : f110 run n a0_1 a1_1 =
  (run 122 [.str a1_1]).bind fun r1 =>
    nilV r1.outs (consV r1.vals fun v1 vs1 =>
    nilV vs1 (f110_l0 run n n 0 a0_1 (List.replicate 8 (.int 0)) v1.toAgg a0_1)) := by kernel_rfl
theorem f110_run (ext : Run) (n : Nat) (a0_1 : List AV) (a1_1 : List UInt8) : runE G ext (n + 1) 110 [.agg a0_1, .str a1_1] = f110 (runE G ext n) n a0_1 a1_1 := runE_succ f110_at f110_in

noncomputable def f91_l4 (run : Run) (n : Nat) (_k0 : Nat) (k2 : Nat) (k4 : Nat) (x6_2 : Int) (x7_1 : List UInt8) (x8_1 : Int) (o2_4 : List UInt8) (o3_4 : List AV) (o5_2 : List UInt8) : Option Res :=
  iterK (evalK G run n f91_keep 4 (sub [1, 1, 1, 1, 1, 0, 1, 0, 0, 1, 0, 0, 1, 1, 0, 0] f91_body)) f91_t4 f91_o4 (blockK 4 (blockK 3 (seqK (evalK G run n f91_keep 2 (sub [1, 1, 1, 1, 1, 0, 1, 0, 0, 1, 1] f91_body) (seqK (fun t => iterK (evalK G run n f91_keep 2 (sub [1, 1, 1, 1, 1, 0, 1, 0, 0] f91_body)) f91_t2 f91_o2 (blockK 2 (seqK (evalK G run n f91_keep 0 (sub [1, 1, 1, 1, 1, 1] f91_body) (retE G f91_info)) (retE G f91_info))) k2 (t.clear f91_t2 f91_o2)) (blockK 2 (seqK (evalK G run n f91_keep 0 (sub [1, 1, 1, 1, 1, 1] f91_body) (retE G f91_info)) (retE G f91_info))))) (seqK (fun t => iterK (evalK G run n f91_keep 2 (sub [1, 1, 1, 1, 1, 0, 1, 0, 0] f91_body)) f91_t2 f91_o2 (blockK 2 (seqK (evalK G run n f91_keep 0 (sub [1, 1, 1, 1, 1, 1] f91_body) (retE G f91_info)) (retE G f91_info))) k2 (t.clear f91_t2 f91_o2)) (blockK 2 (seqK (evalK G run n f91_keep 0 (sub [1, 1, 1, 1, 1, 1] f91_body) (retE G f91_info)) (retE G f91_info))))))) k4
    ⟨[.any, .any, .ptr ⟨(.blob 32), 2, 1, []⟩, .ptr ⟨(.arr 8 (.int .u32)), 3, 1, []⟩, .any, .ptr ⟨(.blob 32), 5, 1, []⟩, .val (.int .i64) none (.int x6_2), .val .str none (.str x7_1), .val (.int .i64) none (.int x8_1), .any, .any, .any, .any, .any, .any, .any, .any, .any, .any, .any, .any, .any, .any, .any, .any, .any, .any, .any, .any, .any, .any, .any, .any, .any, .any, .any, .any, .any, .any, .any, .any, .any, .any, .any, .any, .any, .any, .any, .any, .any, .any], [⟨0, none⟩, ⟨0, none⟩, ⟨1, some ⟨(.blob 32), .blob o2_4⟩⟩, ⟨1, some ⟨(.arr 8 (.int .u32)), .agg o3_4⟩⟩, ⟨0, none⟩, ⟨1, some ⟨(.blob 32), .blob o5_2⟩⟩, ⟨0, none⟩, ⟨0, none⟩, ⟨0, none⟩, ⟨0, none⟩, ⟨0, none⟩, ⟨0, none⟩, ⟨0, none⟩, ⟨0, none⟩, ⟨0, none⟩, ⟨0, none⟩, ⟨0, none⟩, ⟨0, none⟩, ⟨0, none⟩, ⟨0, none⟩, ⟨0, none⟩, ⟨0, none⟩, ⟨0, none⟩, ⟨0, none⟩, ⟨0, none⟩, ⟨0, none⟩, ⟨0, none⟩, ⟨0, none⟩, ⟨0, none⟩, ⟨0, none⟩, ⟨0, none⟩, ⟨0, none⟩, ⟨0, none⟩, ⟨0, none⟩, ⟨0, none⟩, ⟨0, none⟩, ⟨0, none⟩, ⟨0, none⟩, ⟨0, none⟩, ⟨0, none⟩, ⟨0, none⟩, ⟨0, none⟩, ⟨0, none⟩, ⟨0, none⟩, ⟨0, none⟩, ⟨0, none⟩, ⟨0, none⟩, ⟨0, none⟩, ⟨0, none⟩, ⟨0, none⟩, ⟨0, none⟩], List.replicate 51 0⟩
noncomputable def f91_l2 (run : Run) (n : Nat) (_k0 : Nat) (k2 : Nat) (x6_1 : Int) (o2_3 : List UInt8) (o3_3 : List AV) (o5_1 : List UInt8) : Option Res :=
  iterK (evalK G run n f91_keep 2 (sub [1, 1, 1, 1, 1, 0, 1, 0, 0] f91_body)) f91_t2 f91_o2 (blockK 2 (seqK (evalK G run n f91_keep 0 (sub [1, 1, 1, 1, 1, 1] f91_body) (retE G f91_info)) (retE G f91_info))) k2
    ⟨[.any, .any, .ptr ⟨(.blob 32), 2, 1, []⟩, .ptr ⟨(.arr 8 (.int .u32)), 3, 1, []⟩, .any, .ptr ⟨(.blob 32), 5, 1, []⟩, .val (.int .i64) none (.int x6_1), .any, .any, .any, .any, .any, .any, .any, .any, .any, .any, .any, .any, .any, .any, .any, .any, .any, .any, .any, .any, .any, .any, .any, .any, .any, .any, .any, .any, .any, .any, .any, .any, .any, .any, .any, .any, .any, .any, .any, .any, .any, .any, .any, .any], [⟨0, none⟩, ⟨0, none⟩, ⟨1, some ⟨(.blob 32), .blob o2_3⟩⟩, ⟨1, some ⟨(.arr 8 (.int .u32)), .agg o3_3⟩⟩, ⟨0, none⟩, ⟨1, some ⟨(.blob 32), .blob o5_1⟩⟩, ⟨0, none⟩, ⟨0, none⟩, ⟨0, none⟩, ⟨0, none⟩, ⟨0, none⟩, ⟨0, none⟩, ⟨0, none⟩, ⟨0, none⟩, ⟨0, none⟩, ⟨0, none⟩, ⟨0, none⟩, ⟨0, none⟩, ⟨0, none⟩, ⟨0, none⟩, ⟨0, none⟩, ⟨0, none⟩, ⟨0, none⟩, ⟨0, none⟩, ⟨0, none⟩, ⟨0, none⟩, ⟨0, none⟩, ⟨0, none⟩, ⟨0, none⟩, ⟨0, none⟩, ⟨0, none⟩, ⟨0, none⟩, ⟨0, none⟩, ⟨0, none⟩, ⟨0, none⟩, ⟨0, none⟩, ⟨0, none⟩, ⟨0, none⟩, ⟨0, none⟩, ⟨0, none⟩, ⟨0, none⟩, ⟨0, none⟩, ⟨0, none⟩, ⟨0, none⟩, ⟨0, none⟩, ⟨0, none⟩, ⟨0, none⟩, ⟨0, none⟩, ⟨0, none⟩, ⟨0, none⟩, ⟨0, none⟩], List.replicate 51 0⟩
noncomputable def f91_l0 (run : Run) (n : Nat) (k0 : Nat) (x0_1 : List UInt8) (x4_1 : Int) (o2_1 : List UInt8) (o3_1 : List AV) : Option Res :=
  iterK (evalK G run n f91_keep 0 (sub [1, 1, 1, 0, 1, 0, 0] f91_body)) f91_t0 f91_o0 (blockK 0 (seqK (evalK G run n f91_keep 0 (sub [1, 1, 1, 1] f91_body) (retE G f91_info)) (retE G f91_info))) k0
    ⟨[.val .str none (.str x0_1), .any, .ptr ⟨(.blob 32), 2, 1, []⟩, .ptr ⟨(.arr 8 (.int .u32)), 3, 1, []⟩, .val (.int .i64) none (.int x4_1), .any, .any, .any, .any, .any, .any, .any, .any, .any, .any, .any, .any, .any, .any, .any, .any, .any, .any, .any, .any, .any, .any, .any, .any, .any, .any, .any, .any, .any, .any, .any, .any, .any, .any, .any, .any, .any, .any, .any, .any, .any, .any, .any, .any, .any, .any], [⟨0, none⟩, ⟨0, none⟩, ⟨1, some ⟨(.blob 32), .blob o2_1⟩⟩, ⟨1, some ⟨(.arr 8 (.int .u32)), .agg o3_1⟩⟩, ⟨0, none⟩, ⟨0, none⟩, ⟨0, none⟩, ⟨0, none⟩, ⟨0, none⟩, ⟨0, none⟩, ⟨0, none⟩, ⟨0, none⟩, ⟨0, none⟩, ⟨0, none⟩, ⟨0, none⟩, ⟨0, none⟩, ⟨0, none⟩, ⟨0, none⟩, ⟨0, none⟩, ⟨0, none⟩, ⟨0, none⟩, ⟨0, none⟩, ⟨0, none⟩, ⟨0, none⟩, ⟨0, none⟩, ⟨0, none⟩, ⟨0, none⟩, ⟨0, none⟩, ⟨0, none⟩, ⟨0, none⟩, ⟨0, none⟩, ⟨0, none⟩, ⟨0, none⟩, ⟨0, none⟩, ⟨0, none⟩, ⟨0, none⟩, ⟨0, none⟩, ⟨0, none⟩, ⟨0, none⟩, ⟨0, none⟩, ⟨0, none⟩, ⟨0, none⟩, ⟨0, none⟩, ⟨0, none⟩, ⟨0, none⟩, ⟨0, none⟩, ⟨0, none⟩, ⟨0, none⟩, ⟨0, none⟩, ⟨0, none⟩, ⟨0, none⟩], List.replicate 51 0⟩
theorem f91_l4_eq (run : Run) (n : Nat) (k0 : Nat) (k2 : Nat) (k4 : Nat) (x6_2 : Int) (x7_1 : List UInt8) (x8_1 : Int) (o2_4 : List UInt8) (o3_4 : List AV) (o5_2 : List UInt8) : f91_l4 run n k0 k2 (k4 + 1) x6_2 x7_1 x8_1 o2_4 o3_4 o5_2 =
  bif ltI x8_1 4 then
    bif inR x8_1 x7_1.length then
    bif inR (IntKind.wrap .i64 (IntKind.wrap .i64 (4 * x6_2) + x8_1)) 32 then
    f91_l4 run n k0 k2 k4 x6_2 x7_1 (IntKind.wrap .i64 (x8_1 + 1)) o2_4 o3_4 (o5_2.set (Int.toNat (IntKind.wrap .i64 (IntKind.wrap .i64 (4 * x6_2) + x8_1))) (UInt8.ofNat (Int.toNat ((x7_1.getD (Int.toNat x8_1) 0).toNat : Int))))
  else none
  else none
  else
    f91_l2 run n k0 k2 (IntKind.wrap .i64 (x6_2 + 1)) o2_4 o3_4 o5_2 := by kernel_rfl
theorem f91_l2_eq (run : Run) (n : Nat) (k0 : Nat) (k2 : Nat) (x6_1 : Int) (o2_3 : List UInt8) (o3_3 : List AV) (o5_1 : List UInt8) : f91_l2 run n k0 (k2 + 1) x6_1 o2_3 o3_3 o5_1 =
  bif ltI x6_1 8 then
    bif inR x6_1 8 then
    (run 111 [.int (IntKind.wrap .u64 ((AV.fld (.agg o3_3) (Int.toNat x6_1)).toInt)), .int 4]).bind fun r4 =>
    nilV r4.outs (consV r4.vals fun v4 vs4 =>
    nilV vs4 (f91_l4 run n k0 k2 n x6_1 v4.toStr 0 o2_3 o3_3 o5_1))
  else none
  else
    some ⟨[.blob o5_1], [], f91_fresh⟩ := by kernel_rfl
theorem f91_l0_eq (run : Run) (n : Nat) (k0 : Nat) (x0_1 : List UInt8) (x4_1 : Int) (o2_1 : List UInt8) (o3_1 : List AV) : f91_l0 run n (k0 + 1) x0_1 x4_1 o2_1 o3_1 =
  bif ltI x4_1 (x0_1.length : Int) then
    bif boundsOk x4_1 (IntKind.wrap .i64 (x4_1 + 64)) (x0_1.length : Int) (x0_1.length : Int) then
    (run 110 [.agg o3_1, .str (List.drop (Int.toNat x4_1) (List.take (Int.toNat (IntKind.wrap .i64 (x4_1 + 64))) x0_1))]).bind fun r3 =>
    nilV r3.outs (consV r3.vals fun v3 vs3 =>
    nilV vs3 (f91_l0 run n k0 x0_1 (IntKind.wrap .i64 (x4_1 + 64)) o2_1 v3.toAgg))
  else none
  else
    f91_l2 run n k0 n 0 o2_1 o3_1 (List.replicate 32 0) := by kernel_rfl
noncomputable def f91 (run : Run) (n : Nat) (a0_1 : List UInt8) : Option Res := evalK G run n f91_info.keep 0 f91_info.body (retE G f91_info) (f91_info.start [.str a0_1])
theorem f91_eq (run : Run) (n : Nat) (a0_1 : List UInt8) : f91 run n a0_1 =
  (run 108 []).bind fun r1 =>
    nilV r1.outs (consV r1.vals fun v1 vs1 =>
    nilV vs1 ((run 109 [.int (IntKind.wrap .u64 (a0_1.length : Int))]).bind fun r2 =>
    nilV r2.outs (consV r2.vals fun v2 vs2 =>
    nilV vs2 (bif Nat.ble (a0_1.length + v2.toStr.length) maxLen then
    f91_l0 run n n (a0_1 ++ v2.toStr) 0 (List.replicate 32 0) v1.toAgg
  else none)))) := by kernel_rfl
theorem f91_run (ext : Run) (n : Nat) (a0_1 : List UInt8) : runE G ext (n + 1) 91 [.str a0_1] = f91 (runE G ext n) n a0_1 := runE_succ f91_at f91_in

noncomputable def f88 (run : Run) (n : Nat) (a0_1 : List UInt8) : Option Res := evalK G run n f88_info.keep 0 f88_info.body (retE G f88_info) (f88_info.start [.str a0_1])
theorem f88_eq (run : Run) (n : Nat) (a0_1 : List UInt8) : f88 run n a0_1 =
  (run 104 [.str a0_1]).bind fun r1 =>
    nilV r1.outs (consV r1.vals fun v1 vs1 =>
    nilV vs1 ((run 91 [.str v1.toStr]).bind fun r2 =>
    nilV r2.outs (consV r2.vals fun v2 vs2 =>
    nilV vs2 (some ⟨[.blob v2.toBlob], [], f88_fresh⟩)))) := by kernel_rfl
theorem f88_run (ext : Run) (n : Nat) (a0_1 : List UInt8) : runE G ext (n + 1) 88 [.str a0_1] = f88 (runE G ext n) n a0_1 := runE_succ f88_at f88_in

noncomputable def f63_l0 (run : Run) (n : Nat) (k0 : Nat) (x0_1 : List AV) (x3_1 : List AV) (x4_1 : Int) : Option Res :=
  iterK (evalK G run n f63_keep 0 (sub [1, 1, 0, 1, 0, 0] f63_body)) f63_t0 f63_o0 (blockK 0 (seqK (evalK G run n f63_keep 0 (sub [1, 1, 1] f63_body) (retE G f63_info)) (retE G f63_info))) k0
    ⟨[.val (.slice .str) none (.slice x0_1), .any, .any, .val (.slice (.blob 32)) (some (3, 0)) (.slice x3_1), .val (.int .i64) none (.int x4_1), .any, .any, .any, .any, .any, .any, .any, .any, .any, .any, .any, .any, .any, .any, .any], [⟨0, none⟩, ⟨0, none⟩, ⟨0, none⟩, ⟨0, none⟩, ⟨0, none⟩, ⟨0, none⟩, ⟨0, none⟩, ⟨0, none⟩, ⟨0, none⟩, ⟨0, none⟩, ⟨0, none⟩, ⟨0, none⟩, ⟨0, none⟩, ⟨0, none⟩, ⟨0, none⟩, ⟨0, none⟩, ⟨0, none⟩, ⟨0, none⟩, ⟨0, none⟩, ⟨0, none⟩], List.replicate 20 0⟩
theorem f63_l0_eq (run : Run) (n : Nat) (k0 : Nat) (x0_1 : List AV) (x3_1 : List AV) (x4_1 : Int) : f63_l0 run n (k0 + 1) x0_1 x3_1 x4_1 =
  bif ltI x4_1 (x0_1.length : Int) then
    bif inR x4_1 x0_1.length then
    (run 88 [.str ((nth x0_1 (Int.toNat x4_1)).toStr)]).bind fun r1 =>
    nilV r1.outs (consV r1.vals fun v1 vs1 =>
    nilV vs1 (bif Nat.ble ((x3_1.length + 1) * 32) 140737488355328 then
    f63_l0 run n k0 x0_1 (x3_1 ++ [.blob v1.toBlob]) (IntKind.wrap .i64 (x4_1 + 1))
  else none))
  else none
  else
    some ⟨[.slice x3_1], [], f63_fresh⟩ := by kernel_rfl
noncomputable def f63 (run : Run) (n : Nat) (a0_1 : List AV) : Option Res := evalK G run n f63_info.keep 0 f63_info.body (retE G f63_info) (f63_info.start [.slice a0_1])
theorem f63_eq (run : Run) (n : Nat) (a0_1 : List AV) : f63 run n a0_1 =
  f63_l0 run n n a0_1 [] 0 := by kernel_rfl
theorem f63_run (ext : Run) (n : Nat) (a0_1 : List AV) : runE G ext (n + 1) 63 [.slice a0_1] = f63 (runE G ext n) n a0_1 := runE_succ f63_at f63_in

noncomputable def f90_l0 (run : Run) (n : Nat) (k0 : Nat) (x0_1 : Int) (x3_1 : Int) (x4_1 : Int) : Option Res :=
  iterK (evalK G run n f90_keep 0 (sub [1, 1, 0, 1, 0, 0] f90_body)) f90_t0 f90_o0 (blockK 0 (seqK (evalK G run n f90_keep 0 (sub [1, 1, 1] f90_body) (retE G f90_info)) (retE G f90_info))) k0
    ⟨[.val (.int .i64) none (.int x0_1), .any, .any, .val (.int .i64) none (.int x3_1), .val (.int .i64) none (.int x4_1), .any, .any, .any, .any, .any, .any, .any, .any, .any, .any, .any], [⟨0, none⟩, ⟨0, none⟩, ⟨0, none⟩, ⟨0, none⟩, ⟨0, none⟩, ⟨0, none⟩, ⟨0, none⟩, ⟨0, none⟩, ⟨0, none⟩, ⟨0, none⟩, ⟨0, none⟩, ⟨0, none⟩, ⟨0, none⟩, ⟨0, none⟩, ⟨0, none⟩, ⟨0, none⟩], List.replicate 16 0⟩
theorem f90_l0_eq (run : Run) (n : Nat) (k0 : Nat) (x0_1 : Int) (x3_1 : Int) (x4_1 : Int) : f90_l0 run n (k0 + 1) x0_1 x3_1 x4_1 =
  bif ltI x4_1 x0_1 then
    bif ltI 0 x4_1 then
    f90_l0 run n k0 x0_1 x4_1 (IntKind.wrap .i64 (x4_1 * 2))
  else
    some ⟨[.int x3_1], [], f90_fresh⟩
  else
    some ⟨[.int x3_1], [], f90_fresh⟩ := by kernel_rfl
noncomputable def f90 (run : Run) (n : Nat) (a0_1 : Int) : Option Res := evalK G run n f90_info.keep 0 f90_info.body (retE G f90_info) (f90_info.start [.int a0_1])
theorem f90_eq (run : Run) (n : Nat) (a0_1 : Int) : f90 run n a0_1 =
  f90_l0 run n n a0_1 0 1 := by kernel_rfl
theorem f90_run (ext : Run) (n : Nat) (a0_1 : Int) : runE G ext (n + 1) 90 [.int a0_1] = f90 (runE G ext n) n a0_1 := runE_succ f90_at f90_in

noncomputable def f79_l0 (run : Run) (n : Nat) (k0 : Nat) (x4_1 : Int) (o1_1 : List UInt8) (o5_1 : List AV) : Option Res :=
  iterK (evalK G run n f79_keep 0 (sub [1, 1, 0, 1, 0, 0] f79_body)) f79_t0 f79_o0 (blockK 0 (seqK (evalK G run n f79_keep 0 (sub [1, 1, 1] f79_body) (retE G f79_info)) (retE G f79_info))) k0
    ⟨[.any, .ptr ⟨(.blob 32), 1, 1, []⟩, .any, .ref ⟨(.arr 32 (.int .u8)), 5, 1, []⟩ 0 32, .val (.int .i64) none (.int x4_1), .any, .any, .any, .any, .any, .any, .any, .any, .any, .any, .any, .any, .any], [⟨0, none⟩, ⟨1, some ⟨(.blob 32), .blob o1_1⟩⟩, ⟨0, none⟩, ⟨0, none⟩, ⟨0, none⟩, ⟨1, some ⟨(.arr 32 (.int .u8)), .agg o5_1⟩⟩, ⟨0, none⟩, ⟨0, none⟩, ⟨0, none⟩, ⟨0, none⟩, ⟨0, none⟩, ⟨0, none⟩, ⟨0, none⟩, ⟨0, none⟩, ⟨0, none⟩, ⟨0, none⟩, ⟨0, none⟩, ⟨0, none⟩], List.replicate 18 0⟩
theorem f79_l0_eq (run : Run) (n : Nat) (k0 : Nat) (x4_1 : Int) (o1_1 : List UInt8) (o5_1 : List AV) : f79_l0 run n (k0 + 1) x4_1 o1_1 o5_1 =
  bif ltI x4_1 32 then
    bif inR x4_1 32 then
    bif inR x4_1 32 then
    f79_l0 run n k0 (IntKind.wrap .i64 (x4_1 + 1)) o1_1 (o5_1.set (0 + (Int.toNat x4_1)) (.int (((o1_1).getD (Int.toNat x4_1) 0).toNat : Int)))
  else none
  else none
  else
    some ⟨[.str (bytesOf (List.drop 0 (List.take 32 o5_1)))], [], f79_fresh⟩ := by kernel_rfl
noncomputable def f79 (run : Run) (n : Nat) (a0_1 : List UInt8) : Option Res := evalK G run n f79_info.keep 0 f79_info.body (retE G f79_info) (f79_info.start [.blob a0_1])
theorem f79_eq (run : Run) (n : Nat) (a0_1 : List UInt8) : f79 run n a0_1 =
  f79_l0 run n n 0 a0_1 (List.replicate 32 (.int 0)) := by kernel_rfl
theorem f79_run (ext : Run) (n : Nat) (a0_1 : List UInt8) : runE G ext (n + 1) 79 [.blob a0_1] = f79 (runE G ext n) n a0_1 := runE_succ f79_at f79_in

noncomputable def f113 (run : Run) (n : Nat) (a0_1 : List UInt8) (a1_1 : List UInt8) : Option Res := evalK G run n f113_info.keep 0 f113_info.body (retE G f113_info) (f113_info.start [.blob a0_1, .blob a1_1])
theorem f113_eq (run : Run) (n : Nat) (a0_1 : List UInt8) (a1_1 : List UInt8) : f113 run n a0_1 a1_1 =
  (run 112 [.int 1]).bind fun r1 =>
    nilV r1.outs (consV r1.vals fun v1 vs1 =>
    nilV vs1 ((run 79 [.blob a0_1]).bind fun r2 =>
    nilV r2.outs (consV r2.vals fun v2 vs2 =>
    nilV vs2 (bif Nat.ble (v1.toStr.length + v2.toStr.length) maxLen then
    (run 79 [.blob a1_1]).bind fun r3 =>
    nilV r3.outs (consV r3.vals fun v3 vs3 =>
    nilV vs3 (bif Nat.ble ((v1.toStr ++ v2.toStr).length + v3.toStr.length) maxLen then
    some ⟨[.str ((v1.toStr ++ v2.toStr) ++ v3.toStr)], [], f113_fresh⟩
  else none))
  else none)))) := by kernel_rfl
theorem f113_run (ext : Run) (n : Nat) (a0_1 : List UInt8) (a1_1 : List UInt8) : runE G ext (n + 1) 113 [.blob a0_1, .blob a1_1] = f113 (runE G ext n) n a0_1 a1_1 := runE_succ f113_at f113_in

noncomputable def f93 (run : Run) (n : Nat) (a0_1 : List UInt8) (a1_1 : List UInt8) : Option Res := evalK G run n f93_info.keep 0 f93_info.body (retE G f93_info) (f93_info.start [.blob a0_1, .blob a1_1])
theorem f93_eq (run : Run) (n : Nat) (a0_1 : List UInt8) (a1_1 : List UInt8) : f93 run n a0_1 a1_1 =
  (run 113 [.blob a0_1, .blob a1_1]).bind fun r1 =>
    nilV r1.outs (consV r1.vals fun v1 vs1 =>
    nilV vs1 ((run 91 [.str v1.toStr]).bind fun r2 =>
    nilV r2.outs (consV r2.vals fun v2 vs2 =>
    nilV vs2 (some ⟨[.blob v2.toBlob], [], f93_fresh⟩)))) := by kernel_rfl
theorem f93_run (ext : Run) (n : Nat) (a0_1 : List UInt8) (a1_1 : List UInt8) : runE G ext (n + 1) 93 [.blob a0_1, .blob a1_1] = f93 (runE G ext n) n a0_1 a1_1 := runE_succ f93_at f93_in

noncomputable def f65 (run : Run) (n : Nat) (a0_1 : List AV) : Option Res := evalK G run n f65_info.keep 0 f65_info.body (retE G f65_info) (f65_info.start [.slice a0_1])
theorem f65_eq (run : Run) (n : Nat) (a0_1 : List AV) : f65 run n a0_1 =
  bif eqI (a0_1.length : Int) 0 then
    some ⟨[.blob [0, 0, 0, 0, 0, 0, 0, 0, 0, 0, 0, 0, 0, 0, 0, 0, 0, 0, 0, 0, 0, 0, 0, 0, 0, 0, 0, 0, 0, 0, 0, 0]], [], f65_fresh⟩
  else
    bif eqI (a0_1.length : Int) 1 then
    bif inR 0 a0_1.length then
    some ⟨[.blob ((nth a0_1 0).toBlob)], [], f65_fresh⟩
  else none
  else
    (run 90 [.int (a0_1.length : Int)]).bind fun r1 =>
    nilV r1.outs (consV r1.vals fun v1 vs1 =>
    nilV vs1 (bif boundsOk 0 v1.toInt (a0_1.length : Int) (a0_1.length : Int) && true then
    (run 65 [.slice (List.drop 0 (List.take (Int.toNat v1.toInt) a0_1))]).bind fun r2 =>
    nilV r2.outs (consV r2.vals fun v2 vs2 =>
    nilV vs2 (bif boundsOk v1.toInt (a0_1.length : Int) (a0_1.length : Int) (a0_1.length : Int) && true then
    (run 65 [.slice (List.drop (Int.toNat v1.toInt) (List.take (Int.toNat (a0_1.length : Int)) a0_1))]).bind fun r3 =>
    nilV r3.outs (consV r3.vals fun v3 vs3 =>
    nilV vs3 ((run 93 [.blob v2.toBlob, .blob v3.toBlob]).bind fun r4 =>
    nilV r4.outs (consV r4.vals fun v4 vs4 =>
    nilV vs4 (some ⟨[.blob v4.toBlob], [], f65_fresh⟩))))
  else none))
  else none)) := by kernel_rfl
theorem f65_run (ext : Run) (n : Nat) (a0_1 : List AV) : runE G ext (n + 1) 65 [.slice a0_1] = f65 (runE G ext n) n a0_1 := runE_succ f65_at f65_in

noncomputable def f92 (run : Run) (n : Nat) (a0_1 : Int) (a1_1 : List UInt8) : Option Res := evalK G run n f92_info.keep 0 f92_info.body (retE G f92_info) (f92_info.start [.int a0_1, .blob a1_1])
theorem f92_eq (run : Run) (n : Nat) (a0_1 : Int) (a1_1 : List UInt8) : f92 run n a0_1 a1_1 =
  (run 112 [.int 2]).bind fun r1 =>
    nilV r1.outs (consV r1.vals fun v1 vs1 =>
    nilV vs1 ((run 111 [.int a0_1, .int 8]).bind fun r2 =>
    nilV r2.outs (consV r2.vals fun v2 vs2 =>
    nilV vs2 (bif Nat.ble (v1.toStr.length + v2.toStr.length) maxLen then
    (run 79 [.blob a1_1]).bind fun r3 =>
    nilV r3.outs (consV r3.vals fun v3 vs3 =>
    nilV vs3 (bif Nat.ble ((v1.toStr ++ v2.toStr).length + v3.toStr.length) maxLen then
    some ⟨[.str ((v1.toStr ++ v2.toStr) ++ v3.toStr)], [], f92_fresh⟩
  else none))
  else none)))) := by kernel_rfl
theorem f92_run (ext : Run) (n : Nat) (a0_1 : Int) (a1_1 : List UInt8) : runE G ext (n + 1) 92 [.int a0_1, .blob a1_1] = f92 (runE G ext n) n a0_1 a1_1 := runE_succ f92_at f92_in

noncomputable def f64 (run : Run) (n : Nat) (a0_1 : Int) (a1_1 : List UInt8) : Option Res := evalK G run n f64_info.keep 0 f64_info.body (retE G f64_info) (f64_info.start [.int a0_1, .blob a1_1])
theorem f64_eq (run : Run) (n : Nat) (a0_1 : Int) (a1_1 : List UInt8) : f64 run n a0_1 a1_1 =
  (run 92 [.int a0_1, .blob a1_1]).bind fun r1 =>
    nilV r1.outs (consV r1.vals fun v1 vs1 =>
    nilV vs1 ((run 91 [.str v1.toStr]).bind fun r2 =>
    nilV r2.outs (consV r2.vals fun v2 vs2 =>
    nilV vs2 (some ⟨[.blob v2.toBlob], [], f64_fresh⟩)))) := by kernel_rfl
theorem f64_run (ext : Run) (n : Nat) (a0_1 : Int) (a1_1 : List UInt8) : runE G ext (n + 1) 64 [.int a0_1, .blob a1_1] = f64 (runE G ext n) n a0_1 a1_1 := runE_succ f64_at f64_in

noncomputable def f21 (run : Run) (n : Nat) (a0_1 : List AV) : Option Res := evalK G run n f21_info.keep 0 f21_info.body (retE G f21_info) (f21_info.start [.slice a0_1])
theorem f21_eq (run : Run) (n : Nat) (a0_1 : List AV) : f21 run n a0_1 =
  (run 63 [.slice a0_1]).bind fun r1 =>
    bif r1.fresh then
    nilV r1.outs (consV r1.vals fun v1 vs1 =>
    nilV vs1 ((run 65 [.slice v1.toSlice]).bind fun r2 =>
    nilV r2.outs (consV r2.vals fun v2 vs2 =>
    nilV vs2 ((run 64 [.int (IntKind.wrap .u64 (a0_1.length : Int)), .blob v2.toBlob]).bind fun r3 =>
    nilV r3.outs (consV r3.vals fun v3 vs3 =>
    nilV vs3 (some ⟨[.blob v3.toBlob], [], f21_fresh⟩))))))
  else none := by kernel_rfl
theorem f21_run (ext : Run) (n : Nat) (a0_1 : List AV) : runE G ext (n + 1) 21 [.slice a0_1] = f21 (runE G ext n) n a0_1 := runE_succ f21_at f21_in

noncomputable def f73 (run : Run) (n : Nat) (a0_1 : Int) (a1_1 : Int) : Option Res := evalK G run n f73_info.keep 0 f73_info.body (retE G f73_info) (f73_info.start [.int a0_1, .int a1_1])
theorem f73_eq (run : Run) (n : Nat) (a0_1 : Int) (a1_1 : Int) : f73 run n a0_1 a1_1 =
  bif ltI a1_1 0 then
    some ⟨[.int (-1)], [], f73_fresh⟩
  else
    bif leI a0_1 a1_1 then
    some ⟨[.int (-1)], [], f73_fresh⟩
  else
    (run 71 [.int a0_1, .int a1_1]).bind fun r1 =>
    bif r1.fresh then
    nilV r1.outs (consV r1.vals fun v1 vs1 =>
    nilV vs1 (some ⟨[.int (v1.toSlice.length : Int)], [], f73_fresh⟩))
  else none := by kernel_rfl
theorem f73_run (ext : Run) (n : Nat) (a0_1 : Int) (a1_1 : Int) : runE G ext (n + 1) 73 [.int a0_1, .int a1_1] = f73 (runE G ext n) n a0_1 a1_1 := runE_succ f73_at f73_in

noncomputable def f33 (run : Run) (n : Nat) (a0_1 : Int) (a0_2 : Int) (a0_3 : List AV) : Option Res := evalK G run n f33_info.keep 0 f33_info.body (retE G f33_info) (f33_info.start [.agg [.int a0_1, .int a0_2, .slice a0_3]])
theorem f33_eq (run : Run) (n : Nat) (a0_1 : Int) (a0_2 : Int) (a0_3 : List AV) : f33 run n a0_1 a0_2 a0_3 =
  bif ltI a0_2 1 then
    some ⟨[.int 3], [], f33_fresh⟩
  else
    bif ltI 1048576 a0_2 then
    some ⟨[.int 3], [], f33_fresh⟩
  else
    bif ltI a0_1 0 then
    some ⟨[.int 3], [], f33_fresh⟩
  else
    bif leI a0_2 a0_1 then
    some ⟨[.int 3], [], f33_fresh⟩
  else
    (run 73 [.int a0_2, .int a0_1]).bind fun r1 =>
    nilV r1.outs (consV r1.vals fun v1 vs1 =>
    nilV vs1 (bif !(eqI (a0_3.length : Int) v1.toInt) then
    some ⟨[.int 2], [], f33_fresh⟩
  else
    some ⟨[.int 0], [], f33_fresh⟩)) := by kernel_rfl
theorem f33_run (ext : Run) (n : Nat) (a0_1 : Int) (a0_2 : Int) (a0_3 : List AV) : runE G ext (n + 1) 33 [.agg [.int a0_1, .int a0_2, .slice a0_3]] = f33 (runE G ext n) n a0_1 a0_2 a0_3 := runE_succ f33_at f33_in

noncomputable def f101 (run : Run) (n : Nat) (a0_1 : Int) (a1_1 : List AV) : Option Res := evalK G run n f101_info.keep 0 f101_info.body (retE G f101_info) (f101_info.start [.int a0_1, .slice a1_1])
theorem f101_eq (run : Run) (n : Nat) (a0_1 : Int) (a1_1 : List AV) : f101 run n a0_1 a1_1 =
  (run 116 [.slice a1_1, .str []]).bind fun r1 =>
    nilV r1.outs (consV r1.vals fun v1 vs1 =>
    nilV vs1 (bif Nat.ble ((bytesOf [.int a0_1]).length + v1.toStr.length) maxLen then
    some ⟨[.str ((bytesOf [.int a0_1]) ++ v1.toStr)], [], f101_fresh⟩
  else none)) := by kernel_rfl
theorem f101_run (ext : Run) (n : Nat) (a0_1 : Int) (a1_1 : List AV) : runE G ext (n + 1) 101 [.int a0_1, .slice a1_1] = f101 (runE G ext n) n a0_1 a1_1 := runE_succ f101_at f101_in

noncomputable def f82 (run : Run) (n : Nat) (a0_1 : List UInt8) : Option Res := evalK G run n f82_info.keep 0 f82_info.body (retE G f82_info) (f82_info.start [.str a0_1])
theorem f82_eq (run : Run) (n : Nat) (a0_1 : List UInt8) : f82 run n a0_1 =
  (run 101 [.int 0, .slice [.str a0_1]]).bind fun r1 =>
    nilV r1.outs (consV r1.vals fun v1 vs1 =>
    nilV vs1 (some ⟨[.str v1.toStr], [], f82_fresh⟩)) := by kernel_rfl
theorem f82_run (ext : Run) (n : Nat) (a0_1 : List UInt8) : runE G ext (n + 1) 82 [.str a0_1] = f82 (runE G ext n) n a0_1 := runE_succ f82_at f82_in

noncomputable def f105 (run : Run) (n : Nat) : Option Res := evalK G run n f105_info.keep 0 f105_info.body (retE G f105_info) (f105_info.start [])
theorem f105_eq (run : Run) (n : Nat) : f105 run n  =
  some ⟨[.agg [.agg (List.replicate 8 (.int 0)), .str [], .int 0, .bool false]], [], f105_fresh⟩ := by kernel_rfl
theorem f105_run (ext : Run) (n : Nat) : runE G ext (n + 1) 105 [] = f105 (runE G ext n) n  := runE_succ f105_at f105_in

noncomputable def f119 (run : Run) (n : Nat) : Option Res := evalK G run n f119_info.keep 0 f119_info.body (retE G f119_info) (f119_info.start [])
theorem f119_eq (run : Run) (n : Nat) : f119 run n  =
  some ⟨[.agg [.int 1779033703, .int 3144134277, .int 1013904242, .int 2773480762, .int 1359893119, .int 2600822924, .int 528734635, .int 1541459225]], [], f119_fresh⟩ := by kernel_rfl
theorem f119_run (ext : Run) (n : Nat) : runE G ext (n + 1) 119 [] = f119 (runE G ext n) n  := runE_succ f119_at f119_in

noncomputable def f141_l0 (run : Run) (n : Nat) (k0 : Nat) (x0_1 : List UInt8) (x1_1 : Int) (x7_1 : Int) (x9_1 : Int) (x10_1 : Int) : Option Res :=
  iterK (evalK G run n f141_keep 0 (sub [1, 1, 0, 1, 0, 0] f141_body)) f141_t0 f141_o0 (blockK 0 (seqK (evalK G run n f141_keep 0 (sub [1, 1, 1] f141_body) (retE G f141_info)) (retE G f141_info))) k0
    ⟨[.val .str none (.str x0_1), .val (.int .i64) none (.int x1_1), .any, .any, .any, .any, .any, .val (.int .u64) none (.int x7_1), .any, .val (.int .i64) none (.int x9_1), .val (.int .i64) none (.int x10_1), .any, .any, .any, .any, .any, .any, .any, .any, .any, .any, .any, .any, .any, .any, .any, .any, .any, .any, .any, .any, .any, .any, .any, .any, .any, .any, .any, .any, .any, .any], [⟨0, none⟩, ⟨0, none⟩, ⟨0, none⟩, ⟨0, none⟩, ⟨0, none⟩, ⟨0, none⟩, ⟨0, none⟩, ⟨0, none⟩, ⟨0, none⟩, ⟨0, none⟩, ⟨0, none⟩, ⟨0, none⟩, ⟨0, none⟩, ⟨0, none⟩, ⟨0, none⟩, ⟨0, none⟩, ⟨0, none⟩, ⟨0, none⟩, ⟨0, none⟩, ⟨0, none⟩, ⟨0, none⟩, ⟨0, none⟩, ⟨0, none⟩, ⟨0, none⟩, ⟨0, none⟩, ⟨0, none⟩, ⟨0, none⟩, ⟨0, none⟩, ⟨0, none⟩, ⟨0, none⟩, ⟨0, none⟩, ⟨0, none⟩, ⟨0, none⟩, ⟨0, none⟩, ⟨0, none⟩, ⟨0, none⟩, ⟨0, none⟩, ⟨0, none⟩, ⟨0, none⟩, ⟨0, none⟩, ⟨0, none⟩], List.replicate 41 0⟩
theorem f141_l0_eq (run : Run) (n : Nat) (k0 : Nat) (x0_1 : List UInt8) (x1_1 : Int) (x7_1 : Int) (x9_1 : Int) (x10_1 : Int) : f141_l0 run n (k0 + 1) x0_1 x1_1 x7_1 x9_1 x10_1 =
  bif ltI x10_1 x9_1 then
    bif leI 0 x1_1 then
    bif ltI x1_1 (x0_1.length : Int) then
    bif ltI x10_1 (IntKind.wrap .i64 ((x0_1.length : Int) - x1_1)) then
    bif inR (IntKind.wrap .i64 (x1_1 + x10_1)) x0_1.length then
    f141_l0 run n k0 x0_1 x1_1 (IntKind.wrap .u64 (BitVec.toNat (BitVec.ofInt 64 (IntKind.wrap .u64 (x7_1 * 2 ^ 8)) ||| BitVec.ofInt 64 (IntKind.wrap .u64 ((x0_1.getD (Int.toNat (IntKind.wrap .i64 (x1_1 + x10_1))) 0).toNat : Int))))) x9_1 (IntKind.wrap .i64 (x10_1 + 1))
  else none
  else
    f141_l0 run n k0 x0_1 x1_1 (IntKind.wrap .u64 (x7_1 * 2 ^ 8)) x9_1 (IntKind.wrap .i64 (x10_1 + 1))
  else
    f141_l0 run n k0 x0_1 x1_1 (IntKind.wrap .u64 (x7_1 * 2 ^ 8)) x9_1 (IntKind.wrap .i64 (x10_1 + 1))
  else
    f141_l0 run n k0 x0_1 x1_1 (IntKind.wrap .u64 (x7_1 * 2 ^ 8)) x9_1 (IntKind.wrap .i64 (x10_1 + 1))
  else
    some ⟨[.int x7_1], [], f141_fresh⟩ := by kernel_rfl
noncomputable def f141 (run : Run) (n : Nat) (a0_1 : List UInt8) (a1_1 : Int) (a2_1 : Int) : Option Res := evalK G run n f141_info.keep 0 f141_info.body (retE G f141_info) (f141_info.start [.str a0_1, .int a1_1, .int a2_1])
theorem f141_eq (run : Run) (n : Nat) (a0_1 : List UInt8) (a1_1 : Int) (a2_1 : Int) : f141 run n a0_1 a1_1 a2_1 =
  f141_l0 run n n a0_1 a1_1 0 a2_1 0 := by kernel_rfl
theorem f141_run (ext : Run) (n : Nat) (a0_1 : List UInt8) (a1_1 : Int) (a2_1 : Int) : runE G ext (n + 1) 141 [.str a0_1, .int a1_1, .int a2_1] = f141 (runE G ext n) n a0_1 a1_1 a2_1 := runE_succ f141_at f141_in

noncomputable def f135 (run : Run) (n : Nat) (a0_1 : List UInt8) (a1_1 : Int) : Option Res := evalK G run n f135_info.keep 0 f135_info.body (retE G f135_info) (f135_info.start [.str a0_1, .int a1_1])
theorem f135_eq (run : Run) (n : Nat) (a0_1 : List UInt8) (a1_1 : Int) : f135 run n a0_1 a1_1 =
  (run 141 [.str a0_1, .int a1_1, .int 4]).bind fun r1 =>
    nilV r1.outs (consV r1.vals fun v1 vs1 =>
    nilV vs1 (some ⟨[.int (IntKind.wrap .u32 v1.toInt)], [], f135_fresh⟩)) := by kernel_rfl
theorem f135_run (ext : Run) (n : Nat) (a0_1 : List UInt8) (a1_1 : Int) : runE G ext (n + 1) 135 [.str a0_1, .int a1_1] = f135 (runE G ext n) n a0_1 a1_1 := runE_succ f135_at f135_in

noncomputable def f130 (run : Run) (n : Nat) (a0_1 : Int) (a1_1 : Int) : Option Res := evalK G run n f130_info.keep 0 f130_info.body (retE G f130_info) (f130_info.start [.int a0_1, .int a1_1])
theorem f130_eq (run : Run) (n : Nat) (a0_1 : Int) (a1_1 : Int) : f130 run n a0_1 a1_1 =
  bif leI 0 (IntKind.wrap .u64 (BitVec.toNat (BitVec.ofInt 64 (IntKind.wrap .u64 a1_1) &&& BitVec.ofInt 64 31))) then
    bif leI 0 (IntKind.wrap .u64 (32 - IntKind.wrap .u64 (BitVec.toNat (BitVec.ofInt 64 (IntKind.wrap .u64 a1_1) &&& BitVec.ofInt 64 31)))) then
    some ⟨[.int (IntKind.wrap .u32 (BitVec.toNat (BitVec.ofInt 32 (Int.fdiv a0_1 (2 ^ (min (Int.toNat (IntKind.wrap .u64 (BitVec.toNat (BitVec.ofInt 64 (IntKind.wrap .u64 a1_1) &&& BitVec.ofInt 64 31)))) 32))) ||| BitVec.ofInt 32 (IntKind.wrap .u32 (a0_1 * 2 ^ (min (Int.toNat (IntKind.wrap .u64 (32 - IntKind.wrap .u64 (BitVec.toNat (BitVec.ofInt 64 (IntKind.wrap .u64 a1_1) &&& BitVec.ofInt 64 31))))) 32))))))], [], f130_fresh⟩
  else none
  else none := by kernel_rfl
theorem f130_run (ext : Run) (n : Nat) (a0_1 : Int) (a1_1 : Int) : runE G ext (n + 1) 130 [.int a0_1, .int a1_1] = f130 (runE G ext n) n a0_1 a1_1 := runE_succ f130_at f130_in

noncomputable def f128_l0 (run : Run) (n : Nat) (k0 : Nat) (x0_1 : List UInt8) (x9_1 : Int) (o2_1 : List AV) (o3_1 : List AV) : Option Res :=
  iterK (evalK G run n f128_keep 0 (sub [1, 1, 0, 1, 0, 0] f128_body)) f128_t0 f128_o0 (blockK 0 (seqK (evalK G run n f128_keep 0 (sub [1, 1, 1] f128_body) (retE G f128_info)) (retE G f128_info))) k0
    ⟨[.val .str none (.str x0_1), .any, .ptr ⟨(.arr 64 (.int .u32)), 2, 1, []⟩, .ptr ⟨(.arr 64 (.int .u32)), 3, 1, []⟩, .any, .any, .any, .any, .any, .val (.int .i64) none (.int x9_1), .any, .any, .any, .any, .any, .any, .any, .any, .any, .any, .any, .any, .any, .any, .any, .any, .any, .any, .any, .any, .any, .any, .any, .any, .any, .any, .any, .any, .any, .any, .any, .any, .any, .any, .any, .any, .any, .any, .any, .any, .any, .any, .any, .any, .any, .any, .any, .any, .any, .any, .any], [⟨0, none⟩, ⟨0, none⟩, ⟨1, some ⟨(.arr 64 (.int .u32)), .agg o2_1⟩⟩, ⟨1, some ⟨(.arr 64 (.int .u32)), .agg o3_1⟩⟩, ⟨0, none⟩, ⟨0, none⟩, ⟨0, none⟩, ⟨0, none⟩, ⟨0, none⟩, ⟨0, none⟩, ⟨0, none⟩, ⟨0, none⟩, ⟨0, none⟩, ⟨0, none⟩, ⟨0, none⟩, ⟨0, none⟩, ⟨0, none⟩, ⟨0, none⟩, ⟨0, none⟩, ⟨0, none⟩, ⟨0, none⟩, ⟨0, none⟩, ⟨0, none⟩, ⟨0, none⟩, ⟨0, none⟩, ⟨0, none⟩, ⟨0, none⟩, ⟨0, none⟩, ⟨0, none⟩, ⟨0, none⟩, ⟨0, none⟩, ⟨0, none⟩, ⟨0, none⟩, ⟨0, none⟩, ⟨0, none⟩, ⟨0, none⟩, ⟨0, none⟩, ⟨0, none⟩, ⟨0, none⟩, ⟨0, none⟩, ⟨0, none⟩, ⟨0, none⟩, ⟨0, none⟩, ⟨0, none⟩, ⟨0, none⟩, ⟨0, none⟩, ⟨0, none⟩, ⟨0, none⟩, ⟨0, none⟩, ⟨0, none⟩, ⟨0, none⟩, ⟨0, none⟩, ⟨0, none⟩, ⟨0, none⟩, ⟨0, none⟩, ⟨0, none⟩, ⟨0, none⟩, ⟨0, none⟩, ⟨0, none⟩, ⟨0, none⟩, ⟨0, none⟩], List.replicate 61 0⟩
theorem f128_l0_eq (run : Run) (n : Nat) (k0 : Nat) (x0_1 : List UInt8) (x9_1 : Int) (o2_1 : List AV) (o3_1 : List AV) : f128_l0 run n (k0 + 1) x0_1 x9_1 o2_1 o3_1 =
  bif ltI x9_1 64 then
    bif ltI x9_1 16 then
    (run 135 [.str x0_1, .int (IntKind.wrap .i64 (4 * x9_1))]).bind fun r1 =>
    nilV r1.outs (consV r1.vals fun v1 vs1 =>
    nilV vs1 (bif inR x9_1 64 then
    f128_l0 run n k0 x0_1 (IntKind.wrap .i64 (x9_1 + 1)) o2_1 (o3_1.set (Int.toNat x9_1) (.int v1.toInt))
  else none))
  else
    bif inR (IntKind.wrap .i64 (x9_1 - 15)) 64 then
    bif inR (IntKind.wrap .i64 (x9_1 - 2)) 64 then
    (run 130 [.int ((AV.fld (.agg o3_1) (Int.toNat (IntKind.wrap .i64 (x9_1 - 15)))).toInt), .int 7]).bind fun r2 =>
    nilV r2.outs (consV r2.vals fun v2 vs2 =>
    nilV vs2 ((run 130 [.int ((AV.fld (.agg o3_1) (Int.toNat (IntKind.wrap .i64 (x9_1 - 15)))).toInt), .int 18]).bind fun r3 =>
    nilV r3.outs (consV r3.vals fun v3 vs3 =>
    nilV vs3 ((run 130 [.int ((AV.fld (.agg o3_1) (Int.toNat (IntKind.wrap .i64 (x9_1 - 2)))).toInt), .int 17]).bind fun r4 =>
    nilV r4.outs (consV r4.vals fun v4 vs4 =>
    nilV vs4 ((run 130 [.int ((AV.fld (.agg o3_1) (Int.toNat (IntKind.wrap .i64 (x9_1 - 2)))).toInt), .int 19]).bind fun r5 =>
    nilV r5.outs (consV r5.vals fun v5 vs5 =>
    nilV vs5 (bif inR (IntKind.wrap .i64 (x9_1 - 16)) 64 then
    bif inR (IntKind.wrap .i64 (x9_1 - 7)) 64 then
    bif inR x9_1 64 then
    f128_l0 run n k0 x0_1 (IntKind.wrap .i64 (x9_1 + 1)) o2_1 (o3_1.set (Int.toNat x9_1) (.int (IntKind.wrap .u32 (IntKind.wrap .u32 (IntKind.wrap .u32 ((AV.fld (.agg o3_1) (Int.toNat (IntKind.wrap .i64 (x9_1 - 16)))).toInt + IntKind.wrap .u32 (BitVec.toNat (BitVec.ofInt 32 (IntKind.wrap .u32 (BitVec.toNat (BitVec.ofInt 32 v2.toInt ^^^ BitVec.ofInt 32 v3.toInt))) ^^^ BitVec.ofInt 32 (Int.fdiv ((AV.fld (.agg o3_1) (Int.toNat (IntKind.wrap .i64 (x9_1 - 15)))).toInt) (2 ^ 3))))) + (AV.fld (.agg o3_1) (Int.toNat (IntKind.wrap .i64 (x9_1 - 7)))).toInt) + IntKind.wrap .u32 (BitVec.toNat (BitVec.ofInt 32 (IntKind.wrap .u32 (BitVec.toNat (BitVec.ofInt 32 v4.toInt ^^^ BitVec.ofInt 32 v5.toInt))) ^^^ BitVec.ofInt 32 (Int.fdiv ((AV.fld (.agg o3_1) (Int.toNat (IntKind.wrap .i64 (x9_1 - 2)))).toInt) (2 ^ 10))))))))
  else none
  else none
  else none))))))))
  else none
  else none
  else
    some ⟨[.agg o3_1], [], f128_fresh⟩ := by kernel_rfl
noncomputable def f128 (run : Run) (n : Nat) (a0_1 : List UInt8) : Option Res := evalK G run n f128_info.keep 0 f128_info.body (retE G f128_info) (f128_info.start [.str a0_1])
theorem f128_eq (run : Run) (n : Nat) (a0_1 : List UInt8) : f128 run n a0_1 =
  f128_l0 run n n a0_1 0 (List.replicate 64 (.int 0)) (List.replicate 64 (.int 0)) := by kernel_rfl
theorem f128_run (ext : Run) (n : Nat) (a0_1 : List UInt8) : runE G ext (n + 1) 128 [.str a0_1] = f128 (runE G ext n) n a0_1 := runE_succ f128_at f128_in

noncomputable def f129 (run : Run) (n : Nat) : Option Res := evalK G run n f129_info.keep 0 f129_info.body (retE G f129_info) (f129_info.start [])
theorem f129_eq (run : Run) (n : Nat) : f129 run n  =
  some ⟨[.agg [.int 1116352408, .int 1899447441, .int 3049323471, .int 3921009573, .int 961987163, .int 1508970993, .int 2453635748, .int 2870763221, .int 3624381080, .int 310598401, .int 607225278, .int 1426881987, .int 1925078388, .int 2162078206, .int 2614888103, .int 3248222580, .int 3835390401, .int 4022224774, .int 264347078, .int 604807628, .int 770255983, .int 1249150122, .int 1555081692, .int 1996064986, .int 2554220882, .int 2821834349, .int 2952996808, .int 3210313671, .int 3336571891, .int 3584528711, .int 113926993, .int 338241895, .int 666307205, .int 773529912, .int 1294757372, .int 1396182291, .int 1695183700, .int 1986661051, .int 2177026350, .int 2456956037, .int 2730485921, .int 2820302411, .int 3259730800, .int 3345764771, .int 3516065817, .int 3600352804, .int 4094571909, .int 275423344, .int 430227734, .int 506948616, .int 659060556, .int 883997877, .int 958139571, .int 1322822218, .int 1537002063, .int 1747873779, .int 1955562222, .int 2024104815, .int 2227730452, .int 2361852424, .int 2428436474, .int 2756734187, .int 3204031479, .int 3329325298]], [], f129_fresh⟩ := by kernel_rfl
theorem f129_run (ext : Run) (n : Nat) : runE G ext (n + 1) 129 [] = f129 (runE G ext n) n  := runE_succ f129_at f129_in

noncomputable def f120_l2 (run : Run) (n : Nat) (_k0 : Nat) (k2 : Nat) (x109_1 : Int) (o2_3 : List AV) (o4_3 : List AV) (o7_3 : List AV) : Option Res :=
  iterK (evalK G run n f120_keep 2 (sub [1, 1, 1, 1, 0, 1, 0, 0] f120_body)) f120_t2 f120_o2 (blockK 2 (seqK (evalK G run n f120_keep 0 (sub [1, 1, 1, 1, 1] f120_body) (retE G f120_info)) (retE G f120_info))) k2
    ⟨[.any, .any, .ptr ⟨(.arr 8 (.int .u32)), 2, 1, []⟩, .any, .ptr ⟨(.arr 8 (.int .u32)), 4, 1, []⟩, .any, .any, .ptr ⟨(.arr 8 (.int .u32)), 7, 1, []⟩, .any, .any, .any, .any, .any, .any, .any, .any, .any, .any, .any, .any, .any, .any, .any, .any, .any, .any, .any, .any, .any, .any, .any, .any, .any, .any, .any, .any, .any, .any, .any, .any, .any, .any, .any, .any, .any, .any, .any, .any, .any, .any, .any, .any, .any, .any, .any, .any, .any, .any, .any, .any, .any, .any, .any, .any, .any, .any, .any, .any, .any, .any, .any, .any, .any, .any, .any, .any, .any, .any, .any, .any, .any, .any, .any, .any, .any, .any, .any, .any, .any, .any, .any, .any, .any, .any, .any, .any, .any, .any, .any, .any, .any, .any, .any, .any, .any, .any, .any, .any, .any, .val (.int .i64) none (.int x109_1), .any, .any, .any, .any, .any, .any, .any, .any, .any, .any, .any, .any], [⟨0, none⟩, ⟨0, none⟩, ⟨1, some ⟨(.arr 8 (.int .u32)), .agg o2_3⟩⟩, ⟨0, none⟩, ⟨1, some ⟨(.arr 8 (.int .u32)), .agg o4_3⟩⟩, ⟨0, none⟩, ⟨0, none⟩, ⟨1, some ⟨(.arr 8 (.int .u32)), .agg o7_3⟩⟩, ⟨0, none⟩, ⟨0, none⟩, ⟨0, none⟩, ⟨0, none⟩, ⟨0, none⟩, ⟨0, none⟩, ⟨0, none⟩, ⟨0, none⟩, ⟨0, none⟩, ⟨0, none⟩, ⟨0, none⟩, ⟨0, none⟩, ⟨0, none⟩, ⟨0, none⟩, ⟨0, none⟩, ⟨0, none⟩, ⟨0, none⟩, ⟨0, none⟩, ⟨0, none⟩, ⟨0, none⟩, ⟨0, none⟩, ⟨0, none⟩, ⟨0, none⟩, ⟨0, none⟩, ⟨0, none⟩, ⟨0, none⟩, ⟨0, none⟩, ⟨0, none⟩, ⟨0, none⟩, ⟨0, none⟩, ⟨0, none⟩, ⟨0, none⟩, ⟨0, none⟩, ⟨0, none⟩, ⟨0, none⟩, ⟨0, none⟩, ⟨0, none⟩, ⟨0, none⟩, ⟨0, none⟩, ⟨0, none⟩, ⟨0, none⟩, ⟨0, none⟩, ⟨0, none⟩, ⟨0, none⟩, ⟨0, none⟩, ⟨0, none⟩, ⟨0, none⟩, ⟨0, none⟩, ⟨0, none⟩, ⟨0, none⟩, ⟨0, none⟩, ⟨0, none⟩, ⟨0, none⟩, ⟨0, none⟩, ⟨0, none⟩, ⟨0, none⟩, ⟨0, none⟩, ⟨0, none⟩, ⟨0, none⟩, ⟨0, none⟩, ⟨0, none⟩, ⟨0, none⟩, ⟨0, none⟩, ⟨0, none⟩, ⟨0, none⟩, ⟨0, none⟩, ⟨0, none⟩, ⟨0, none⟩, ⟨0, none⟩, ⟨0, none⟩, ⟨0, none⟩, ⟨0, none⟩, ⟨0, none⟩, ⟨0, none⟩, ⟨0, none⟩, ⟨0, none⟩, ⟨0, none⟩, ⟨0, none⟩, ⟨0, none⟩, ⟨0, none⟩, ⟨0, none⟩, ⟨0, none⟩, ⟨0, none⟩, ⟨0, none⟩, ⟨0, none⟩, ⟨0, none⟩, ⟨0, none⟩, ⟨0, none⟩, ⟨0, none⟩, ⟨0, none⟩, ⟨0, none⟩, ⟨0, none⟩, ⟨0, none⟩, ⟨0, none⟩, ⟨0, none⟩, ⟨0, none⟩, ⟨0, none⟩, ⟨0, none⟩, ⟨0, none⟩, ⟨0, none⟩, ⟨0, none⟩, ⟨0, none⟩, ⟨0, none⟩, ⟨0, none⟩, ⟨0, none⟩, ⟨0, none⟩, ⟨0, none⟩, ⟨0, none⟩, ⟨0, none⟩, ⟨0, none⟩, ⟨0, none⟩, ⟨0, none⟩, ⟨0, none⟩, ⟨0, none⟩], List.replicate 122 0⟩
noncomputable def f120_l0 (run : Run) (n : Nat) (k0 : Nat) (x18_1 : Int) (o2_1 : List AV) (o4_1 : List AV) (o5_1 : List AV) (o6_1 : List AV) (o7_1 : List AV) : Option Res :=
  iterK (evalK G run n f120_keep 0 (sub [1, 1, 1, 0, 1, 0, 0] f120_body)) f120_t0 f120_o0 (blockK 0 (seqK (evalK G run n f120_keep 0 (sub [1, 1, 1, 1] f120_body) (retE G f120_info)) (retE G f120_info))) k0
    ⟨[.any, .any, .ptr ⟨(.arr 8 (.int .u32)), 2, 1, []⟩, .any, .ptr ⟨(.arr 8 (.int .u32)), 4, 1, []⟩, .ptr ⟨(.arr 64 (.int .u32)), 5, 1, []⟩, .ptr ⟨(.arr 64 (.int .u32)), 6, 1, []⟩, .ptr ⟨(.arr 8 (.int .u32)), 7, 1, []⟩, .any, .any, .any, .any, .any, .any, .any, .any, .any, .any, .val (.int .i64) none (.int x18_1), .any, .any, .any, .any, .any, .any, .any, .any, .any, .any, .any, .any, .any, .any, .any, .any, .any, .any, .any, .any, .any, .any, .any, .any, .any, .any, .any, .any, .any, .any, .any, .any, .any, .any, .any, .any, .any, .any, .any, .any, .any, .any, .any, .any, .any, .any, .any, .any, .any, .any, .any, .any, .any, .any, .any, .any, .any, .any, .any, .any, .any, .any, .any, .any, .any, .any, .any, .any, .any, .any, .any, .any, .any, .any, .any, .any, .any, .any, .any, .any, .any, .any, .any, .any, .any, .any, .any, .any, .any, .any, .any, .any, .any, .any, .any, .any, .any, .any, .any, .any, .any, .any, .any], [⟨0, none⟩, ⟨0, none⟩, ⟨1, some ⟨(.arr 8 (.int .u32)), .agg o2_1⟩⟩, ⟨0, none⟩, ⟨1, some ⟨(.arr 8 (.int .u32)), .agg o4_1⟩⟩, ⟨1, some ⟨(.arr 64 (.int .u32)), .agg o5_1⟩⟩, ⟨1, some ⟨(.arr 64 (.int .u32)), .agg o6_1⟩⟩, ⟨1, some ⟨(.arr 8 (.int .u32)), .agg o7_1⟩⟩, ⟨0, none⟩, ⟨0, none⟩, ⟨0, none⟩, ⟨0, none⟩, ⟨0, none⟩, ⟨0, none⟩, ⟨0, none⟩, ⟨0, none⟩, ⟨0, none⟩, ⟨0, none⟩, ⟨0, none⟩, ⟨0, none⟩, ⟨0, none⟩, ⟨0, none⟩, ⟨0, none⟩, ⟨0, none⟩, ⟨0, none⟩, ⟨0, none⟩, ⟨0, none⟩, ⟨0, none⟩, ⟨0, none⟩, ⟨0, none⟩, ⟨0, none⟩, ⟨0, none⟩, ⟨0, none⟩, ⟨0, none⟩, ⟨0, none⟩, ⟨0, none⟩, ⟨0, none⟩, ⟨0, none⟩, ⟨0, none⟩, ⟨0, none⟩, ⟨0, none⟩, ⟨0, none⟩, ⟨0, none⟩, ⟨0, none⟩, ⟨0, none⟩, ⟨0, none⟩, ⟨0, none⟩, ⟨0, none⟩, ⟨0, none⟩, ⟨0, none⟩, ⟨0, none⟩, ⟨0, none⟩, ⟨0, none⟩, ⟨0, none⟩, ⟨0, none⟩, ⟨0, none⟩, ⟨0, none⟩, ⟨0, none⟩, ⟨0, none⟩, ⟨0, none⟩, ⟨0, none⟩, ⟨0, none⟩, ⟨0, none⟩, ⟨0, none⟩, ⟨0, none⟩, ⟨0, none⟩, ⟨0, none⟩, ⟨0, none⟩, ⟨0, none⟩, ⟨0, none⟩, ⟨0, none⟩, ⟨0, none⟩, ⟨0, none⟩, ⟨0, none⟩, ⟨0, none⟩, ⟨0, none⟩, ⟨0, none⟩, ⟨0, none⟩, ⟨0, none⟩, ⟨0, none⟩, ⟨0, none⟩, ⟨0, none⟩, ⟨0, none⟩, ⟨0, none⟩, ⟨0, none⟩, ⟨0, none⟩, ⟨0, none⟩, ⟨0, none⟩, ⟨0, none⟩, ⟨0, none⟩, ⟨0, none⟩, ⟨0, none⟩, ⟨0, none⟩, ⟨0, none⟩, ⟨0, none⟩, ⟨0, none⟩, ⟨0, none⟩, ⟨0, none⟩, ⟨0, none⟩, ⟨0, none⟩, ⟨0, none⟩, ⟨0, none⟩, ⟨0, none⟩, ⟨0, none⟩, ⟨0, none⟩, ⟨0, none⟩, ⟨0, none⟩, ⟨0, none⟩, ⟨0, none⟩, ⟨0, none⟩, ⟨0, none⟩, ⟨0, none⟩, ⟨0, none⟩, ⟨0, none⟩, ⟨0, none⟩, ⟨0, none⟩, ⟨0, none⟩, ⟨0, none⟩, ⟨0, none⟩, ⟨0, none⟩, ⟨0, none⟩, ⟨0, none⟩], List.replicate 122 0⟩
theorem f120_l2_eq (run : Run) (n : Nat) (k0 : Nat) (k2 : Nat) (x109_1 : Int) (o2_3 : List AV) (o4_3 : List AV) (o7_3 : List AV) : f120_l2 run n k0 (k2 + 1) x109_1 o2_3 o4_3 o7_3 =
  bif ltI x109_1 8 then
    bif inR x109_1 8 then
    bif inR x109_1 8 then
    bif inR x109_1 8 then
    f120_l2 run n k0 k2 (IntKind.wrap .i64 (x109_1 + 1)) (o2_3.set (Int.toNat x109_1) (.int (IntKind.wrap .u32 ((AV.fld (.agg o2_3) (Int.toNat x109_1)).toInt + (AV.fld (.agg o7_3) (Int.toNat x109_1)).toInt)))) o4_3 o7_3
  else none
  else none
  else none
  else
    some ⟨[.agg o2_3], [], f120_fresh⟩ := by kernel_rfl
theorem f120_l0_eq (run : Run) (n : Nat) (k0 : Nat) (x18_1 : Int) (o2_1 : List AV) (o4_1 : List AV) (o5_1 : List AV) (o6_1 : List AV) (o7_1 : List AV) : f120_l0 run n (k0 + 1) x18_1 o2_1 o4_1 o5_1 o6_1 o7_1 =
  bif ltI x18_1 64 then
    (run 130 [.int ((AV.fld (.agg o7_1) 4).toInt), .int 6]).bind fun r3 =>
    nilV r3.outs (consV r3.vals fun v3 vs3 =>
    nilV vs3 ((run 130 [.int ((AV.fld (.agg o7_1) 4).toInt), .int 11]).bind fun r4 =>
    nilV r4.outs (consV r4.vals fun v4 vs4 =>
    nilV vs4 ((run 130 [.int ((AV.fld (.agg o7_1) 4).toInt), .int 25]).bind fun r5 =>
    nilV r5.outs (consV r5.vals fun v5 vs5 =>
    nilV vs5 (bif inR x18_1 64 then
    bif inR x18_1 64 then
    (run 130 [.int ((AV.fld (.agg o7_1) 0).toInt), .int 2]).bind fun r6 =>
    nilV r6.outs (consV r6.vals fun v6 vs6 =>
    nilV vs6 ((run 130 [.int ((AV.fld (.agg o7_1) 0).toInt), .int 13]).bind fun r7 =>
    nilV r7.outs (consV r7.vals fun v7 vs7 =>
    nilV vs7 ((run 130 [.int ((AV.fld (.agg o7_1) 0).toInt), .int 22]).bind fun r8 =>
    nilV r8.outs (consV r8.vals fun v8 vs8 =>
    nilV vs8 (f120_l0 run n k0 (IntKind.wrap .i64 (x18_1 + 1)) o2_1 o4_1 o5_1 o6_1 [.int (IntKind.wrap .u32 (IntKind.wrap .u32 (IntKind.wrap .u32 (IntKind.wrap .u32 (IntKind.wrap .u32 (IntKind.wrap .u32 ((AV.fld (.agg o7_1) 7).toInt + IntKind.wrap .u32 (BitVec.toNat (BitVec.ofInt 32 (IntKind.wrap .u32 (BitVec.toNat (BitVec.ofInt 32 v3.toInt ^^^ BitVec.ofInt 32 v4.toInt))) ^^^ BitVec.ofInt 32 v5.toInt))) + IntKind.wrap .u32 (BitVec.toNat (BitVec.ofInt 32 (IntKind.wrap .u32 (BitVec.toNat (BitVec.ofInt 32 ((AV.fld (.agg o7_1) 4).toInt) &&& BitVec.ofInt 32 ((AV.fld (.agg o7_1) 5).toInt)))) ^^^ BitVec.ofInt 32 (IntKind.wrap .u32 (BitVec.toNat (BitVec.ofInt 32 (IntKind.wrap .u32 (BitVec.toNat (BitVec.ofInt 32 4294967295 ^^^ BitVec.ofInt 32 ((AV.fld (.agg o7_1) 4).toInt)))) &&& BitVec.ofInt 32 ((AV.fld (.agg o7_1) 6).toInt))))))) + (AV.fld (.agg o6_1) (Int.toNat x18_1)).toInt) + (AV.fld (.agg o5_1) (Int.toNat x18_1)).toInt) + IntKind.wrap .u32 (BitVec.toNat (BitVec.ofInt 32 (IntKind.wrap .u32 (BitVec.toNat (BitVec.ofInt 32 v6.toInt ^^^ BitVec.ofInt 32 v7.toInt))) ^^^ BitVec.ofInt 32 v8.toInt))) + IntKind.wrap .u32 (BitVec.toNat (BitVec.ofInt 32 (IntKind.wrap .u32 (BitVec.toNat (BitVec.ofInt 32 (IntKind.wrap .u32 (BitVec.toNat (BitVec.ofInt 32 ((AV.fld (.agg o7_1) 0).toInt) &&& BitVec.ofInt 32 ((AV.fld (.agg o7_1) 1).toInt)))) ^^^ BitVec.ofInt 32 (IntKind.wrap .u32 (BitVec.toNat (BitVec.ofInt 32 ((AV.fld (.agg o7_1) 0).toInt) &&& BitVec.ofInt 32 ((AV.fld (.agg o7_1) 2).toInt))))))) ^^^ BitVec.ofInt 32 (IntKind.wrap .u32 (BitVec.toNat (BitVec.ofInt 32 ((AV.fld (.agg o7_1) 1).toInt) &&& BitVec.ofInt 32 ((AV.fld (.agg o7_1) 2).toInt)))))))), .int ((AV.fld (.agg o7_1) 0).toInt), .int ((AV.fld (.agg o7_1) 1).toInt), .int ((AV.fld (.agg o7_1) 2).toInt), .int (IntKind.wrap .u32 ((AV.fld (.agg o7_1) 3).toInt + IntKind.wrap .u32 (IntKind.wrap .u32 (IntKind.wrap .u32 (IntKind.wrap .u32 ((AV.fld (.agg o7_1) 7).toInt + IntKind.wrap .u32 (BitVec.toNat (BitVec.ofInt 32 (IntKind.wrap .u32 (BitVec.toNat (BitVec.ofInt 32 v3.toInt ^^^ BitVec.ofInt 32 v4.toInt))) ^^^ BitVec.ofInt 32 v5.toInt))) + IntKind.wrap .u32 (BitVec.toNat (BitVec.ofInt 32 (IntKind.wrap .u32 (BitVec.toNat (BitVec.ofInt 32 ((AV.fld (.agg o7_1) 4).toInt) &&& BitVec.ofInt 32 ((AV.fld (.agg o7_1) 5).toInt)))) ^^^ BitVec.ofInt 32 (IntKind.wrap .u32 (BitVec.toNat (BitVec.ofInt 32 (IntKind.wrap .u32 (BitVec.toNat (BitVec.ofInt 32 4294967295 ^^^ BitVec.ofInt 32 ((AV.fld (.agg o7_1) 4).toInt)))) &&& BitVec.ofInt 32 ((AV.fld (.agg o7_1) 6).toInt))))))) + (AV.fld (.agg o6_1) (Int.toNat x18_1)).toInt) + (AV.fld (.agg o5_1) (Int.toNat x18_1)).toInt))), .int ((AV.fld (.agg o7_1) 4).toInt), .int ((AV.fld (.agg o7_1) 5).toInt), .int ((AV.fld (.agg o7_1) 6).toInt)]))))))
  else none
  else none))))))
  else
    f120_l2 run n k0 n 0 o2_1 o4_1 o7_1 := by kernel_rfl
noncomputable def f120 (run : Run) (n : Nat) (a0_1 : List AV) (a1_1 : List UInt8) : Option Res := evalK G run n f120_info.keep 0 f120_info.body (retE G f120_info) (f120_info.start [.agg a0_1, .str a1_1])
theorem f120_eq (run : Run) (n : Nat) (a0_1 : List AV) (a1_1 : List UInt8) : f120 run n a0_1 a1_1 =
  (run 128 [.str a1_1]).bind fun r1 =>
    nilV r1.outs (consV r1.vals fun v1 vs1 =>
    nilV vs1 ((run 129 []).bind fun r2 =>
    nilV r2.outs (consV r2.vals fun v2 vs2 =>
    nilV vs2 (f120_l0 run n n 0 a0_1 (List.replicate 8 (.int 0)) v1.toAgg v2.toAgg a0_1)))) := by kernel_rfl
theorem f120_run (ext : Run) (n : Nat) (a0_1 : List AV) (a1_1 : List UInt8) : runE G ext (n + 1) 120 [.agg a0_1, .str a1_1] = f120 (runE G ext n) n a0_1 a1_1 := runE_succ f120_at f120_in

noncomputable def f106_l0 (run : Run) (n : Nat) (k0 : Nat) (x4_1 : Int) (o0_1 : List AV) (o0_2 : List UInt8) (o0_3 : Int) (o0_4 : Bool) : Option Res :=
  iterK (evalK G run n f106_keep 0 (sub [1, 1, 1, 1, 1, 0, 0, 0] f106_body)) f106_t0 f106_o0 (blockK 0 (seqK (evalK G run n f106_keep 0 (sub [1, 1, 1, 1, 1, 1] f106_body) (retE G f106_info)) (retE G f106_info))) k0
    ⟨[.ptr ⟨(.struct [(.arr 8 (.int .u32)), .str, (.int .u64), .bool]), 0, 0, []⟩, .any, .any, .any, .val (.int .i64) none (.int x4_1), .any, .any, .any, .any, .any, .any, .any, .any, .any, .any, .any, .any, .any, .any, .any, .any, .any, .any, .any, .any, .any, .any, .any, .any, .any, .any, .any, .any, .any, .any, .any, .any, .any, .any, .any, .any, .any, .any, .any, .any, .any, .any, .any, .any, .any, .any, .any, .any, .any, .any, .any, .any, .any, .any, .any, .any, .any, .any, .any, .any, .any, .any, .any, .any, .any, .any, .any], [⟨0, some ⟨(.struct [(.arr 8 (.int .u32)), .str, (.int .u64), .bool]), .agg [.agg o0_1, .str o0_2, .int o0_3, .bool o0_4]⟩⟩, ⟨0, none⟩, ⟨0, none⟩, ⟨0, none⟩, ⟨0, none⟩, ⟨0, none⟩, ⟨0, none⟩, ⟨0, none⟩, ⟨0, none⟩, ⟨0, none⟩, ⟨0, none⟩, ⟨0, none⟩, ⟨0, none⟩, ⟨0, none⟩, ⟨0, none⟩, ⟨0, none⟩, ⟨0, none⟩, ⟨0, none⟩, ⟨0, none⟩, ⟨0, none⟩, ⟨0, none⟩, ⟨0, none⟩, ⟨0, none⟩, ⟨0, none⟩, ⟨0, none⟩, ⟨0, none⟩, ⟨0, none⟩, ⟨0, none⟩, ⟨0, none⟩, ⟨0, none⟩, ⟨0, none⟩, ⟨0, none⟩, ⟨0, none⟩, ⟨0, none⟩, ⟨0, none⟩, ⟨0, none⟩, ⟨0, none⟩, ⟨0, none⟩, ⟨0, none⟩, ⟨0, none⟩, ⟨0, none⟩, ⟨0, none⟩, ⟨0, none⟩, ⟨0, none⟩, ⟨0, none⟩, ⟨0, none⟩, ⟨0, none⟩, ⟨0, none⟩, ⟨0, none⟩, ⟨0, none⟩, ⟨0, none⟩, ⟨0, none⟩, ⟨0, none⟩, ⟨0, none⟩, ⟨0, none⟩, ⟨0, none⟩, ⟨0, none⟩, ⟨0, none⟩, ⟨0, none⟩, ⟨0, none⟩, ⟨0, none⟩, ⟨0, none⟩, ⟨0, none⟩, ⟨0, none⟩, ⟨0, none⟩, ⟨0, none⟩, ⟨0, none⟩, ⟨0, none⟩, ⟨0, none⟩, ⟨0, none⟩, ⟨0, none⟩, ⟨0, none⟩], List.replicate 72 0⟩
theorem f106_l0_eq (run : Run) (n : Nat) (k0 : Nat) (x4_1 : Int) (o0_1 : List AV) (o0_2 : List UInt8) (o0_3 : Int) (o0_4 : Bool) : f106_l0 run n (k0 + 1) x4_1 o0_1 o0_2 o0_3 o0_4 =
  bif leI 64 (IntKind.wrap .i64 ((o0_2.length : Int) - x4_1)) then
    bif boundsOk x4_1 (IntKind.wrap .i64 (x4_1 + 64)) (o0_2.length : Int) (o0_2.length : Int) then
    (run 120 [.agg o0_1, .str (List.drop (Int.toNat x4_1) (List.take (Int.toNat (IntKind.wrap .i64 (x4_1 + 64))) o0_2))]).bind fun r2 =>
    nilV r2.outs (consV r2.vals fun v2 vs2 =>
    nilV vs2 (f106_l0 run n k0 (IntKind.wrap .i64 (x4_1 + 64)) v2.toAgg o0_2 o0_3 o0_4))
  else none
  else
    bif boundsOk x4_1 (o0_2.length : Int) (o0_2.length : Int) (o0_2.length : Int) then
    some ⟨[], [.agg [.agg o0_1, .str (List.drop (Int.toNat x4_1) (List.take (Int.toNat (o0_2.length : Int)) o0_2)), .int o0_3, .bool o0_4]], f106_fresh⟩
  else none := by kernel_rfl
noncomputable def f106 (run : Run) (n : Nat) (a0_1 : List AV) (a0_2 : List UInt8) (a0_3 : Int) (a0_4 : Bool) (a1_1 : List UInt8) : Option Res := evalK G run n f106_info.keep 0 f106_info.body (retE G f106_info) (f106_info.start [.agg [.agg a0_1, .str a0_2, .int a0_3, .bool a0_4], .str a1_1])
theorem f106_eq (run : Run) (n : Nat) (a0_1 : List AV) (a0_2 : List UInt8) (a0_3 : Int) (a0_4 : Bool) (a1_1 : List UInt8) : f106 run n a0_1 a0_2 a0_3 a0_4 a1_1 =
  bif !a0_4 then
    (run 119 []).bind fun r1 =>
    nilV r1.outs (consV r1.vals fun v1 vs1 =>
    nilV vs1 (bif Nat.ble (a0_2.length + a1_1.length) maxLen then
    f106_l0 run n n 0 v1.toAgg (a0_2 ++ a1_1) (IntKind.wrap .u64 (a0_3 + IntKind.wrap .u64 (a1_1.length : Int))) true
  else none))
  else
    bif Nat.ble (a0_2.length + a1_1.length) maxLen then
    f106_l0 run n n 0 a0_1 (a0_2 ++ a1_1) (IntKind.wrap .u64 (a0_3 + IntKind.wrap .u64 (a1_1.length : Int))) a0_4
  else none := by kernel_rfl
theorem f106_run (ext : Run) (n : Nat) (a0_1 : List AV) (a0_2 : List UInt8) (a0_3 : Int) (a0_4 : Bool) (a1_1 : List UInt8) : runE G ext (n + 1) 106 [.agg [.agg a0_1, .str a0_2, .int a0_3, .bool a0_4], .str a1_1] = f106 (runE G ext n) n a0_1 a0_2 a0_3 a0_4 a1_1 := runE_succ f106_at f106_in

noncomputable def f117_l0 (run : Run) (n : Nat) (k0 : Nat) (x0_1 : Int) (x1_1 : Int) (m1 : Nat) (x9_1 : Int) (x10_1 : Int) (o8_1 : List AV) : Option Res :=
  iterK (evalK G run n f117_keep 0 (sub [1, 1, 0, 1, 0, 0] f117_body)) f117_t0 f117_o0 (blockK 0 (seqK (evalK G run n f117_keep 0 (sub [1, 1, 1] f117_body) (retE G f117_info)) (retE G f117_info))) k0
    ⟨[.val (.int .u64) none (.int x0_1), .val (.int .i64) none (.int x1_1), .any, .any, .any, .ref ⟨(.arr m1 (.int .u8)), 8, 1, []⟩ 0 m1, .any, .any, .any, .val (.int .i64) none (.int x9_1), .val (.int .i64) none (.int x10_1), .any, .any, .any, .any, .any, .any, .any, .any, .any, .any, .any, .any, .any, .any, .any], [⟨0, none⟩, ⟨0, none⟩, ⟨0, none⟩, ⟨0, none⟩, ⟨0, none⟩, ⟨0, none⟩, ⟨0, none⟩, ⟨0, none⟩, ⟨1, some ⟨(.arr m1 (.int .u8)), .agg o8_1⟩⟩, ⟨0, none⟩, ⟨0, none⟩, ⟨0, none⟩, ⟨0, none⟩, ⟨0, none⟩, ⟨0, none⟩, ⟨0, none⟩, ⟨0, none⟩, ⟨0, none⟩, ⟨0, none⟩, ⟨0, none⟩, ⟨0, none⟩, ⟨0, none⟩, ⟨0, none⟩, ⟨0, none⟩, ⟨0, none⟩, ⟨0, none⟩], List.replicate 26 0⟩
theorem f117_l0_eq (run : Run) (n : Nat) (k0 : Nat) (x0_1 : Int) (x1_1 : Int) (m1 : Nat) (x9_1 : Int) (x10_1 : Int) (o8_1 : List AV) : f117_l0 run n (k0 + 1) x0_1 x1_1 m1 x9_1 x10_1 o8_1 =
  bif ltI x10_1 x9_1 then
    bif inR (IntKind.wrap .i64 (IntKind.wrap .i64 (x1_1 - 1) - x10_1)) m1 then
    f117_l0 run n k0 (Int.fdiv x0_1 (2 ^ 8)) x1_1 m1 x9_1 (IntKind.wrap .i64 (x10_1 + 1)) (o8_1.set (0 + (Int.toNat (IntKind.wrap .i64 (IntKind.wrap .i64 (x1_1 - 1) - x10_1)))) (.int (IntKind.wrap .u8 x0_1)))
  else none
  else
    some ⟨[.str (bytesOf (List.drop 0 (List.take m1 o8_1)))], [], f117_fresh⟩ := by kernel_rfl
noncomputable def f117 (run : Run) (n : Nat) (a0_1 : Int) (a1_1 : Int) : Option Res := evalK G run n f117_info.keep 0 f117_info.body (retE G f117_info) (f117_info.start [.int a0_1, .int a1_1])
theorem f117_eq (run : Run) (n : Nat) (a0_1 : Int) (a1_1 : Int) : f117 run n a0_1 a1_1 =
  bif eqI a1_1 a1_1 && leI 0 a1_1 && Nat.ble (Int.toNat a1_1 * 1) 140737488355328 then
    f117_l0 run n n a0_1 a1_1 (Int.toNat a1_1) a1_1 0 (List.replicate (Int.toNat a1_1) (.int 0))
  else none := by kernel_rfl
theorem f117_run (ext : Run) (n : Nat) (a0_1 : Int) (a1_1 : Int) : runE G ext (n + 1) 117 [.int a0_1, .int a1_1] = f117 (runE G ext n) n a0_1 a1_1 := runE_succ f117_at f117_in

noncomputable def f102 (run : Run) (n : Nat) (a0_1 : Int) : Option Res := evalK G run n f102_info.keep 0 f102_info.body (retE G f102_info) (f102_info.start [.int a0_1])
theorem f102_eq (run : Run) (n : Nat) (a0_1 : Int) : f102 run n a0_1 =
  (run 117 [.int a0_1, .int 8]).bind fun r1 =>
    nilV r1.outs (consV r1.vals fun v1 vs1 =>
    nilV vs1 (some ⟨[.str v1.toStr], [], f102_fresh⟩)) := by kernel_rfl
theorem f102_run (ext : Run) (n : Nat) (a0_1 : Int) : runE G ext (n + 1) 102 [.int a0_1] = f102 (runE G ext n) n a0_1 := runE_succ f102_at f102_in

noncomputable def f121 (run : Run) (n : Nat) (a0_1 : Int) : Option Res := evalK G run n f121_info.keep 0 f121_info.body (retE G f121_info) (f121_info.start [.int a0_1])
theorem f121_eq (run : Run) (n : Nat) (a0_1 : Int) : f121 run n a0_1 =
  (run 131 [.str [0], .int (IntKind.wrap .i64 (Int.tmod (IntKind.wrap .u64 (119 - Int.tmod a0_1 64)) 64))]).bind fun r1 =>
    nilV r1.outs (consV r1.vals fun v1 vs1 =>
    nilV vs1 (bif Nat.ble (1 + v1.toStr.length) maxLen then
    (run 102 [.int (IntKind.wrap .u64 (8 * a0_1))]).bind fun r2 =>
    nilV r2.outs (consV r2.vals fun v2 vs2 =>
    nilV vs2 (bif Nat.ble (([128] ++ v1.toStr).length + v2.toStr.length) maxLen then
    some ⟨[.str (([128] ++ v1.toStr) ++ v2.toStr)], [], f121_fresh⟩
  else none))
  else none)) := by kernel_rfl
theorem f121_run (ext : Run) (n : Nat) (a0_1 : Int) : runE G ext (n + 1) 121 [.int a0_1] = f121 (runE G ext n) n a0_1 := runE_succ f121_at f121_in

noncomputable def f115 (run : Run) (n : Nat) (a0_1 : Int) : Option Res := evalK G run n f115_info.keep 0 f115_info.body (retE G f115_info) (f115_info.start [.int a0_1])
theorem f115_eq (run : Run) (n : Nat) (a0_1 : Int) : f115 run n a0_1 =
  (run 117 [.int (IntKind.wrap .u64 a0_1), .int 4]).bind fun r1 =>
    nilV r1.outs (consV r1.vals fun v1 vs1 =>
    nilV vs1 (some ⟨[.str v1.toStr], [], f115_fresh⟩)) := by kernel_rfl
theorem f115_run (ext : Run) (n : Nat) (a0_1 : Int) : runE G ext (n + 1) 115 [.int a0_1] = f115 (runE G ext n) n a0_1 := runE_succ f115_at f115_in

end Go.Proofs.Ytbpllpdmkhojoaa.Ev
