/- What the evaluator does with the functions, as programs over plain values: printed by gen.py, checked by the kernel. -/
import Derived.Test.YtcpdiahbdmcdcaaEvFA
namespace Go.Proofs.Ytcpdiahbdmcdcaa.Ev
open Go Go.RowKit
set_option maxRecDepth 100000


noncomputable def f60_l4 (run : Run) (n : Nat) (_k0 : Nat) (k2 : Nat) (k4 : Nat) (x6_2 : Int) (x7_1 : List UInt8) (x8_1 : Int) (o2_4 : List UInt8) (o3_4 : List AV) (o5_2 : List UInt8) : Option Res :=
  iterK (evalK G run n f60_keep 4 (sub [1, 1, 1, 1, 1, 0, 1, 0, 0, 1, 0, 0, 1, 1, 0, 0] f60_body)) f60_t4 f60_o4 (blockK 4 (blockK 3 (seqK (evalK G run n f60_keep 2 (sub [1, 1, 1, 1, 1, 0, 1, 0, 0, 1, 1] f60_body) (seqK (fun t => iterK (evalK G run n f60_keep 2 (sub [1, 1, 1, 1, 1, 0, 1, 0, 0] f60_body)) f60_t2 f60_o2 (blockK 2 (seqK (evalK G run n f60_keep 0 (sub [1, 1, 1, 1, 1, 1] f60_body) (retE G f60_info)) (retE G f60_info))) k2 (t.clear f60_t2 f60_o2)) (blockK 2 (seqK (evalK G run n f60_keep 0 (sub [1, 1, 1, 1, 1, 1] f60_body) (retE G f60_info)) (retE G f60_info))))) (seqK (fun t => iterK (evalK G run n f60_keep 2 (sub [1, 1, 1, 1, 1, 0, 1, 0, 0] f60_body)) f60_t2 f60_o2 (blockK 2 (seqK (evalK G run n f60_keep 0 (sub [1, 1, 1, 1, 1, 1] f60_body) (retE G f60_info)) (retE G f60_info))) k2 (t.clear f60_t2 f60_o2)) (blockK 2 (seqK (evalK G run n f60_keep 0 (sub [1, 1, 1, 1, 1, 1] f60_body) (retE G f60_info)) (retE G f60_info))))))) k4
    ⟨[.any, .any, .ptr ⟨(.blob 32), 2, 1, []⟩, .ptr ⟨(.arr 8 (.int .u32)), 3, 1, []⟩, .any, .ptr ⟨(.blob 32), 5, 1, []⟩, .val (.int .i64) none (.int x6_2), .val .str none (.str x7_1), .val (.int .i64) none (.int x8_1), .any, .any, .any, .any, .any, .any, .any, .any, .any, .any, .any, .any, .any, .any, .any, .any, .any, .any, .any, .any, .any, .any, .any, .any, .any, .any, .any, .any, .any, .any, .any, .any, .any, .any, .any, .any, .any, .any, .any, .any, .any, .any], [⟨0, none⟩, ⟨0, none⟩, ⟨1, some ⟨(.blob 32), .blob o2_4⟩⟩, ⟨1, some ⟨(.arr 8 (.int .u32)), .agg o3_4⟩⟩, ⟨0, none⟩, ⟨1, some ⟨(.blob 32), .blob o5_2⟩⟩, ⟨0, none⟩, ⟨0, none⟩, ⟨0, none⟩, ⟨0, none⟩, ⟨0, none⟩, ⟨0, none⟩, ⟨0, none⟩, ⟨0, none⟩, ⟨0, none⟩, ⟨0, none⟩, ⟨0, none⟩, ⟨0, none⟩, ⟨0, none⟩, ⟨0, none⟩, ⟨0, none⟩, ⟨0, none⟩, ⟨0, none⟩, ⟨0, none⟩, ⟨0, none⟩, ⟨0, none⟩, ⟨0, none⟩, ⟨0, none⟩, ⟨0, none⟩, ⟨0, none⟩, ⟨0, none⟩, ⟨0, none⟩, ⟨0, none⟩, ⟨0, none⟩, ⟨0, none⟩, ⟨0, none⟩, ⟨0, none⟩, ⟨0, none⟩, ⟨0, none⟩, ⟨0, none⟩, ⟨0, none⟩, ⟨0, none⟩, ⟨0, none⟩, ⟨0, none⟩, ⟨0, none⟩, ⟨0, none⟩, ⟨0, none⟩, ⟨0, none⟩, ⟨0, none⟩, ⟨0, none⟩, ⟨0, none⟩], List.replicate 51 0⟩
noncomputable def f60_l2 (run : Run) (n : Nat) (_k0 : Nat) (k2 : Nat) (x6_1 : Int) (o2_3 : List UInt8) (o3_3 : List AV) (o5_1 : List UInt8) : Option Res :=
  iterK (evalK G run n f60_keep 2 (sub [1, 1, 1, 1, 1, 0, 1, 0, 0] f60_body)) f60_t2 f60_o2 (blockK 2 (seqK (evalK G run n f60_keep 0 (sub [1, 1, 1, 1, 1, 1] f60_body) (retE G f60_info)) (retE G f60_info))) k2
    ⟨[.any, .any, .ptr ⟨(.blob 32), 2, 1, []⟩, .ptr ⟨(.arr 8 (.int .u32)), 3, 1, []⟩, .any, .ptr ⟨(.blob 32), 5, 1, []⟩, .val (.int .i64) none (.int x6_1), .any, .any, .any, .any, .any, .any, .any, .any, .any, .any, .any, .any, .any, .any, .any, .any, .any, .any, .any, .any, .any, .any, .any, .any, .any, .any, .any, .any, .any, .any, .any, .any, .any, .any, .any, .any, .any, .any, .any, .any, .any, .any, .any, .any], [⟨0, none⟩, ⟨0, none⟩, ⟨1, some ⟨(.blob 32), .blob o2_3⟩⟩, ⟨1, some ⟨(.arr 8 (.int .u32)), .agg o3_3⟩⟩, ⟨0, none⟩, ⟨1, some ⟨(.blob 32), .blob o5_1⟩⟩, ⟨0, none⟩, ⟨0, none⟩, ⟨0, none⟩, ⟨0, none⟩, ⟨0, none⟩, ⟨0, none⟩, ⟨0, none⟩, ⟨0, none⟩, ⟨0, none⟩, ⟨0, none⟩, ⟨0, none⟩, ⟨0, none⟩, ⟨0, none⟩, ⟨0, none⟩, ⟨0, none⟩, ⟨0, none⟩, ⟨0, none⟩, ⟨0, none⟩, ⟨0, none⟩, ⟨0, none⟩, ⟨0, none⟩, ⟨0, none⟩, ⟨0, none⟩, ⟨0, none⟩, ⟨0, none⟩, ⟨0, none⟩, ⟨0, none⟩, ⟨0, none⟩, ⟨0, none⟩, ⟨0, none⟩, ⟨0, none⟩, ⟨0, none⟩, ⟨0, none⟩, ⟨0, none⟩, ⟨0, none⟩, ⟨0, none⟩, ⟨0, none⟩, ⟨0, none⟩, ⟨0, none⟩, ⟨0, none⟩, ⟨0, none⟩, ⟨0, none⟩, ⟨0, none⟩, ⟨0, none⟩, ⟨0, none⟩], List.replicate 51 0⟩
noncomputable def f60_l0 (run : Run) (n : Nat) (k0 : Nat) (x0_1 : List UInt8) (x4_1 : Int) (o2_1 : List UInt8) (o3_1 : List AV) : Option Res :=
  iterK (evalK G run n f60_keep 0 (sub [1, 1, 1, 0, 1, 0, 0] f60_body)) f60_t0 f60_o0 (blockK 0 (seqK (evalK G run n f60_keep 0 (sub [1, 1, 1, 1] f60_body) (retE G f60_info)) (retE G f60_info))) k0
    ⟨[.val .str none (.str x0_1), .any, .ptr ⟨(.blob 32), 2, 1, []⟩, .ptr ⟨(.arr 8 (.int .u32)), 3, 1, []⟩, .val (.int .i64) none (.int x4_1), .any, .any, .any, .any, .any, .any, .any, .any, .any, .any, .any, .any, .any, .any, .any, .any, .any, .any, .any, .any, .any, .any, .any, .any, .any, .any, .any, .any, .any, .any, .any, .any, .any, .any, .any, .any, .any, .any, .any, .any, .any, .any, .any, .any, .any, .any], [⟨0, none⟩, ⟨0, none⟩, ⟨1, some ⟨(.blob 32), .blob o2_1⟩⟩, ⟨1, some ⟨(.arr 8 (.int .u32)), .agg o3_1⟩⟩, ⟨0, none⟩, ⟨0, none⟩, ⟨0, none⟩, ⟨0, none⟩, ⟨0, none⟩, ⟨0, none⟩, ⟨0, none⟩, ⟨0, none⟩, ⟨0, none⟩, ⟨0, none⟩, ⟨0, none⟩, ⟨0, none⟩, ⟨0, none⟩, ⟨0, none⟩, ⟨0, none⟩, ⟨0, none⟩, ⟨0, none⟩, ⟨0, none⟩, ⟨0, none⟩, ⟨0, none⟩, ⟨0, none⟩, ⟨0, none⟩, ⟨0, none⟩, ⟨0, none⟩, ⟨0, none⟩, ⟨0, none⟩, ⟨0, none⟩, ⟨0, none⟩, ⟨0, none⟩, ⟨0, none⟩, ⟨0, none⟩, ⟨0, none⟩, ⟨0, none⟩, ⟨0, none⟩, ⟨0, none⟩, ⟨0, none⟩, ⟨0, none⟩, ⟨0, none⟩, ⟨0, none⟩, ⟨0, none⟩, ⟨0, none⟩, ⟨0, none⟩, ⟨0, none⟩, ⟨0, none⟩, ⟨0, none⟩, ⟨0, none⟩, ⟨0, none⟩], List.replicate 51 0⟩
theorem f60_l4_eq (run : Run) (n : Nat) (k0 : Nat) (k2 : Nat) (k4 : Nat) (x6_2 : Int) (x7_1 : List UInt8) (x8_1 : Int) (o2_4 : List UInt8) (o3_4 : List AV) (o5_2 : List UInt8) : f60_l4 run n k0 k2 (k4 + 1) x6_2 x7_1 x8_1 o2_4 o3_4 o5_2 =
  bif ltI x8_1 4 then
    bif inR x8_1 x7_1.length then
    bif inR (IntKind.wrap .i64 (IntKind.wrap .i64 (4 * x6_2) + x8_1)) 32 then
    f60_l4 run n k0 k2 k4 x6_2 x7_1 (IntKind.wrap .i64 (x8_1 + 1)) o2_4 o3_4 (o5_2.set (Int.toNat (IntKind.wrap .i64 (IntKind.wrap .i64 (4 * x6_2) + x8_1))) (UInt8.ofNat (Int.toNat ((x7_1.getD (Int.toNat x8_1) 0).toNat : Int))))
  else none
  else none
  else
    f60_l2 run n k0 k2 (IntKind.wrap .i64 (x6_2 + 1)) o2_4 o3_4 o5_2 := by kernel_rfl
theorem f60_l2_eq (run : Run) (n : Nat) (k0 : Nat) (k2 : Nat) (x6_1 : Int) (o2_3 : List UInt8) (o3_3 : List AV) (o5_1 : List UInt8) : f60_l2 run n k0 (k2 + 1) x6_1 o2_3 o3_3 o5_1 =
  bif ltI x6_1 8 then
    bif inR x6_1 8 then
    (run 94 [.int (IntKind.wrap .u64 ((AV.fld (.agg o3_3) (Int.toNat x6_1)).toInt)), .int 4]).bind fun r4 =>
    nilV r4.outs (consV r4.vals fun v4 vs4 =>
    nilV vs4 (f60_l4 run n k0 k2 n x6_1 v4.toStr 0 o2_3 o3_3 o5_1))
  else none
  else
    some ⟨[.blob o5_1], [], f60_fresh⟩ := by kernel_rfl
theorem f60_l0_eq (run : Run) (n : Nat) (k0 : Nat) (x0_1 : List UInt8) (x4_1 : Int) (o2_1 : List UInt8) (o3_1 : List AV) : f60_l0 run n (k0 + 1) x0_1 x4_1 o2_1 o3_1 =
  bif ltI x4_1 (x0_1.length : Int) then
    bif boundsOk x4_1 (IntKind.wrap .i64 (x4_1 + 64)) (x0_1.length : Int) (x0_1.length : Int) then
    (run 93 [.agg o3_1, .str (List.drop (Int.toNat x4_1) (List.take (Int.toNat (IntKind.wrap .i64 (x4_1 + 64))) x0_1))]).bind fun r3 =>
    nilV r3.outs (consV r3.vals fun v3 vs3 =>
    nilV vs3 (f60_l0 run n k0 x0_1 (IntKind.wrap .i64 (x4_1 + 64)) o2_1 v3.toAgg))
  else none
  else
    f60_l2 run n k0 n 0 o2_1 o3_1 (List.replicate 32 0) := by kernel_rfl
noncomputable def f60 (run : Run) (n : Nat) (a0_1 : List UInt8) : Option Res := evalK G run n f60_info.keep 0 f60_info.body (retE G f60_info) (f60_info.start [.str a0_1])
theorem f60_eq (run : Run) (n : Nat) (a0_1 : List UInt8) : f60 run n a0_1 =
  (run 91 []).bind fun r1 =>
    nilV r1.outs (consV r1.vals fun v1 vs1 =>
    nilV vs1 ((run 92 [.int (IntKind.wrap .u64 (a0_1.length : Int))]).bind fun r2 =>
    nilV r2.outs (consV r2.vals fun v2 vs2 =>
    nilV vs2 (bif Nat.ble (a0_1.length + v2.toStr.length) maxLen then
    f60_l0 run n n (a0_1 ++ v2.toStr) 0 (List.replicate 32 0) v1.toAgg
  else none)))) := by kernel_rfl
theorem f60_run (ext : Run) (n : Nat) (a0_1 : List UInt8) : runE G ext (n + 1) 60 [.str a0_1] = f60 (runE G ext n) n a0_1 := runE_succ f60_at f60_in

noncomputable def f16 (run : Run) (n : Nat) : Option Res := evalK G run n f16_info.keep 0 f16_info.body (retE G f16_info) (f16_info.start [])
theorem f16_eq (run : Run) (n : Nat) : f16 run n  =
  (run 20 [.slice []]).bind fun r1 =>
    nilV r1.outs (consV r1.vals fun v1 vs1 =>
    nilV vs1 ((run 60 [.str (bytesOf (List.drop 0 (List.take 41 (ofBytes ((List.replicate 41 0).set 0 (UInt8.ofNat (Int.toNat 2)))))))]).bind fun r2 =>
    nilV r2.outs (consV r2.vals fun v2 vs2 =>
    nilV vs2 (some ⟨[.bool (eqS v1.toBlob v2.toBlob)], [], f16_fresh⟩)))) := by kernel_rfl
theorem f16_run (ext : Run) (n : Nat) : runE G ext (n + 1) 16 [] = f16 (runE G ext n) n  := runE_succ f16_at f16_in

noncomputable def f97 (run : Run) (n : Nat) (a0_1 : List UInt8) : Option Res := evalK G run n f97_info.keep 0 f97_info.body (retE G f97_info) (f97_info.start [.str a0_1])
theorem f97_eq (run : Run) (n : Nat) (a0_1 : List UInt8) : f97 run n a0_1 =
  (run 102 [.int 0]).bind fun r1 =>
    nilV r1.outs (consV r1.vals fun v1 vs1 =>
    nilV vs1 (bif Nat.ble (v1.toStr.length + a0_1.length) maxLen then
    some ⟨[.str (v1.toStr ++ a0_1)], [], f97_fresh⟩
  else none)) := by kernel_rfl
theorem f97_run (ext : Run) (n : Nat) (a0_1 : List UInt8) : runE G ext (n + 1) 97 [.str a0_1] = f97 (runE G ext n) n a0_1 := runE_succ f97_at f97_in

noncomputable def f63 (run : Run) (n : Nat) (a0_1 : List UInt8) : Option Res := evalK G run n f63_info.keep 0 f63_info.body (retE G f63_info) (f63_info.start [.str a0_1])
theorem f63_eq (run : Run) (n : Nat) (a0_1 : List UInt8) : f63 run n a0_1 =
  (run 97 [.str a0_1]).bind fun r1 =>
    nilV r1.outs (consV r1.vals fun v1 vs1 =>
    nilV vs1 ((run 60 [.str v1.toStr]).bind fun r2 =>
    nilV r2.outs (consV r2.vals fun v2 vs2 =>
    nilV vs2 (some ⟨[.blob v2.toBlob], [], f63_fresh⟩)))) := by kernel_rfl
theorem f63_run (ext : Run) (n : Nat) (a0_1 : List UInt8) : runE G ext (n + 1) 63 [.str a0_1] = f63 (runE G ext n) n a0_1 := runE_succ f63_at f63_in

noncomputable def f19_l0 (run : Run) (n : Nat) (k0 : Nat) (x0_1 : List AV) (x3_1 : List AV) (x4_1 : Int) : Option Res :=
  iterK (evalK G run n f19_keep 0 (sub [1, 1, 0, 1, 0, 0] f19_body)) f19_t0 f19_o0 (blockK 0 (seqK (evalK G run n f19_keep 0 (sub [1, 1, 1] f19_body) (retE G f19_info)) (retE G f19_info))) k0
    ⟨[.val (.slice .str) none (.slice x0_1), .any, .any, .val (.slice (.blob 32)) (some (3, 0)) (.slice x3_1), .val (.int .i64) none (.int x4_1), .any, .any, .any, .any, .any, .any, .any, .any, .any, .any, .any, .any, .any, .any, .any], [⟨0, none⟩, ⟨0, none⟩, ⟨0, none⟩, ⟨0, none⟩, ⟨0, none⟩, ⟨0, none⟩, ⟨0, none⟩, ⟨0, none⟩, ⟨0, none⟩, ⟨0, none⟩, ⟨0, none⟩, ⟨0, none⟩, ⟨0, none⟩, ⟨0, none⟩, ⟨0, none⟩, ⟨0, none⟩, ⟨0, none⟩, ⟨0, none⟩, ⟨0, none⟩, ⟨0, none⟩], List.replicate 20 0⟩
theorem f19_l0_eq (run : Run) (n : Nat) (k0 : Nat) (x0_1 : List AV) (x3_1 : List AV) (x4_1 : Int) : f19_l0 run n (k0 + 1) x0_1 x3_1 x4_1 =
  bif ltI x4_1 (x0_1.length : Int) then
    bif inR x4_1 x0_1.length then
    (run 63 [.str ((nth x0_1 (Int.toNat x4_1)).toStr)]).bind fun r1 =>
    nilV r1.outs (consV r1.vals fun v1 vs1 =>
    nilV vs1 (bif Nat.ble ((x3_1.length + 1) * 32) 140737488355328 then
    f19_l0 run n k0 x0_1 (x3_1 ++ [.blob v1.toBlob]) (IntKind.wrap .i64 (x4_1 + 1))
  else none))
  else none
  else
    some ⟨[.slice x3_1], [], f19_fresh⟩ := by kernel_rfl
noncomputable def f19 (run : Run) (n : Nat) (a0_1 : List AV) : Option Res := evalK G run n f19_info.keep 0 f19_info.body (retE G f19_info) (f19_info.start [.slice a0_1])
theorem f19_eq (run : Run) (n : Nat) (a0_1 : List AV) : f19 run n a0_1 =
  f19_l0 run n n a0_1 [] 0 := by kernel_rfl
theorem f19_run (ext : Run) (n : Nat) (a0_1 : List AV) : runE G ext (n + 1) 19 [.slice a0_1] = f19 (runE G ext n) n a0_1 := runE_succ f19_at f19_in

noncomputable def f17_l0 (run : Run) (n : Nat) (k0 : Nat) (x0_1 : List AV) (x1_1 : List AV) (x5_1 : Int) : Option Res :=
  iterK (evalK G run n f17_keep 0 (sub [1, 1, 0, 1, 0, 0] f17_body)) f17_t0 f17_o0 (blockK 0 (seqK (evalK G run n f17_keep 0 (sub [1, 1, 1] f17_body) (retE G f17_info)) (retE G f17_info))) k0
    ⟨[.val (.slice (.blob 32)) none (.slice x0_1), .val (.slice (.blob 32)) none (.slice x1_1), .any, .any, .any, .val (.int .i64) none (.int x5_1), .any, .any, .any, .any, .any, .any, .any, .any, .any, .any, .any, .any, .any, .any, .any, .any, .any, .any, .any, .any], [⟨0, none⟩, ⟨0, none⟩, ⟨0, none⟩, ⟨0, none⟩, ⟨0, none⟩, ⟨0, none⟩, ⟨0, none⟩, ⟨0, none⟩, ⟨0, none⟩, ⟨0, none⟩, ⟨0, none⟩, ⟨0, none⟩, ⟨0, none⟩, ⟨0, none⟩, ⟨0, none⟩, ⟨0, none⟩, ⟨0, none⟩, ⟨0, none⟩, ⟨0, none⟩, ⟨0, none⟩, ⟨0, none⟩, ⟨0, none⟩, ⟨0, none⟩, ⟨0, none⟩, ⟨0, none⟩, ⟨0, none⟩], List.replicate 26 0⟩
theorem f17_l0_eq (run : Run) (n : Nat) (k0 : Nat) (x0_1 : List AV) (x1_1 : List AV) (x5_1 : Int) : f17_l0 run n (k0 + 1) x0_1 x1_1 x5_1 =
  bif ltI x5_1 (x0_1.length : Int) then
    bif inR x5_1 x0_1.length then
    bif inR x5_1 x1_1.length then
    bif !(eqS ((nth x0_1 (Int.toNat x5_1)).toBlob) ((nth x1_1 (Int.toNat x5_1)).toBlob)) then
    some ⟨[.bool false], [], f17_fresh⟩
  else
    f17_l0 run n k0 x0_1 x1_1 (IntKind.wrap .i64 (x5_1 + 1))
  else none
  else none
  else
    some ⟨[.bool true], [], f17_fresh⟩ := by kernel_rfl
noncomputable def f17 (run : Run) (n : Nat) (a0_1 : List AV) (a1_1 : List AV) : Option Res := evalK G run n f17_info.keep 0 f17_info.body (retE G f17_info) (f17_info.start [.slice a0_1, .slice a1_1])
theorem f17_eq (run : Run) (n : Nat) (a0_1 : List AV) (a1_1 : List AV) : f17 run n a0_1 a1_1 =
  bif !(eqI (a0_1.length : Int) (a1_1.length : Int)) then
    some ⟨[.bool false], [], f17_fresh⟩
  else
    f17_l0 run n n a0_1 a1_1 0 := by kernel_rfl
theorem f17_run (ext : Run) (n : Nat) (a0_1 : List AV) (a1_1 : List AV) : runE G ext (n + 1) 17 [.slice a0_1, .slice a1_1] = f17 (runE G ext n) n a0_1 a1_1 := runE_succ f17_at f17_in

noncomputable def f67_l0 (run : Run) (n : Nat) (k0 : Nat) (x0_1 : Int) (x3_1 : Int) (x4_1 : Int) : Option Res :=
  iterK (evalK G run n f67_keep 0 (sub [1, 1, 0, 1, 0, 0] f67_body)) f67_t0 f67_o0 (blockK 0 (seqK (evalK G run n f67_keep 0 (sub [1, 1, 1] f67_body) (retE G f67_info)) (retE G f67_info))) k0
    ⟨[.val (.int .i64) none (.int x0_1), .any, .any, .val (.int .i64) none (.int x3_1), .val (.int .i64) none (.int x4_1), .any, .any, .any, .any, .any, .any, .any, .any, .any, .any, .any], [⟨0, none⟩, ⟨0, none⟩, ⟨0, none⟩, ⟨0, none⟩, ⟨0, none⟩, ⟨0, none⟩, ⟨0, none⟩, ⟨0, none⟩, ⟨0, none⟩, ⟨0, none⟩, ⟨0, none⟩, ⟨0, none⟩, ⟨0, none⟩, ⟨0, none⟩, ⟨0, none⟩, ⟨0, none⟩], List.replicate 16 0⟩
theorem f67_l0_eq (run : Run) (n : Nat) (k0 : Nat) (x0_1 : Int) (x3_1 : Int) (x4_1 : Int) : f67_l0 run n (k0 + 1) x0_1 x3_1 x4_1 =
  bif ltI x4_1 x0_1 then
    bif ltI 0 x4_1 then
    f67_l0 run n k0 x0_1 x4_1 (IntKind.wrap .i64 (x4_1 * 2))
  else
    some ⟨[.int x3_1], [], f67_fresh⟩
  else
    some ⟨[.int x3_1], [], f67_fresh⟩ := by kernel_rfl
noncomputable def f67 (run : Run) (n : Nat) (a0_1 : Int) : Option Res := evalK G run n f67_info.keep 0 f67_info.body (retE G f67_info) (f67_info.start [.int a0_1])
theorem f67_eq (run : Run) (n : Nat) (a0_1 : Int) : f67 run n a0_1 =
  f67_l0 run n n a0_1 0 1 := by kernel_rfl
theorem f67_run (ext : Run) (n : Nat) (a0_1 : Int) : runE G ext (n + 1) 67 [.int a0_1] = f67 (runE G ext n) n a0_1 := runE_succ f67_at f67_in

noncomputable def f103_l0 (run : Run) (n : Nat) (k0 : Nat) (x4_1 : Int) (o1_1 : List UInt8) (o5_1 : List AV) : Option Res :=
  iterK (evalK G run n f103_keep 0 (sub [1, 1, 0, 1, 0, 0] f103_body)) f103_t0 f103_o0 (blockK 0 (seqK (evalK G run n f103_keep 0 (sub [1, 1, 1] f103_body) (retE G f103_info)) (retE G f103_info))) k0
    ⟨[.any, .ptr ⟨(.blob 32), 1, 1, []⟩, .any, .ref ⟨(.arr 32 (.int .u8)), 5, 1, []⟩ 0 32, .val (.int .i64) none (.int x4_1), .any, .any, .any, .any, .any, .any, .any, .any, .any, .any, .any, .any, .any], [⟨0, none⟩, ⟨1, some ⟨(.blob 32), .blob o1_1⟩⟩, ⟨0, none⟩, ⟨0, none⟩, ⟨0, none⟩, ⟨1, some ⟨(.arr 32 (.int .u8)), .agg o5_1⟩⟩, ⟨0, none⟩, ⟨0, none⟩, ⟨0, none⟩, ⟨0, none⟩, ⟨0, none⟩, ⟨0, none⟩, ⟨0, none⟩, ⟨0, none⟩, ⟨0, none⟩, ⟨0, none⟩, ⟨0, none⟩, ⟨0, none⟩], List.replicate 18 0⟩
theorem f103_l0_eq (run : Run) (n : Nat) (k0 : Nat) (x4_1 : Int) (o1_1 : List UInt8) (o5_1 : List AV) : f103_l0 run n (k0 + 1) x4_1 o1_1 o5_1 =
  bif ltI x4_1 32 then
    bif inR x4_1 32 then
    bif inR x4_1 32 then
    f103_l0 run n k0 (IntKind.wrap .i64 (x4_1 + 1)) o1_1 (o5_1.set (0 + (Int.toNat x4_1)) (.int (((o1_1).getD (Int.toNat x4_1) 0).toNat : Int)))
  else none
  else none
  else
    some ⟨[.str (bytesOf (List.drop 0 (List.take 32 o5_1)))], [], f103_fresh⟩ := by kernel_rfl
noncomputable def f103 (run : Run) (n : Nat) (a0_1 : List UInt8) : Option Res := evalK G run n f103_info.keep 0 f103_info.body (retE G f103_info) (f103_info.start [.blob a0_1])
theorem f103_eq (run : Run) (n : Nat) (a0_1 : List UInt8) : f103 run n a0_1 =
  f103_l0 run n n 0 a0_1 (List.replicate 32 (.int 0)) := by kernel_rfl
theorem f103_run (ext : Run) (n : Nat) (a0_1 : List UInt8) : runE G ext (n + 1) 103 [.blob a0_1] = f103 (runE G ext n) n a0_1 := runE_succ f103_at f103_in

noncomputable def f101 (run : Run) (n : Nat) (a0_1 : List UInt8) (a1_1 : List UInt8) : Option Res := evalK G run n f101_info.keep 0 f101_info.body (retE G f101_info) (f101_info.start [.blob a0_1, .blob a1_1])
theorem f101_eq (run : Run) (n : Nat) (a0_1 : List UInt8) (a1_1 : List UInt8) : f101 run n a0_1 a1_1 =
  (run 102 [.int 1]).bind fun r1 =>
    nilV r1.outs (consV r1.vals fun v1 vs1 =>
    nilV vs1 ((run 103 [.blob a0_1]).bind fun r2 =>
    nilV r2.outs (consV r2.vals fun v2 vs2 =>
    nilV vs2 (bif Nat.ble (v1.toStr.length + v2.toStr.length) maxLen then
    (run 103 [.blob a1_1]).bind fun r3 =>
    nilV r3.outs (consV r3.vals fun v3 vs3 =>
    nilV vs3 (bif Nat.ble ((v1.toStr ++ v2.toStr).length + v3.toStr.length) maxLen then
    some ⟨[.str ((v1.toStr ++ v2.toStr) ++ v3.toStr)], [], f101_fresh⟩
  else none))
  else none)))) := by kernel_rfl
theorem f101_run (ext : Run) (n : Nat) (a0_1 : List UInt8) (a1_1 : List UInt8) : runE G ext (n + 1) 101 [.blob a0_1, .blob a1_1] = f101 (runE G ext n) n a0_1 a1_1 := runE_succ f101_at f101_in

noncomputable def f68 (run : Run) (n : Nat) (a0_1 : List UInt8) (a1_1 : List UInt8) : Option Res := evalK G run n f68_info.keep 0 f68_info.body (retE G f68_info) (f68_info.start [.blob a0_1, .blob a1_1])
theorem f68_eq (run : Run) (n : Nat) (a0_1 : List UInt8) (a1_1 : List UInt8) : f68 run n a0_1 a1_1 =
  (run 101 [.blob a0_1, .blob a1_1]).bind fun r1 =>
    nilV r1.outs (consV r1.vals fun v1 vs1 =>
    nilV vs1 ((run 60 [.str v1.toStr]).bind fun r2 =>
    nilV r2.outs (consV r2.vals fun v2 vs2 =>
    nilV vs2 (some ⟨[.blob v2.toBlob], [], f68_fresh⟩)))) := by kernel_rfl
theorem f68_run (ext : Run) (n : Nat) (a0_1 : List UInt8) (a1_1 : List UInt8) : runE G ext (n + 1) 68 [.blob a0_1, .blob a1_1] = f68 (runE G ext n) n a0_1 a1_1 := runE_succ f68_at f68_in

noncomputable def f23 (run : Run) (n : Nat) (a0_1 : List AV) : Option Res := evalK G run n f23_info.keep 0 f23_info.body (retE G f23_info) (f23_info.start [.slice a0_1])
theorem f23_eq (run : Run) (n : Nat) (a0_1 : List AV) : f23 run n a0_1 =
  bif eqI (a0_1.length : Int) 0 then
    some ⟨[.blob [0, 0, 0, 0, 0, 0, 0, 0, 0, 0, 0, 0, 0, 0, 0, 0, 0, 0, 0, 0, 0, 0, 0, 0, 0, 0, 0, 0, 0, 0, 0, 0]], [], f23_fresh⟩
  else
    bif eqI (a0_1.length : Int) 1 then
    bif inR 0 a0_1.length then
    some ⟨[.blob ((nth a0_1 0).toBlob)], [], f23_fresh⟩
  else none
  else
    (run 67 [.int (a0_1.length : Int)]).bind fun r1 =>
    nilV r1.outs (consV r1.vals fun v1 vs1 =>
    nilV vs1 (bif boundsOk 0 v1.toInt (a0_1.length : Int) (a0_1.length : Int) && true then
    (run 23 [.slice (List.drop 0 (List.take (Int.toNat v1.toInt) a0_1))]).bind fun r2 =>
    nilV r2.outs (consV r2.vals fun v2 vs2 =>
    nilV vs2 (bif boundsOk v1.toInt (a0_1.length : Int) (a0_1.length : Int) (a0_1.length : Int) && true then
    (run 23 [.slice (List.drop (Int.toNat v1.toInt) (List.take (Int.toNat (a0_1.length : Int)) a0_1))]).bind fun r3 =>
    nilV r3.outs (consV r3.vals fun v3 vs3 =>
    nilV vs3 ((run 68 [.blob v2.toBlob, .blob v3.toBlob]).bind fun r4 =>
    nilV r4.outs (consV r4.vals fun v4 vs4 =>
    nilV vs4 (some ⟨[.blob v4.toBlob], [], f23_fresh⟩))))
  else none))
  else none)) := by kernel_rfl
theorem f23_run (ext : Run) (n : Nat) (a0_1 : List AV) : runE G ext (n + 1) 23 [.slice a0_1] = f23 (runE G ext n) n a0_1 := runE_succ f23_at f23_in

noncomputable def f70 (run : Run) (n : Nat) (a0_1 : Int) (a1_1 : List UInt8) : Option Res := evalK G run n f70_info.keep 0 f70_info.body (retE G f70_info) (f70_info.start [.int a0_1, .blob a1_1])
theorem f70_eq (run : Run) (n : Nat) (a0_1 : Int) (a1_1 : List UInt8) : f70 run n a0_1 a1_1 =
  (run 102 [.int 2]).bind fun r1 =>
    nilV r1.outs (consV r1.vals fun v1 vs1 =>
    nilV vs1 ((run 94 [.int a0_1, .int 8]).bind fun r2 =>
    nilV r2.outs (consV r2.vals fun v2 vs2 =>
    nilV vs2 (bif Nat.ble (v1.toStr.length + v2.toStr.length) maxLen then
    (run 103 [.blob a1_1]).bind fun r3 =>
    nilV r3.outs (consV r3.vals fun v3 vs3 =>
    nilV vs3 (bif Nat.ble ((v1.toStr ++ v2.toStr).length + v3.toStr.length) maxLen then
    some ⟨[.str ((v1.toStr ++ v2.toStr) ++ v3.toStr)], [], f70_fresh⟩
  else none))
  else none)))) := by kernel_rfl
theorem f70_run (ext : Run) (n : Nat) (a0_1 : Int) (a1_1 : List UInt8) : runE G ext (n + 1) 70 [.int a0_1, .blob a1_1] = f70 (runE G ext n) n a0_1 a1_1 := runE_succ f70_at f70_in

noncomputable def f47 (run : Run) (n : Nat) (a0_1 : Int) (a1_1 : List UInt8) : Option Res := evalK G run n f47_info.keep 0 f47_info.body (retE G f47_info) (f47_info.start [.int a0_1, .blob a1_1])
theorem f47_eq (run : Run) (n : Nat) (a0_1 : Int) (a1_1 : List UInt8) : f47 run n a0_1 a1_1 =
  (run 70 [.int a0_1, .blob a1_1]).bind fun r1 =>
    nilV r1.outs (consV r1.vals fun v1 vs1 =>
    nilV vs1 ((run 60 [.str v1.toStr]).bind fun r2 =>
    nilV r2.outs (consV r2.vals fun v2 vs2 =>
    nilV vs2 (some ⟨[.blob v2.toBlob], [], f47_fresh⟩)))) := by kernel_rfl
theorem f47_run (ext : Run) (n : Nat) (a0_1 : Int) (a1_1 : List UInt8) : runE G ext (n + 1) 47 [.int a0_1, .blob a1_1] = f47 (runE G ext n) n a0_1 a1_1 := runE_succ f47_at f47_in

noncomputable def f21 (run : Run) (n : Nat) (a0_1 : List AV) : Option Res := evalK G run n f21_info.keep 0 f21_info.body (retE G f21_info) (f21_info.start [.slice a0_1])
theorem f21_eq (run : Run) (n : Nat) (a0_1 : List AV) : f21 run n a0_1 =
  (run 19 [.slice a0_1]).bind fun r1 =>
    bif r1.fresh then
    nilV r1.outs (consV r1.vals fun v1 vs1 =>
    nilV vs1 ((run 23 [.slice v1.toSlice]).bind fun r2 =>
    nilV r2.outs (consV r2.vals fun v2 vs2 =>
    nilV vs2 ((run 47 [.int (IntKind.wrap .u64 (a0_1.length : Int)), .blob v2.toBlob]).bind fun r3 =>
    nilV r3.outs (consV r3.vals fun v3 vs3 =>
    nilV vs3 (some ⟨[.blob v3.toBlob], [], f21_fresh⟩))))))
  else none := by kernel_rfl
theorem f21_run (ext : Run) (n : Nat) (a0_1 : List AV) : runE G ext (n + 1) 21 [.slice a0_1] = f21 (runE G ext n) n a0_1 := runE_succ f21_at f21_in

noncomputable def f3 (run : Run) (n : Nat) (a0_1 : List AV) : Option Res := evalK G run n f3_info.keep 0 f3_info.body (retE G f3_info) (f3_info.start [.slice a0_1])
theorem f3_eq (run : Run) (n : Nat) (a0_1 : List AV) : f3 run n a0_1 =
  (run 15 [.slice a0_1]).bind fun r1 =>
    nilV r1.outs (consV r1.vals fun v1 vs1 =>
    nilV vs1 (bif v1.toBool then
    (run 16 []).bind fun r2 =>
    nilV r2.outs (consV r2.vals fun v2 vs2 =>
    nilV vs2 (some ⟨[.bool v2.toBool], [], f3_fresh⟩))
  else
    (run 18 [.slice a0_1]).bind fun r3 =>
    bif r3.fresh then
    nilV r3.outs (consV r3.vals fun v3 vs3 =>
    nilV vs3 ((run 19 [.slice a0_1]).bind fun r4 =>
    bif r4.fresh then
    nilV r4.outs (consV r4.vals fun v4 vs4 =>
    nilV vs4 ((run 17 [.slice v3.toSlice, .slice v4.toSlice]).bind fun r5 =>
    nilV r5.outs (consV r5.vals fun v5 vs5 =>
    nilV vs5 (bif v5.toBool then
    (run 20 [.slice a0_1]).bind fun r6 =>
    nilV r6.outs (consV r6.vals fun v6 vs6 =>
    nilV vs6 ((run 21 [.slice a0_1]).bind fun r7 =>
    nilV r7.outs (consV r7.vals fun v7 vs7 =>
    nilV vs7 (bif eqS v6.toBlob v7.toBlob then
    (run 16 []).bind fun r8 =>
    nilV r8.outs (consV r8.vals fun v8 vs8 =>
    nilV vs8 (some ⟨[.bool v8.toBool], [], f3_fresh⟩))
  else
    some ⟨[.bool false], [], f3_fresh⟩))))
  else
    some ⟨[.bool false], [], f3_fresh⟩))))
  else none))
  else none)) := by kernel_rfl
theorem f3_run (ext : Run) (n : Nat) (a0_1 : List AV) : runE G ext (n + 1) 3 [.slice a0_1] = f3 (runE G ext n) n a0_1 := runE_succ f3_at f3_in

noncomputable def f4 (run : Run) (n : Nat) (a0_1 : List AV) : Option Res := evalK G run n f4_info.keep 0 f4_info.body (retE G f4_info) (f4_info.start [.slice a0_1])
theorem f4_eq (run : Run) (n : Nat) (a0_1 : List AV) : f4 run n a0_1 =
  bif ltI 100 (a0_1.length : Int) then
    (run 16 []).bind fun r1 =>
    nilV r1.outs (consV r1.vals fun v1 vs1 =>
    nilV vs1 (some ⟨[.bool v1.toBool], [], f4_fresh⟩))
  else
    (run 22 [.slice a0_1]).bind fun r2 =>
    nilV r2.outs (consV r2.vals fun v2 vs2 =>
    nilV vs2 ((run 23 [.slice a0_1]).bind fun r3 =>
    nilV r3.outs (consV r3.vals fun v3 vs3 =>
    nilV vs3 (bif eqS v2.toBlob v3.toBlob then
    (run 16 []).bind fun r4 =>
    nilV r4.outs (consV r4.vals fun v4 vs4 =>
    nilV vs4 (some ⟨[.bool v4.toBool], [], f4_fresh⟩))
  else
    some ⟨[.bool false], [], f4_fresh⟩)))) := by kernel_rfl
theorem f4_run (ext : Run) (n : Nat) (a0_1 : List AV) : runE G ext (n + 1) 4 [.slice a0_1] = f4 (runE G ext n) n a0_1 := runE_succ f4_at f4_in

noncomputable def f69 (run : Run) (n : Nat) (a0_1 : List AV) : Option Res := evalK G run n f69_info.keep 0 f69_info.body (retE G f69_info) (f69_info.start [.slice a0_1])
theorem f69_eq (run : Run) (n : Nat) (a0_1 : List AV) : f69 run n a0_1 =
  bif ltI (a0_1.length : Int) 2 then
    bif eqI (a0_1.length : Int) 1 then
    bif inR 0 a0_1.length then
    (run 97 [.str ((nth a0_1 0).toStr)]).bind fun r1 =>
    nilV r1.outs (consV r1.vals fun v1 vs1 =>
    nilV vs1 (some ⟨[.slice [.str v1.toStr]], [], f69_fresh⟩))
  else none
  else
    some ⟨[.slice []], [], f69_fresh⟩
  else
    (run 67 [.int (a0_1.length : Int)]).bind fun r2 =>
    nilV r2.outs (consV r2.vals fun v2 vs2 =>
    nilV vs2 (bif boundsOk 0 v2.toInt (a0_1.length : Int) (a0_1.length : Int) && true then
    (run 19 [.slice (List.drop 0 (List.take (Int.toNat v2.toInt) a0_1))]).bind fun r3 =>
    bif r3.fresh then
    nilV r3.outs (consV r3.vals fun v3 vs3 =>
    nilV vs3 ((run 23 [.slice v3.toSlice]).bind fun r4 =>
    nilV r4.outs (consV r4.vals fun v4 vs4 =>
    nilV vs4 (bif boundsOk v2.toInt (a0_1.length : Int) (a0_1.length : Int) (a0_1.length : Int) && true then
    (run 19 [.slice (List.drop (Int.toNat v2.toInt) (List.take (Int.toNat (a0_1.length : Int)) a0_1))]).bind fun r5 =>
    bif r5.fresh then
    nilV r5.outs (consV r5.vals fun v5 vs5 =>
    nilV vs5 ((run 23 [.slice v5.toSlice]).bind fun r6 =>
    nilV r6.outs (consV r6.vals fun v6 vs6 =>
    nilV vs6 ((run 101 [.blob v4.toBlob, .blob v6.toBlob]).bind fun r7 =>
    nilV r7.outs (consV r7.vals fun v7 vs7 =>
    nilV vs7 (bif boundsOk 0 v2.toInt (a0_1.length : Int) (a0_1.length : Int) && true then
    (run 69 [.slice (List.drop 0 (List.take (Int.toNat v2.toInt) a0_1))]).bind fun r8 =>
    bif r8.fresh then
    nilV r8.outs (consV r8.vals fun v8 vs8 =>
    nilV vs8 (bif Nat.ble ((1 + v8.toSlice.length) * 16) 140737488355328 then
    bif boundsOk v2.toInt (a0_1.length : Int) (a0_1.length : Int) (a0_1.length : Int) && true then
    (run 69 [.slice (List.drop (Int.toNat v2.toInt) (List.take (Int.toNat (a0_1.length : Int)) a0_1))]).bind fun r9 =>
    bif r9.fresh then
    nilV r9.outs (consV r9.vals fun v9 vs9 =>
    nilV vs9 (bif Nat.ble ((([.str v7.toStr] ++ v8.toSlice : List AV).length + v9.toSlice.length) * 16) 140737488355328 then
    some ⟨[.slice (([.str v7.toStr] ++ v8.toSlice) ++ v9.toSlice)], [], f69_fresh⟩
  else none))
  else none
  else none
  else none))
  else none
  else none))))))
  else none
  else none))))
  else none
  else none)) := by kernel_rfl
theorem f69_run (ext : Run) (n : Nat) (a0_1 : List AV) : runE G ext (n + 1) 69 [.slice a0_1] = f69 (runE G ext n) n a0_1 := runE_succ f69_at f69_in

noncomputable def f24_l2 (run : Run) (n : Nat) (k0 : Nat) (k2 : Nat) (x5_2 : List AV) (x6_2 : List AV) (x7_2 : Int) (x8_1 : Int) : Option Res :=
  iterK (evalK G run n f24_keep 2 (sub [1, 1, 1, 0, 1, 0, 0, 1, 0, 0, 1, 0, 0] f24_body)) f24_t2 f24_o2 (blockK 2 (blockK 1 (seqK (evalK G run n f24_keep 0 (sub [1, 1, 1, 0, 1, 0, 0, 1, 1] f24_body) (seqK (fun t => iterK (evalK G run n f24_keep 0 (sub [1, 1, 1, 0, 1, 0, 0] f24_body)) f24_t0 f24_o0 (blockK 0 (seqK (evalK G run n f24_keep 0 (sub [1, 1, 1, 1] f24_body) (retE G f24_info)) (retE G f24_info))) k0 (t.clear f24_t0 f24_o0)) (blockK 0 (seqK (evalK G run n f24_keep 0 (sub [1, 1, 1, 1] f24_body) (retE G f24_info)) (retE G f24_info))))) (seqK (fun t => iterK (evalK G run n f24_keep 0 (sub [1, 1, 1, 0, 1, 0, 0] f24_body)) f24_t0 f24_o0 (blockK 0 (seqK (evalK G run n f24_keep 0 (sub [1, 1, 1, 1] f24_body) (retE G f24_info)) (retE G f24_info))) k0 (t.clear f24_t0 f24_o0)) (blockK 0 (seqK (evalK G run n f24_keep 0 (sub [1, 1, 1, 1] f24_body) (retE G f24_info)) (retE G f24_info))))))) k2
    ⟨[.any, .any, .any, .any, .any, .val (.slice .str) (some (5, 0)) (.slice x5_2), .val (.slice .str) (some (6, 0)) (.slice x6_2), .val (.int .i64) none (.int x7_2), .val (.int .i64) none (.int x8_1), .any, .any, .any, .any, .any, .any, .any, .any, .any, .any, .any, .any, .any, .any, .any, .any, .any, .any, .any, .any, .any, .any, .any, .any, .any, .any, .any, .any, .any, .any, .any, .any, .any, .any, .any, .any, .any, .any, .any, .any, .any, .any, .any, .any, .any, .any, .any, .any, .any, .any, .any, .any, .any, .any, .any, .any], [⟨0, none⟩, ⟨0, none⟩, ⟨0, none⟩, ⟨0, none⟩, ⟨0, none⟩, ⟨0, none⟩, ⟨0, none⟩, ⟨0, none⟩, ⟨0, none⟩, ⟨0, none⟩, ⟨0, none⟩, ⟨0, none⟩, ⟨0, none⟩, ⟨0, none⟩, ⟨0, none⟩, ⟨0, none⟩, ⟨0, none⟩, ⟨0, none⟩, ⟨0, none⟩, ⟨0, none⟩, ⟨0, none⟩, ⟨0, none⟩, ⟨0, none⟩, ⟨0, none⟩, ⟨0, none⟩, ⟨0, none⟩, ⟨0, none⟩, ⟨0, none⟩, ⟨0, none⟩, ⟨0, none⟩, ⟨0, none⟩, ⟨0, none⟩, ⟨0, none⟩, ⟨0, none⟩, ⟨0, none⟩, ⟨0, none⟩, ⟨0, none⟩, ⟨0, none⟩, ⟨0, none⟩, ⟨0, none⟩, ⟨0, none⟩, ⟨0, none⟩, ⟨0, none⟩, ⟨0, none⟩, ⟨0, none⟩, ⟨0, none⟩, ⟨0, none⟩, ⟨0, none⟩, ⟨0, none⟩, ⟨0, none⟩, ⟨0, none⟩, ⟨0, none⟩, ⟨0, none⟩, ⟨0, none⟩, ⟨0, none⟩, ⟨0, none⟩, ⟨0, none⟩, ⟨0, none⟩, ⟨0, none⟩, ⟨0, none⟩, ⟨0, none⟩, ⟨0, none⟩, ⟨0, none⟩, ⟨0, none⟩, ⟨0, none⟩], List.replicate 65 0⟩
noncomputable def f24_l0 (run : Run) (n : Nat) (k0 : Nat) (x5_1 : List AV) (x6_1 : List AV) (x7_1 : Int) : Option Res :=
  iterK (evalK G run n f24_keep 0 (sub [1, 1, 1, 0, 1, 0, 0] f24_body)) f24_t0 f24_o0 (blockK 0 (seqK (evalK G run n f24_keep 0 (sub [1, 1, 1, 1] f24_body) (retE G f24_info)) (retE G f24_info))) k0
    ⟨[.any, .any, .any, .any, .any, .val (.slice .str) (some (5, 0)) (.slice x5_1), .val (.slice .str) (some (6, 0)) (.slice x6_1), .val (.int .i64) none (.int x7_1), .any, .any, .any, .any, .any, .any, .any, .any, .any, .any, .any, .any, .any, .any, .any, .any, .any, .any, .any, .any, .any, .any, .any, .any, .any, .any, .any, .any, .any, .any, .any, .any, .any, .any, .any, .any, .any, .any, .any, .any, .any, .any, .any, .any, .any, .any, .any, .any, .any, .any, .any, .any, .any, .any, .any, .any, .any], [⟨0, none⟩, ⟨0, none⟩, ⟨0, none⟩, ⟨0, none⟩, ⟨0, none⟩, ⟨0, none⟩, ⟨0, none⟩, ⟨0, none⟩, ⟨0, none⟩, ⟨0, none⟩, ⟨0, none⟩, ⟨0, none⟩, ⟨0, none⟩, ⟨0, none⟩, ⟨0, none⟩, ⟨0, none⟩, ⟨0, none⟩, ⟨0, none⟩, ⟨0, none⟩, ⟨0, none⟩, ⟨0, none⟩, ⟨0, none⟩, ⟨0, none⟩, ⟨0, none⟩, ⟨0, none⟩, ⟨0, none⟩, ⟨0, none⟩, ⟨0, none⟩, ⟨0, none⟩, ⟨0, none⟩, ⟨0, none⟩, ⟨0, none⟩, ⟨0, none⟩, ⟨0, none⟩, ⟨0, none⟩, ⟨0, none⟩, ⟨0, none⟩, ⟨0, none⟩, ⟨0, none⟩, ⟨0, none⟩, ⟨0, none⟩, ⟨0, none⟩, ⟨0, none⟩, ⟨0, none⟩, ⟨0, none⟩, ⟨0, none⟩, ⟨0, none⟩, ⟨0, none⟩, ⟨0, none⟩, ⟨0, none⟩, ⟨0, none⟩, ⟨0, none⟩, ⟨0, none⟩, ⟨0, none⟩, ⟨0, none⟩, ⟨0, none⟩, ⟨0, none⟩, ⟨0, none⟩, ⟨0, none⟩, ⟨0, none⟩, ⟨0, none⟩, ⟨0, none⟩, ⟨0, none⟩, ⟨0, none⟩, ⟨0, none⟩], List.replicate 65 0⟩
theorem f24_l2_eq (run : Run) (n : Nat) (k0 : Nat) (k2 : Nat) (x5_2 : List AV) (x6_2 : List AV) (x7_2 : Int) (x8_1 : Int) : f24_l2 run n k0 (k2 + 1) x5_2 x6_2 x7_2 x8_1 =
  bif ltI x8_1 (x6_2.length : Int) then
    bif inR x7_2 x5_2.length then
    bif inR x8_1 x6_2.length then
    bif !(eqS ((nth x5_2 (Int.toNat x7_2)).toStr) ((nth x6_2 (Int.toNat x8_1)).toStr)) then
    bif inR x7_2 x5_2.length then
    (run 60 [.str ((nth x5_2 (Int.toNat x7_2)).toStr)]).bind fun r9 =>
    nilV r9.outs (consV r9.vals fun v9 vs9 =>
    nilV vs9 (bif inR x8_1 x6_2.length then
    (run 60 [.str ((nth x6_2 (Int.toNat x8_1)).toStr)]).bind fun r10 =>
    nilV r10.outs (consV r10.vals fun v10 vs10 =>
    nilV vs10 (bif eqS v9.toBlob v10.toBlob then
    some ⟨[.bool true], [], f24_fresh⟩
  else
    f24_l2 run n k0 k2 x5_2 x6_2 x7_2 (IntKind.wrap .i64 (x8_1 + 1))))
  else none))
  else none
  else
    f24_l2 run n k0 k2 x5_2 x6_2 x7_2 (IntKind.wrap .i64 (x8_1 + 1))
  else none
  else none
  else
    f24_l0 run n k0 x5_2 x6_2 (IntKind.wrap .i64 (x7_2 + 1)) := by kernel_rfl
theorem f24_l0_eq (run : Run) (n : Nat) (k0 : Nat) (x5_1 : List AV) (x6_1 : List AV) (x7_1 : Int) : f24_l0 run n (k0 + 1) x5_1 x6_1 x7_1 =
  bif ltI x7_1 (x5_1.length : Int) then
    f24_l2 run n k0 n x5_1 x6_1 x7_1 0
  else
    some ⟨[.bool false], [], f24_fresh⟩ := by kernel_rfl
noncomputable def f24 (run : Run) (n : Nat) (a0_1 : List AV) (a1_1 : List AV) : Option Res := evalK G run n f24_info.keep 0 f24_info.body (retE G f24_info) (f24_info.start [.slice a0_1, .slice a1_1])
theorem f24_eq (run : Run) (n : Nat) (a0_1 : List AV) (a1_1 : List AV) : f24 run n a0_1 a1_1 =
  (run 69 [.slice a0_1]).bind fun r1 =>
    bif r1.fresh then
    nilV r1.outs (consV r1.vals fun v1 vs1 =>
    nilV vs1 ((run 19 [.slice a0_1]).bind fun r2 =>
    bif r2.fresh then
    nilV r2.outs (consV r2.vals fun v2 vs2 =>
    nilV vs2 ((run 23 [.slice v2.toSlice]).bind fun r3 =>
    nilV r3.outs (consV r3.vals fun v3 vs3 =>
    nilV vs3 ((run 70 [.int (IntKind.wrap .u64 (a0_1.length : Int)), .blob v3.toBlob]).bind fun r4 =>
    nilV r4.outs (consV r4.vals fun v4 vs4 =>
    nilV vs4 (bif Nat.ble ((v1.toSlice.length + 1) * 16) 140737488355328 then
    (run 69 [.slice a1_1]).bind fun r5 =>
    bif r5.fresh then
    nilV r5.outs (consV r5.vals fun v5 vs5 =>
    nilV vs5 ((run 19 [.slice a1_1]).bind fun r6 =>
    bif r6.fresh then
    nilV r6.outs (consV r6.vals fun v6 vs6 =>
    nilV vs6 ((run 23 [.slice v6.toSlice]).bind fun r7 =>
    nilV r7.outs (consV r7.vals fun v7 vs7 =>
    nilV vs7 ((run 70 [.int (IntKind.wrap .u64 (a1_1.length : Int)), .blob v7.toBlob]).bind fun r8 =>
    nilV r8.outs (consV r8.vals fun v8 vs8 =>
    nilV vs8 (bif Nat.ble ((v5.toSlice.length + 1) * 16) 140737488355328 then
    f24_l0 run n n (v1.toSlice ++ [.str v4.toStr]) (v5.toSlice ++ [.str v8.toStr]) 0
  else none))))))
  else none))
  else none
  else none))))))
  else none))
  else none := by kernel_rfl
theorem f24_run (ext : Run) (n : Nat) (a0_1 : List AV) (a1_1 : List AV) : runE G ext (n + 1) 24 [.slice a0_1, .slice a1_1] = f24 (runE G ext n) n a0_1 a1_1 := runE_succ f24_at f24_in

noncomputable def f5_l0 (run : Run) (n : Nat) (k0 : Nat) (x0_1 : List AV) (x1_1 : List AV) (x5_1 : Bool) (x6_1 : Int) : Option Res :=
  iterK (evalK G run n f5_keep 0 (sub [1, 1, 1, 0, 1, 0, 0] f5_body)) f5_t0 f5_o0 (blockK 0 (seqK (evalK G run n f5_keep 0 (sub [1, 1, 1, 1] f5_body) (retE G f5_info)) (retE G f5_info))) k0
    ⟨[.val (.slice .str) none (.slice x0_1), .val (.slice .str) none (.slice x1_1), .any, .any, .any, .val .bool none (.bool x5_1), .val (.int .i64) none (.int x6_1), .any, .any, .any, .any, .any, .any, .any, .any, .any, .any, .any, .any, .any, .any, .any, .any, .any, .any, .any, .any, .any, .any, .any, .any, .any, .any, .any, .any, .any, .any, .any, .any, .any, .any, .any, .any, .any, .any, .any, .any, .any, .any, .any, .any, .any, .any, .any, .any, .any, .any, .any], [⟨0, none⟩, ⟨0, none⟩, ⟨0, none⟩, ⟨0, none⟩, ⟨0, none⟩, ⟨0, none⟩, ⟨0, none⟩, ⟨0, none⟩, ⟨0, none⟩, ⟨0, none⟩, ⟨0, none⟩, ⟨0, none⟩, ⟨0, none⟩, ⟨0, none⟩, ⟨0, none⟩, ⟨0, none⟩, ⟨0, none⟩, ⟨0, none⟩, ⟨0, none⟩, ⟨0, none⟩, ⟨0, none⟩, ⟨0, none⟩, ⟨0, none⟩, ⟨0, none⟩, ⟨0, none⟩, ⟨0, none⟩, ⟨0, none⟩, ⟨0, none⟩, ⟨0, none⟩, ⟨0, none⟩, ⟨0, none⟩, ⟨0, none⟩, ⟨0, none⟩, ⟨0, none⟩, ⟨0, none⟩, ⟨0, none⟩, ⟨0, none⟩, ⟨0, none⟩, ⟨0, none⟩, ⟨0, none⟩, ⟨0, none⟩, ⟨0, none⟩, ⟨0, none⟩, ⟨0, none⟩, ⟨0, none⟩, ⟨0, none⟩, ⟨0, none⟩, ⟨0, none⟩, ⟨0, none⟩, ⟨0, none⟩, ⟨0, none⟩, ⟨0, none⟩, ⟨0, none⟩, ⟨0, none⟩, ⟨0, none⟩, ⟨0, none⟩, ⟨0, none⟩, ⟨0, none⟩], List.replicate 58 0⟩
theorem f5_l0_eq (run : Run) (n : Nat) (k0 : Nat) (x0_1 : List AV) (x1_1 : List AV) (x5_1 : Bool) (x6_1 : Int) : f5_l0 run n (k0 + 1) x0_1 x1_1 x5_1 x6_1 =
  bif ltI x6_1 (x0_1.length : Int) then
    bif x5_1 then
    bif inR x6_1 x0_1.length then
    bif inR x6_1 x1_1.length then
    f5_l0 run n k0 x0_1 x1_1 (eqS ((nth x0_1 (Int.toNat x6_1)).toStr) ((nth x1_1 (Int.toNat x6_1)).toStr)) (IntKind.wrap .i64 (x6_1 + 1))
  else none
  else none
  else
    (run 20 [.slice x0_1]).bind fun r5 =>
    nilV r5.outs (consV r5.vals fun v5 vs5 =>
    nilV vs5 ((run 20 [.slice x1_1]).bind fun r6 =>
    nilV r6.outs (consV r6.vals fun v6 vs6 =>
    nilV vs6 (bif eqO x5_1 (eqS v5.toBlob v6.toBlob) then
    (run 16 []).bind fun r7 =>
    nilV r7.outs (consV r7.vals fun v7 vs7 =>
    nilV vs7 (some ⟨[.bool v7.toBool], [], f5_fresh⟩))
  else
    bif !x5_1 then
    (run 24 [.slice x0_1, .slice x1_1]).bind fun r8 =>
    nilV r8.outs (consV r8.vals fun v8 vs8 =>
    nilV vs8 (bif v8.toBool then
    (run 16 []).bind fun r9 =>
    nilV r9.outs (consV r9.vals fun v9 vs9 =>
    nilV vs9 (some ⟨[.bool v9.toBool], [], f5_fresh⟩))
  else
    some ⟨[.bool false], [], f5_fresh⟩))
  else
    some ⟨[.bool false], [], f5_fresh⟩))))
  else
    (run 20 [.slice x0_1]).bind fun r10 =>
    nilV r10.outs (consV r10.vals fun v10 vs10 =>
    nilV vs10 ((run 20 [.slice x1_1]).bind fun r11 =>
    nilV r11.outs (consV r11.vals fun v11 vs11 =>
    nilV vs11 (bif eqO x5_1 (eqS v10.toBlob v11.toBlob) then
    (run 16 []).bind fun r12 =>
    nilV r12.outs (consV r12.vals fun v12 vs12 =>
    nilV vs12 (some ⟨[.bool v12.toBool], [], f5_fresh⟩))
  else
    bif !x5_1 then
    (run 24 [.slice x0_1, .slice x1_1]).bind fun r13 =>
    nilV r13.outs (consV r13.vals fun v13 vs13 =>
    nilV vs13 (bif v13.toBool then
    (run 16 []).bind fun r14 =>
    nilV r14.outs (consV r14.vals fun v14 vs14 =>
    nilV vs14 (some ⟨[.bool v14.toBool], [], f5_fresh⟩))
  else
    some ⟨[.bool false], [], f5_fresh⟩))
  else
    some ⟨[.bool false], [], f5_fresh⟩)))) := by kernel_rfl
noncomputable def f5 (run : Run) (n : Nat) (a0_1 : List AV) (a1_1 : List AV) : Option Res := evalK G run n f5_info.keep 0 f5_info.body (retE G f5_info) (f5_info.start [.slice a0_1, .slice a1_1])
theorem f5_eq (run : Run) (n : Nat) (a0_1 : List AV) (a1_1 : List AV) : f5 run n a0_1 a1_1 =
  (run 15 [.slice a0_1]).bind fun r1 =>
    nilV r1.outs (consV r1.vals fun v1 vs1 =>
    nilV vs1 (bif v1.toBool then
    (run 16 []).bind fun r2 =>
    nilV r2.outs (consV r2.vals fun v2 vs2 =>
    nilV vs2 (some ⟨[.bool v2.toBool], [], f5_fresh⟩))
  else
    (run 15 [.slice a1_1]).bind fun r3 =>
    nilV r3.outs (consV r3.vals fun v3 vs3 =>
    nilV vs3 (bif v3.toBool then
    (run 16 []).bind fun r4 =>
    nilV r4.outs (consV r4.vals fun v4 vs4 =>
    nilV vs4 (some ⟨[.bool v4.toBool], [], f5_fresh⟩))
  else
    f5_l0 run n n a0_1 a1_1 (eqI (a0_1.length : Int) (a1_1.length : Int)) 0)))) := by kernel_rfl
theorem f5_run (ext : Run) (n : Nat) (a0_1 : List AV) (a1_1 : List AV) : runE G ext (n + 1) 5 [.slice a0_1, .slice a1_1] = f5 (runE G ext n) n a0_1 a1_1 := runE_succ f5_at f5_in

noncomputable def f71 (run : Run) (n : Nat) (a0_1 : List AV) (a1_1 : Int) : Option Res := evalK G run n f71_info.keep 0 f71_info.body (retE G f71_info) (f71_info.start [.slice a0_1, .int a1_1])
theorem f71_eq (run : Run) (n : Nat) (a0_1 : List AV) (a1_1 : Int) : f71 run n a0_1 a1_1 =
  bif ltI (a0_1.length : Int) 2 then
    some ⟨[.slice []], [], f71_fresh⟩
  else
    (run 99 [.int (a0_1.length : Int)]).bind fun r1 =>
    nilV r1.outs (consV r1.vals fun v1 vs1 =>
    nilV vs1 (bif ltI a1_1 v1.toInt then
    bif boundsOk 0 v1.toInt (a0_1.length : Int) (a0_1.length : Int) && true then
    (run 71 [.slice (List.drop 0 (List.take (Int.toNat v1.toInt) a0_1)), .int a1_1]).bind fun r2 =>
    bif r2.fresh then
    nilV r2.outs (consV r2.vals fun v2 vs2 =>
    nilV vs2 (bif boundsOk v1.toInt (a0_1.length : Int) (a0_1.length : Int) (a0_1.length : Int) && true then
    (run 22 [.slice (List.drop (Int.toNat v1.toInt) (List.take (Int.toNat (a0_1.length : Int)) a0_1))]).bind fun r3 =>
    nilV r3.outs (consV r3.vals fun v3 vs3 =>
    nilV vs3 (bif Nat.ble ((v2.toSlice.length + 1) * 32) 140737488355328 then
    some ⟨[.slice (v2.toSlice ++ [.blob v3.toBlob])], [], f71_fresh⟩
  else none))
  else none))
  else none
  else none
  else
    bif boundsOk v1.toInt (a0_1.length : Int) (a0_1.length : Int) (a0_1.length : Int) && true then
    (run 71 [.slice (List.drop (Int.toNat v1.toInt) (List.take (Int.toNat (a0_1.length : Int)) a0_1)), .int (IntKind.wrap .i64 (a1_1 - v1.toInt))]).bind fun r4 =>
    bif r4.fresh then
    nilV r4.outs (consV r4.vals fun v4 vs4 =>
    nilV vs4 (bif boundsOk 0 v1.toInt (a0_1.length : Int) (a0_1.length : Int) && true then
    (run 22 [.slice (List.drop 0 (List.take (Int.toNat v1.toInt) a0_1))]).bind fun r5 =>
    nilV r5.outs (consV r5.vals fun v5 vs5 =>
    nilV vs5 (bif Nat.ble ((v4.toSlice.length + 1) * 32) 140737488355328 then
    some ⟨[.slice (v4.toSlice ++ [.blob v5.toBlob])], [], f71_fresh⟩
  else none))
  else none))
  else none
  else none)) := by kernel_rfl
theorem f71_run (ext : Run) (n : Nat) (a0_1 : List AV) (a1_1 : Int) : runE G ext (n + 1) 71 [.slice a0_1, .int a1_1] = f71 (runE G ext n) n a0_1 a1_1 := runE_succ f71_at f71_in

noncomputable def f26 (run : Run) (n : Nat) (a0_1 : List AV) (a1_1 : Int) : Option Res := evalK G run n f26_info.keep 0 f26_info.body (retE G f26_info) (f26_info.start [.slice a0_1, .int a1_1])
theorem f26_eq (run : Run) (n : Nat) (a0_1 : List AV) (a1_1 : Int) : f26 run n a0_1 a1_1 =
  bif ltI 1048576 (a0_1.length : Int) then
    some ⟨[.agg [.int 0, .int 0, .slice []], .int 4], [], f26_fresh⟩
  else
    bif ltI a1_1 0 then
    some ⟨[.agg [.int 0, .int 0, .slice []], .int 3], [], f26_fresh⟩
  else
    bif leI (a0_1.length : Int) a1_1 then
    some ⟨[.agg [.int 0, .int 0, .slice []], .int 3], [], f26_fresh⟩
  else
    (run 18 [.slice a0_1]).bind fun r1 =>
    bif r1.fresh then
    nilV r1.outs (consV r1.vals fun v1 vs1 =>
    nilV vs1 ((run 71 [.slice v1.toSlice, .int a1_1]).bind fun r2 =>
    bif r2.fresh then
    nilV r2.outs (consV r2.vals fun v2 vs2 =>
    nilV vs2 (some ⟨[.agg [.int a1_1, .int (a0_1.length : Int), .slice v2.toSlice], .int 0], [], f26_fresh⟩))
  else none))
  else none := by kernel_rfl
theorem f26_run (ext : Run) (n : Nat) (a0_1 : List AV) (a1_1 : Int) : runE G ext (n + 1) 26 [.slice a0_1, .int a1_1] = f26 (runE G ext n) n a0_1 a1_1 := runE_succ f26_at f26_in

noncomputable def f25 (run : Run) (n : Nat) : Option Res := evalK G run n f25_info.keep 0 f25_info.body (retE G f25_info) (f25_info.start [])
theorem f25_eq (run : Run) (n : Nat) : f25 run n  =
  (run 26 [.slice [.str [97]], .int 0]).bind fun r1 =>
    nilV r1.outs (consV r1.vals fun v1 vs1 =>
    consV vs1 fun v2 vs2 =>
    nilV vs2 ((run 26 [.slice [.str [97]], .int 1]).bind fun r2 =>
    nilV r2.outs (consV r2.vals fun _v3 vs3 =>
    consV vs3 fun v4 vs4 =>
    nilV vs4 (bif eqI v2.toInt 0 then
    bif eqI ((v1.fld 0).toInt) 0 then
    bif eqI ((v1.fld 1).toInt) 1 then
    bif eqI (((v1.fld 2).toSlice).length : Int) 0 then
    some ⟨[.bool (eqI v4.toInt 3)], [], f25_fresh⟩
  else
    some ⟨[.bool false], [], f25_fresh⟩
  else
    some ⟨[.bool false], [], f25_fresh⟩
  else
    some ⟨[.bool false], [], f25_fresh⟩
  else
    some ⟨[.bool false], [], f25_fresh⟩)))) := by kernel_rfl
theorem f25_run (ext : Run) (n : Nat) : runE G ext (n + 1) 25 [] = f25 (runE G ext n) n  := runE_succ f25_at f25_in

noncomputable def f72 (run : Run) (n : Nat) (a0_1 : List AV) (a1_1 : Int) : Option Res := evalK G run n f72_info.keep 0 f72_info.body (retE G f72_info) (f72_info.start [.slice a0_1, .int a1_1])
theorem f72_eq (run : Run) (n : Nat) (a0_1 : List AV) (a1_1 : Int) : f72 run n a0_1 a1_1 =
  bif eqI (a0_1.length : Int) 1 then
    some ⟨[.slice []], [], f72_fresh⟩
  else
    (run 67 [.int (a0_1.length : Int)]).bind fun r1 =>
    nilV r1.outs (consV r1.vals fun v1 vs1 =>
    nilV vs1 (bif ltI a1_1 v1.toInt then
    bif boundsOk 0 v1.toInt (a0_1.length : Int) (a0_1.length : Int) && true then
    (run 72 [.slice (List.drop 0 (List.take (Int.toNat v1.toInt) a0_1)), .int a1_1]).bind fun r2 =>
    bif r2.fresh then
    nilV r2.outs (consV r2.vals fun v2 vs2 =>
    nilV vs2 (bif boundsOk v1.toInt (a0_1.length : Int) (a0_1.length : Int) (a0_1.length : Int) && true then
    (run 23 [.slice (List.drop (Int.toNat v1.toInt) (List.take (Int.toNat (a0_1.length : Int)) a0_1))]).bind fun r3 =>
    nilV r3.outs (consV r3.vals fun v3 vs3 =>
    nilV vs3 (bif Nat.ble ((v2.toSlice.length + 1) * 32) 140737488355328 then
    some ⟨[.slice (v2.toSlice ++ [.blob v3.toBlob])], [], f72_fresh⟩
  else none))
  else none))
  else none
  else none
  else
    bif boundsOk v1.toInt (a0_1.length : Int) (a0_1.length : Int) (a0_1.length : Int) && true then
    (run 72 [.slice (List.drop (Int.toNat v1.toInt) (List.take (Int.toNat (a0_1.length : Int)) a0_1)), .int (IntKind.wrap .i64 (a1_1 - v1.toInt))]).bind fun r4 =>
    bif r4.fresh then
    nilV r4.outs (consV r4.vals fun v4 vs4 =>
    nilV vs4 (bif boundsOk 0 v1.toInt (a0_1.length : Int) (a0_1.length : Int) && true then
    (run 23 [.slice (List.drop 0 (List.take (Int.toNat v1.toInt) a0_1))]).bind fun r5 =>
    nilV r5.outs (consV r5.vals fun v5 vs5 =>
    nilV vs5 (bif Nat.ble ((v4.toSlice.length + 1) * 32) 140737488355328 then
    some ⟨[.slice (v4.toSlice ++ [.blob v5.toBlob])], [], f72_fresh⟩
  else none))
  else none))
  else none
  else none)) := by kernel_rfl
theorem f72_run (ext : Run) (n : Nat) (a0_1 : List AV) (a1_1 : Int) : runE G ext (n + 1) 72 [.slice a0_1, .int a1_1] = f72 (runE G ext n) n a0_1 a1_1 := runE_succ f72_at f72_in

noncomputable def f27 (run : Run) (n : Nat) (a0_1 : List AV) (a1_1 : Int) : Option Res := evalK G run n f27_info.keep 0 f27_info.body (retE G f27_info) (f27_info.start [.slice a0_1, .int a1_1])
theorem f27_eq (run : Run) (n : Nat) (a0_1 : List AV) (a1_1 : Int) : f27 run n a0_1 a1_1 =
  bif ltI 1048576 (a0_1.length : Int) then
    some ⟨[.agg [.int 0, .int 0, .slice []], .int 4], [], f27_fresh⟩
  else
    bif ltI a1_1 0 then
    some ⟨[.agg [.int 0, .int 0, .slice []], .int 3], [], f27_fresh⟩
  else
    bif leI (a0_1.length : Int) a1_1 then
    some ⟨[.agg [.int 0, .int 0, .slice []], .int 3], [], f27_fresh⟩
  else
    (run 19 [.slice a0_1]).bind fun r1 =>
    bif r1.fresh then
    nilV r1.outs (consV r1.vals fun v1 vs1 =>
    nilV vs1 ((run 72 [.slice v1.toSlice, .int a1_1]).bind fun r2 =>
    bif r2.fresh then
    nilV r2.outs (consV r2.vals fun v2 vs2 =>
    nilV vs2 (some ⟨[.agg [.int a1_1, .int (a0_1.length : Int), .slice v2.toSlice], .int 0], [], f27_fresh⟩))
  else none))
  else none := by kernel_rfl
theorem f27_run (ext : Run) (n : Nat) (a0_1 : List AV) (a1_1 : Int) : runE G ext (n + 1) 27 [.slice a0_1, .int a1_1] = f27 (runE G ext n) n a0_1 a1_1 := runE_succ f27_at f27_in

noncomputable def f28 (run : Run) (n : Nat) (a0_1 : Int) (a0_2 : Int) (a0_3 : List AV) (a1_1 : Int) (a1_2 : Int) (a1_3 : List AV) : Option Res := evalK G run n f28_info.keep 0 f28_info.body (retE G f28_info) (f28_info.start [.agg [.int a0_1, .int a0_2, .slice a0_3], .agg [.int a1_1, .int a1_2, .slice a1_3]])
theorem f28_eq (run : Run) (n : Nat) (a0_1 : Int) (a0_2 : Int) (a0_3 : List AV) (a1_1 : Int) (a1_2 : Int) (a1_3 : List AV) : f28 run n a0_1 a0_2 a0_3 a1_1 a1_2 a1_3 =
  bif eqI a0_1 a1_1 then
    bif eqI a0_2 a1_2 then
    (run 17 [.slice a0_3, .slice a1_3]).bind fun r1 =>
    nilV r1.outs (consV r1.vals fun v1 vs1 =>
    nilV vs1 (some ⟨[.bool v1.toBool], [], f28_fresh⟩))
  else
    some ⟨[.bool false], [], f28_fresh⟩
  else
    some ⟨[.bool false], [], f28_fresh⟩ := by kernel_rfl
theorem f28_run (ext : Run) (n : Nat) (a0_1 : Int) (a0_2 : Int) (a0_3 : List AV) (a1_1 : Int) (a1_2 : Int) (a1_3 : List AV) : runE G ext (n + 1) 28 [.agg [.int a0_1, .int a0_2, .slice a0_3], .agg [.int a1_1, .int a1_2, .slice a1_3]] = f28 (runE G ext n) n a0_1 a0_2 a0_3 a1_1 a1_2 a1_3 := runE_succ f28_at f28_in

noncomputable def f73 (run : Run) (n : Nat) (a0_1 : Int) (a1_1 : Int) : Option Res := evalK G run n f73_info.keep 0 f73_info.body (retE G f73_info) (f73_info.start [.int a0_1, .int a1_1])
theorem f73_eq (run : Run) (n : Nat) (a0_1 : Int) (a1_1 : Int) : f73 run n a0_1 a1_1 =
  bif ltI a1_1 0 then
    some ⟨[.slice []], [], f73_fresh⟩
  else
    bif leI a0_1 a1_1 then
    some ⟨[.slice []], [], f73_fresh⟩
  else
    bif eqI a0_1 1 then
    some ⟨[.slice []], [], f73_fresh⟩
  else
    (run 67 [.int a0_1]).bind fun r1 =>
    nilV r1.outs (consV r1.vals fun v1 vs1 =>
    nilV vs1 (bif ltI a1_1 v1.toInt then
    (run 73 [.int v1.toInt, .int a1_1]).bind fun r2 =>
    bif r2.fresh then
    nilV r2.outs (consV r2.vals fun v2 vs2 =>
    nilV vs2 (bif Nat.ble ((v2.toSlice.length + 1) * 1) 140737488355328 then
    some ⟨[.slice (v2.toSlice ++ [.bool false])], [], f73_fresh⟩
  else none))
  else none
  else
    (run 73 [.int (IntKind.wrap .i64 (a0_1 - v1.toInt)), .int (IntKind.wrap .i64 (a1_1 - v1.toInt))]).bind fun r3 =>
    bif r3.fresh then
    nilV r3.outs (consV r3.vals fun v3 vs3 =>
    nilV vs3 (bif Nat.ble ((v3.toSlice.length + 1) * 1) 140737488355328 then
    some ⟨[.slice (v3.toSlice ++ [.bool true])], [], f73_fresh⟩
  else none))
  else none)) := by kernel_rfl
theorem f73_run (ext : Run) (n : Nat) (a0_1 : Int) (a1_1 : Int) : runE G ext (n + 1) 73 [.int a0_1, .int a1_1] = f73 (runE G ext n) n a0_1 a1_1 := runE_succ f73_at f73_in

noncomputable def f29 (run : Run) (n : Nat) (a0_1 : Int) (a1_1 : Int) : Option Res := evalK G run n f29_info.keep 0 f29_info.body (retE G f29_info) (f29_info.start [.int a0_1, .int a1_1])
theorem f29_eq (run : Run) (n : Nat) (a0_1 : Int) (a1_1 : Int) : f29 run n a0_1 a1_1 =
  bif ltI a1_1 0 then
    some ⟨[.int (-1)], [], f29_fresh⟩
  else
    bif leI a0_1 a1_1 then
    some ⟨[.int (-1)], [], f29_fresh⟩
  else
    (run 73 [.int a0_1, .int a1_1]).bind fun r1 =>
    bif r1.fresh then
    nilV r1.outs (consV r1.vals fun v1 vs1 =>
    nilV vs1 (some ⟨[.int (v1.toSlice.length : Int)], [], f29_fresh⟩))
  else none := by kernel_rfl
theorem f29_run (ext : Run) (n : Nat) (a0_1 : Int) (a1_1 : Int) : runE G ext (n + 1) 29 [.int a0_1, .int a1_1] = f29 (runE G ext n) n a0_1 a1_1 := runE_succ f29_at f29_in

noncomputable def f6 (run : Run) (n : Nat) (a0_1 : List AV) (a1_1 : Int) : Option Res := evalK G run n f6_info.keep 0 f6_info.body (retE G f6_info) (f6_info.start [.slice a0_1, .int a1_1])
theorem f6_eq (run : Run) (n : Nat) (a0_1 : List AV) (a1_1 : Int) : f6 run n a0_1 a1_1 =
  (run 15 [.slice a0_1]).bind fun r1 =>
    nilV r1.outs (consV r1.vals fun v1 vs1 =>
    nilV vs1 (bif v1.toBool then
    (run 25 []).bind fun r2 =>
    nilV r2.outs (consV r2.vals fun v2 vs2 =>
    nilV vs2 (some ⟨[.bool v2.toBool], [], f6_fresh⟩))
  else
    (run 26 [.slice a0_1, .int a1_1]).bind fun r3 =>
    nilV r3.outs (consV r3.vals fun v3 vs3 =>
    consV vs3 fun v4 vs4 =>
    nilV vs4 ((run 27 [.slice a0_1, .int a1_1]).bind fun r4 =>
    nilV r4.outs (consV r4.vals fun v5 vs5 =>
    consV vs5 fun v6 vs6 =>
    nilV vs6 ((run 28 [.agg [.int ((v3.fld 0).toInt), .int ((v3.fld 1).toInt), .slice ((v3.fld 2).toSlice)], .agg [.int ((v5.fld 0).toInt), .int ((v5.fld 1).toInt), .slice ((v5.fld 2).toSlice)]]).bind fun r5 =>
    nilV r5.outs (consV r5.vals fun v7 vs7 =>
    nilV vs7 (bif v7.toBool then
    bif eqI v4.toInt v6.toInt then
    bif !(eqI v4.toInt 0) then
    (run 25 []).bind fun r6 =>
    nilV r6.outs (consV r6.vals fun v8 vs8 =>
    nilV vs8 (some ⟨[.bool v8.toBool], [], f6_fresh⟩))
  else
    (run 29 [.int (a0_1.length : Int), .int a1_1]).bind fun r7 =>
    nilV r7.outs (consV r7.vals fun v9 vs9 =>
    nilV vs9 (bif eqI (((v3.fld 2).toSlice).length : Int) v9.toInt then
    (run 25 []).bind fun r8 =>
    nilV r8.outs (consV r8.vals fun v10 vs10 =>
    nilV vs10 (some ⟨[.bool v10.toBool], [], f6_fresh⟩))
  else
    some ⟨[.bool false], [], f6_fresh⟩))
  else
    some ⟨[.bool false], [], f6_fresh⟩
  else
    some ⟨[.bool false], [], f6_fresh⟩)))))))) := by kernel_rfl
theorem f6_run (ext : Run) (n : Nat) (a0_1 : List AV) (a1_1 : Int) : runE G ext (n + 1) 6 [.slice a0_1, .int a1_1] = f6 (runE G ext n) n a0_1 a1_1 := runE_succ f6_at f6_in

noncomputable def f30_l0 (run : Run) (n : Nat) (k0 : Nat) (x29_1 : Int) (x30_1 : Int) (o2_1 : Int) (o2_2 : Int) (o2_3 : List AV) (o3_1 : Int) (o3_2 : Int) (o3_3 : List AV) : Option Res :=
  iterK (evalK G run n f30_keep 0 (sub [1, 1, 0, 1, 0, 0] f30_body)) f30_t0 f30_o0 (blockK 0 (seqK (evalK G run n f30_keep 0 (sub [1, 1, 1] f30_body) (retE G f30_info)) (retE G f30_info))) k0
    ⟨[.any, .any, .ptr ⟨(.struct [(.int .i64), (.int .i64), (.slice (.blob 32))]), 2, 1, []⟩, .ptr ⟨(.struct [(.int .i64), (.int .i64), (.slice (.blob 32))]), 3, 1, []⟩, .any, .any, .any, .any, .any, .any, .any, .any, .any, .any, .any, .any, .any, .any, .any, .any, .any, .any, .any, .any, .any, .any, .any, .any, .any, .val (.int .i64) none (.int x29_1), .val (.int .i64) none (.int x30_1), .any, .any, .any, .any, .any, .any, .any, .any, .any, .any, .any, .any, .any, .any], [⟨0, none⟩, ⟨0, none⟩, ⟨1, some ⟨(.struct [(.int .i64), (.int .i64), (.slice (.blob 32))]), .agg [.int o2_1, .int o2_2, .slice o2_3]⟩⟩, ⟨1, some ⟨(.struct [(.int .i64), (.int .i64), (.slice (.blob 32))]), .agg [.int o3_1, .int o3_2, .slice o3_3]⟩⟩, ⟨0, none⟩, ⟨0, none⟩, ⟨0, none⟩, ⟨0, none⟩, ⟨0, none⟩, ⟨0, none⟩, ⟨0, none⟩, ⟨0, none⟩, ⟨0, none⟩, ⟨0, none⟩, ⟨0, none⟩, ⟨0, none⟩, ⟨0, none⟩, ⟨0, none⟩, ⟨0, none⟩, ⟨0, none⟩, ⟨0, none⟩, ⟨0, none⟩, ⟨0, none⟩, ⟨0, none⟩, ⟨0, none⟩, ⟨0, none⟩, ⟨0, none⟩, ⟨0, none⟩, ⟨0, none⟩, ⟨0, none⟩, ⟨0, none⟩, ⟨0, none⟩, ⟨0, none⟩, ⟨0, none⟩, ⟨0, none⟩, ⟨0, none⟩, ⟨0, none⟩, ⟨0, none⟩, ⟨0, none⟩, ⟨0, none⟩, ⟨0, none⟩, ⟨0, none⟩, ⟨0, none⟩, ⟨0, none⟩, ⟨0, none⟩], List.replicate 45 0⟩
theorem f30_l0_eq (run : Run) (n : Nat) (k0 : Nat) (x29_1 : Int) (x30_1 : Int) (o2_1 : Int) (o2_2 : Int) (o2_3 : List AV) (o3_1 : Int) (o3_2 : Int) (o3_3 : List AV) : f30_l0 run n (k0 + 1) x29_1 x30_1 o2_1 o2_2 o2_3 o3_1 o3_2 o3_3 =
  bif ltI x30_1 x29_1 then
    bif inR x30_1 o2_3.length then
    bif inR x30_1 o3_3.length then
    bif !(eqS ((nth o2_3 (Int.toNat x30_1)).toBlob) ((nth o3_3 (Int.toNat x30_1)).toBlob)) then
    some ⟨[.bool false], [], f30_fresh⟩
  else
    f30_l0 run n k0 x29_1 (IntKind.wrap .i64 (x30_1 + 1)) o2_1 o2_2 o2_3 o3_1 o3_2 o3_3
  else none
  else none
  else
    some ⟨[.bool true], [], f30_fresh⟩ := by kernel_rfl
noncomputable def f30 (run : Run) (n : Nat) (a0_1 : Int) (a0_2 : Int) (a0_3 : List AV) (a1_1 : Int) (a1_2 : Int) (a1_3 : List AV) : Option Res := evalK G run n f30_info.keep 0 f30_info.body (retE G f30_info) (f30_info.start [.agg [.int a0_1, .int a0_2, .slice a0_3], .agg [.int a1_1, .int a1_2, .slice a1_3]])
theorem f30_eq (run : Run) (n : Nat) (a0_1 : Int) (a0_2 : Int) (a0_3 : List AV) (a1_1 : Int) (a1_2 : Int) (a1_3 : List AV) : f30 run n a0_1 a0_2 a0_3 a1_1 a1_2 a1_3 =
  bif !(eqI a0_1 a1_1) then
    some ⟨[.bool false], [], f30_fresh⟩
  else
    bif !(eqI a0_2 a1_2) then
    some ⟨[.bool false], [], f30_fresh⟩
  else
    bif !(eqI (a0_3.length : Int) (a1_3.length : Int)) then
    some ⟨[.bool false], [], f30_fresh⟩
  else
    f30_l0 run n n (a0_3.length : Int) 0 a0_1 a0_2 a0_3 a1_1 a1_2 a1_3 := by kernel_rfl
theorem f30_run (ext : Run) (n : Nat) (a0_1 : Int) (a0_2 : Int) (a0_3 : List AV) (a1_1 : Int) (a1_2 : Int) (a1_3 : List AV) : runE G ext (n + 1) 30 [.agg [.int a0_1, .int a0_2, .slice a0_3], .agg [.int a1_1, .int a1_2, .slice a1_3]] = f30 (runE G ext n) n a0_1 a0_2 a0_3 a1_1 a1_2 a1_3 := runE_succ f30_at f30_in

noncomputable def f31 (run : Run) (n : Nat) (a0_1 : Int) (a0_2 : Int) (a0_3 : List AV) : Option Res := evalK G run n f31_info.keep 0 f31_info.body (retE G f31_info) (f31_info.start [.agg [.int a0_1, .int a0_2, .slice a0_3]])
theorem f31_eq (run : Run) (n : Nat) (a0_1 : Int) (a0_2 : Int) (a0_3 : List AV) : f31 run n a0_1 a0_2 a0_3 =
  (run 30 [.agg [.int a0_1, .int a0_2, .slice a0_3], .agg [.int 0, .int 0, .slice []]]).bind fun r1 =>
    nilV r1.outs (consV r1.vals fun v1 vs1 =>
    nilV vs1 (some ⟨[.bool v1.toBool], [], f31_fresh⟩)) := by kernel_rfl
theorem f31_run (ext : Run) (n : Nat) (a0_1 : Int) (a0_2 : Int) (a0_3 : List AV) : runE G ext (n + 1) 31 [.agg [.int a0_1, .int a0_2, .slice a0_3]] = f31 (runE G ext n) n a0_1 a0_2 a0_3 := runE_succ f31_at f31_in

noncomputable def f7 (run : Run) (n : Nat) (a0_1 : Int) (a0_2 : Int) (a0_3 : List AV) (a1_1 : Int) (a1_2 : Int) (a1_3 : List AV) : Option Res := evalK G run n f7_info.keep 0 f7_info.body (retE G f7_info) (f7_info.start [.agg [.int a0_1, .int a0_2, .slice a0_3], .agg [.int a1_1, .int a1_2, .slice a1_3]])
theorem f7_eq (run : Run) (n : Nat) (a0_1 : Int) (a0_2 : Int) (a0_3 : List AV) (a1_1 : Int) (a1_2 : Int) (a1_3 : List AV) : f7 run n a0_1 a0_2 a0_3 a1_1 a1_2 a1_3 =
  bif ltI 100 (a0_3.length : Int) then
    (run 25 []).bind fun r1 =>
    nilV r1.outs (consV r1.vals fun v1 vs1 =>
    nilV vs1 (some ⟨[.bool v1.toBool], [], f7_fresh⟩))
  else
    bif ltI 100 (a1_3.length : Int) then
    (run 25 []).bind fun r2 =>
    nilV r2.outs (consV r2.vals fun v2 vs2 =>
    nilV vs2 (some ⟨[.bool v2.toBool], [], f7_fresh⟩))
  else
    (run 30 [.agg [.int a0_1, .int a0_2, .slice a0_3], .agg [.int a1_1, .int a1_2, .slice a1_3]]).bind fun r3 =>
    nilV r3.outs (consV r3.vals fun v3 vs3 =>
    nilV vs3 ((run 28 [.agg [.int a0_1, .int a0_2, .slice a0_3], .agg [.int a1_1, .int a1_2, .slice a1_3]]).bind fun r4 =>
    nilV r4.outs (consV r4.vals fun v4 vs4 =>
    nilV vs4 (bif eqO v3.toBool v4.toBool then
    (run 30 [.agg [.int a0_1, .int a0_2, .slice a0_3], .agg [.int a0_1, .int a0_2, .slice a0_3]]).bind fun r5 =>
    nilV r5.outs (consV r5.vals fun v5 vs5 =>
    nilV vs5 (bif v5.toBool then
    (run 31 [.agg [.int a0_1, .int a0_2, .slice a0_3]]).bind fun r6 =>
    nilV r6.outs (consV r6.vals fun v6 vs6 =>
    nilV vs6 (bif eqI a0_1 0 then
    bif eqI a0_2 0 then
    bif eqO v6.toBool (eqI (a0_3.length : Int) 0) then
    (run 25 []).bind fun r7 =>
    nilV r7.outs (consV r7.vals fun v7 vs7 =>
    nilV vs7 (some ⟨[.bool v7.toBool], [], f7_fresh⟩))
  else
    some ⟨[.bool false], [], f7_fresh⟩
  else
    bif eqO v6.toBool false then
    (run 25 []).bind fun r8 =>
    nilV r8.outs (consV r8.vals fun v8 vs8 =>
    nilV vs8 (some ⟨[.bool v8.toBool], [], f7_fresh⟩))
  else
    some ⟨[.bool false], [], f7_fresh⟩
  else
    bif eqO v6.toBool false then
    (run 25 []).bind fun r9 =>
    nilV r9.outs (consV r9.vals fun v9 vs9 =>
    nilV vs9 (some ⟨[.bool v9.toBool], [], f7_fresh⟩))
  else
    some ⟨[.bool false], [], f7_fresh⟩))
  else
    some ⟨[.bool false], [], f7_fresh⟩))
  else
    some ⟨[.bool false], [], f7_fresh⟩)))) := by kernel_rfl
theorem f7_run (ext : Run) (n : Nat) (a0_1 : Int) (a0_2 : Int) (a0_3 : List AV) (a1_1 : Int) (a1_2 : Int) (a1_3 : List AV) : runE G ext (n + 1) 7 [.agg [.int a0_1, .int a0_2, .slice a0_3], .agg [.int a1_1, .int a1_2, .slice a1_3]] = f7 (runE G ext n) n a0_1 a0_2 a0_3 a1_1 a1_2 a1_3 := runE_succ f7_at f7_in

noncomputable def f76 (run : Run) (n : Nat) (a0_1 : Int) (a1_1 : Int) : Option Res := evalK G run n f76_info.keep 0 f76_info.body (retE G f76_info) (f76_info.start [.int a0_1, .int a1_1])
theorem f76_eq (run : Run) (n : Nat) (a0_1 : Int) (a1_1 : Int) : f76 run n a0_1 a1_1 =
  bif ltI a1_1 0 then
    some ⟨[.int (-1)], [], f76_fresh⟩
  else
    bif leI a0_1 a1_1 then
    some ⟨[.int (-1)], [], f76_fresh⟩
  else
    (run 75 [.int a0_1, .int a1_1]).bind fun r1 =>
    bif r1.fresh then
    nilV r1.outs (consV r1.vals fun v1 vs1 =>
    nilV vs1 (some ⟨[.int (v1.toSlice.length : Int)], [], f76_fresh⟩))
  else none := by kernel_rfl
theorem f76_run (ext : Run) (n : Nat) (a0_1 : Int) (a1_1 : Int) : runE G ext (n + 1) 76 [.int a0_1, .int a1_1] = f76 (runE G ext n) n a0_1 a1_1 := runE_succ f76_at f76_in

noncomputable def f36 (run : Run) (n : Nat) (a0_1 : Int) (a0_2 : Int) (a0_3 : List AV) : Option Res := evalK G run n f36_info.keep 0 f36_info.body (retE G f36_info) (f36_info.start [.agg [.int a0_1, .int a0_2, .slice a0_3]])
theorem f36_eq (run : Run) (n : Nat) (a0_1 : Int) (a0_2 : Int) (a0_3 : List AV) : f36 run n a0_1 a0_2 a0_3 =
  bif ltI a0_2 1 then
    some ⟨[.int 3], [], f36_fresh⟩
  else
    bif ltI 1048576 a0_2 then
    some ⟨[.int 3], [], f36_fresh⟩
  else
    bif ltI a0_1 0 then
    some ⟨[.int 3], [], f36_fresh⟩
  else
    bif leI a0_2 a0_1 then
    some ⟨[.int 3], [], f36_fresh⟩
  else
    (run 76 [.int a0_2, .int a0_1]).bind fun r1 =>
    nilV r1.outs (consV r1.vals fun v1 vs1 =>
    nilV vs1 (bif !(eqI (a0_3.length : Int) v1.toInt) then
    some ⟨[.int 2], [], f36_fresh⟩
  else
    some ⟨[.int 0], [], f36_fresh⟩)) := by kernel_rfl
theorem f36_run (ext : Run) (n : Nat) (a0_1 : Int) (a0_2 : Int) (a0_3 : List AV) : runE G ext (n + 1) 36 [.agg [.int a0_1, .int a0_2, .slice a0_3]] = f36 (runE G ext n) n a0_1 a0_2 a0_3 := runE_succ f36_at f36_in

noncomputable def f35_l0 (run : Run) (n : Nat) (k0 : Nat) (x6_1 : List AV) (x20_1 : List AV) (x21_1 : Int) (x22_1 : Int) (o3_1 : Int) (o3_2 : Int) (o3_3 : List AV) (o5_1 : List UInt8) : Option Res :=
  iterK (evalK G run n f35_keep 0 (sub [1, 1, 1, 1, 0, 1, 0, 0] f35_body)) f35_t0 f35_o0 (blockK 0 (seqK (evalK G run n f35_keep 0 (sub [1, 1, 1, 1, 1] f35_body) (retE G f35_info)) (retE G f35_info))) k0
    ⟨[.any, .any, .any, .ptr ⟨(.struct [(.int .i64), (.int .i64), (.slice (.blob 32))]), 3, 1, []⟩, .any, .ptr ⟨(.blob 32), 5, 1, []⟩, .val (.slice (.blob 32)) (some (6, 0)) (.slice x6_1), .any, .any, .any, .any, .any, .any, .any, .any, .any, .any, .any, .any, .any, .val (.slice .bool) (some (20, 0)) (.slice x20_1), .val (.int .i64) none (.int x21_1), .val (.int .i64) none (.int x22_1), .any, .any, .any, .any, .any, .any, .any, .any, .any, .any, .any, .any, .any, .any, .any, .any, .any, .any, .any, .any, .any, .any, .any, .any, .any], [⟨0, none⟩, ⟨0, none⟩, ⟨0, none⟩, ⟨1, some ⟨(.struct [(.int .i64), (.int .i64), (.slice (.blob 32))]), .agg [.int o3_1, .int o3_2, .slice o3_3]⟩⟩, ⟨0, none⟩, ⟨1, some ⟨(.blob 32), .blob o5_1⟩⟩, ⟨0, none⟩, ⟨0, none⟩, ⟨0, none⟩, ⟨0, none⟩, ⟨0, none⟩, ⟨0, none⟩, ⟨0, none⟩, ⟨0, none⟩, ⟨0, none⟩, ⟨0, none⟩, ⟨0, none⟩, ⟨0, none⟩, ⟨0, none⟩, ⟨0, none⟩, ⟨0, none⟩, ⟨0, none⟩, ⟨0, none⟩, ⟨0, none⟩, ⟨0, none⟩, ⟨0, none⟩, ⟨0, none⟩, ⟨0, none⟩, ⟨0, none⟩, ⟨0, none⟩, ⟨0, none⟩, ⟨0, none⟩, ⟨0, none⟩, ⟨0, none⟩, ⟨0, none⟩, ⟨0, none⟩, ⟨0, none⟩, ⟨0, none⟩, ⟨0, none⟩, ⟨0, none⟩, ⟨0, none⟩, ⟨0, none⟩, ⟨0, none⟩, ⟨0, none⟩, ⟨0, none⟩, ⟨0, none⟩, ⟨0, none⟩, ⟨0, none⟩], List.replicate 48 0⟩
theorem f35_l0_eq (run : Run) (n : Nat) (k0 : Nat) (x6_1 : List AV) (x20_1 : List AV) (x21_1 : Int) (x22_1 : Int) (o3_1 : Int) (o3_2 : Int) (o3_3 : List AV) (o5_1 : List UInt8) : f35_l0 run n (k0 + 1) x6_1 x20_1 x21_1 x22_1 o3_1 o3_2 o3_3 o5_1 =
  bif ltI x22_1 x21_1 then
    bif inR x22_1 x20_1.length then
    bif (nth x20_1 (Int.toNat x22_1)).toBool then
    bif inR x22_1 o3_3.length then
    (run 66 [.blob ((nth o3_3 (Int.toNat x22_1)).toBlob), .blob o5_1]).bind fun r4 =>
    nilV r4.outs (consV r4.vals fun v4 vs4 =>
    nilV vs4 (bif Nat.ble ((x6_1.length + 1) * 32) 140737488355328 then
    f35_l0 run n k0 (x6_1 ++ [.blob v4.toBlob]) x20_1 x21_1 (IntKind.wrap .i64 (x22_1 + 1)) o3_1 o3_2 o3_3 v4.toBlob
  else none))
  else none
  else
    bif inR x22_1 o3_3.length then
    (run 66 [.blob o5_1, .blob ((nth o3_3 (Int.toNat x22_1)).toBlob)]).bind fun r5 =>
    nilV r5.outs (consV r5.vals fun v5 vs5 =>
    nilV vs5 (bif Nat.ble ((x6_1.length + 1) * 32) 140737488355328 then
    f35_l0 run n k0 (x6_1 ++ [.blob v5.toBlob]) x20_1 x21_1 (IntKind.wrap .i64 (x22_1 + 1)) o3_1 o3_2 o3_3 v5.toBlob
  else none))
  else none
  else none
  else
    some ⟨[.slice x6_1], [], f35_fresh⟩ := by kernel_rfl
noncomputable def f35 (run : Run) (n : Nat) (a0_1 : List UInt8) (a1_1 : Int) (a1_2 : Int) (a1_3 : List AV) : Option Res := evalK G run n f35_info.keep 0 f35_info.body (retE G f35_info) (f35_info.start [.str a0_1, .agg [.int a1_1, .int a1_2, .slice a1_3]])
theorem f35_eq (run : Run) (n : Nat) (a0_1 : List UInt8) (a1_1 : Int) (a1_2 : Int) (a1_3 : List AV) : f35 run n a0_1 a1_1 a1_2 a1_3 =
  (run 36 [.agg [.int a1_1, .int a1_2, .slice a1_3]]).bind fun r1 =>
    nilV r1.outs (consV r1.vals fun v1 vs1 =>
    nilV vs1 (bif !(eqI v1.toInt 0) then
    some ⟨[.slice []], [], f35_fresh⟩
  else
    (run 62 [.str a0_1]).bind fun r2 =>
    nilV r2.outs (consV r2.vals fun v2 vs2 =>
    nilV vs2 ((run 75 [.int a1_2, .int a1_1]).bind fun r3 =>
    bif r3.fresh then
    nilV r3.outs (consV r3.vals fun v3 vs3 =>
    nilV vs3 (f35_l0 run n n [.blob v2.toBlob] v3.toSlice (v3.toSlice.length : Int) 0 a1_1 a1_2 a1_3 v2.toBlob))
  else none)))) := by kernel_rfl
theorem f35_run (ext : Run) (n : Nat) (a0_1 : List UInt8) (a1_1 : Int) (a1_2 : Int) (a1_3 : List AV) : runE G ext (n + 1) 35 [.str a0_1, .agg [.int a1_1, .int a1_2, .slice a1_3]] = f35 (runE G ext n) n a0_1 a1_1 a1_2 a1_3 := runE_succ f35_at f35_in

noncomputable def f33 (run : Run) (n : Nat) (a0_1 : List UInt8) (a1_1 : Int) (a1_2 : Int) (a1_3 : List AV) : Option Res := evalK G run n f33_info.keep 0 f33_info.body (retE G f33_info) (f33_info.start [.str a0_1, .agg [.int a1_1, .int a1_2, .slice a1_3]])
theorem f33_eq (run : Run) (n : Nat) (a0_1 : List UInt8) (a1_1 : Int) (a1_2 : Int) (a1_3 : List AV) : f33 run n a0_1 a1_1 a1_2 a1_3 =
  (run 36 [.agg [.int a1_1, .int a1_2, .slice a1_3]]).bind fun r1 =>
    nilV r1.outs (consV r1.vals fun v1 vs1 =>
    nilV vs1 (bif !(eqI v1.toInt 0) then
    some ⟨[.blob [0, 0, 0, 0, 0, 0, 0, 0, 0, 0, 0, 0, 0, 0, 0, 0, 0, 0, 0, 0, 0, 0, 0, 0, 0, 0, 0, 0, 0, 0, 0, 0], .int v1.toInt], [], f33_fresh⟩
  else
    (run 35 [.str a0_1, .agg [.int a1_1, .int a1_2, .slice a1_3]]).bind fun r2 =>
    bif r2.fresh then
    nilV r2.outs (consV r2.vals fun v2 vs2 =>
    nilV vs2 (bif inR (IntKind.wrap .i64 ((v2.toSlice.length : Int) - 1)) v2.toSlice.length then
    (run 64 [.int (IntKind.wrap .u64 a1_2), .blob ((nth v2.toSlice (Int.toNat (IntKind.wrap .i64 ((v2.toSlice.length : Int) - 1)))).toBlob)]).bind fun r3 =>
    nilV r3.outs (consV r3.vals fun v3 vs3 =>
    nilV vs3 (some ⟨[.blob v3.toBlob, .int 0], [], f33_fresh⟩))
  else none))
  else none)) := by kernel_rfl
theorem f33_run (ext : Run) (n : Nat) (a0_1 : List UInt8) (a1_1 : Int) (a1_2 : Int) (a1_3 : List AV) : runE G ext (n + 1) 33 [.str a0_1, .agg [.int a1_1, .int a1_2, .slice a1_3]] = f33 (runE G ext n) n a0_1 a1_1 a1_2 a1_3 := runE_succ f33_at f33_in

noncomputable def f38 (run : Run) (n : Nat) (a0_1 : List UInt8) (a1_1 : List UInt8) (a2_1 : Int) (a2_2 : Int) (a2_3 : List AV) : Option Res := evalK G run n f38_info.keep 0 f38_info.body (retE G f38_info) (f38_info.start [.blob a0_1, .str a1_1, .agg [.int a2_1, .int a2_2, .slice a2_3]])
theorem f38_eq (run : Run) (n : Nat) (a0_1 : List UInt8) (a1_1 : List UInt8) (a2_1 : Int) (a2_2 : Int) (a2_3 : List AV) : f38 run n a0_1 a1_1 a2_1 a2_2 a2_3 =
  (run 33 [.str a1_1, .agg [.int a2_1, .int a2_2, .slice a2_3]]).bind fun r1 =>
    nilV r1.outs (consV r1.vals fun v1 vs1 =>
    consV vs1 fun v2 vs2 =>
    nilV vs2 (bif eqI v2.toInt 0 then
    some ⟨[.bool (eqS v1.toBlob a0_1)], [], f38_fresh⟩
  else
    some ⟨[.bool false], [], f38_fresh⟩)) := by kernel_rfl
theorem f38_run (ext : Run) (n : Nat) (a0_1 : List UInt8) (a1_1 : List UInt8) (a2_1 : Int) (a2_2 : Int) (a2_3 : List AV) : runE G ext (n + 1) 38 [.blob a0_1, .str a1_1, .agg [.int a2_1, .int a2_2, .slice a2_3]] = f38 (runE G ext n) n a0_1 a1_1 a2_1 a2_2 a2_3 := runE_succ f38_at f38_in

noncomputable def f32 (run : Run) (n : Nat) : Option Res := evalK G run n f32_info.keep 0 f32_info.body (retE G f32_info) (f32_info.start [])
theorem f32_eq (run : Run) (n : Nat) : f32 run n  =
  (run 21 [.slice [.str [97]]]).bind fun r1 =>
    nilV r1.outs (consV r1.vals fun v1 vs1 =>
    nilV vs1 ((run 38 [.blob v1.toBlob, .str [97], .agg [.int 0, .int 1, .slice []]]).bind fun r2 =>
    nilV r2.outs (consV r2.vals fun v2 vs2 =>
    nilV vs2 (bif v2.toBool then
    (run 38 [.blob [0, 0, 0, 0, 0, 0, 0, 0, 0, 0, 0, 0, 0, 0, 0, 0, 0, 0, 0, 0, 0, 0, 0, 0, 0, 0, 0, 0, 0, 0, 0, 0], .str [97], .agg [.int 0, .int 1, .slice []]]).bind fun r3 =>
    nilV r3.outs (consV r3.vals fun v3 vs3 =>
    nilV vs3 (some ⟨[.bool (!v3.toBool)], [], f32_fresh⟩))
  else
    some ⟨[.bool false], [], f32_fresh⟩)))) := by kernel_rfl
theorem f32_run (ext : Run) (n : Nat) : runE G ext (n + 1) 32 [] = f32 (runE G ext n) n  := runE_succ f32_at f32_in

noncomputable def f37 (run : Run) (n : Nat) (a0_1 : Int) (a0_2 : Int) (a0_3 : List AV) : Option Res := evalK G run n f37_info.keep 0 f37_info.body (retE G f37_info) (f37_info.start [.agg [.int a0_1, .int a0_2, .slice a0_3]])
theorem f37_eq (run : Run) (n : Nat) (a0_1 : Int) (a0_2 : Int) (a0_3 : List AV) : f37 run n a0_1 a0_2 a0_3 =
  bif ltI a0_2 1 then
    some ⟨[.int 3], [], f37_fresh⟩
  else
    bif ltI 1048576 a0_2 then
    some ⟨[.int 3], [], f37_fresh⟩
  else
    bif ltI a0_1 0 then
    some ⟨[.int 3], [], f37_fresh⟩
  else
    bif leI a0_2 a0_1 then
    some ⟨[.int 3], [], f37_fresh⟩
  else
    (run 29 [.int a0_2, .int a0_1]).bind fun r1 =>
    nilV r1.outs (consV r1.vals fun v1 vs1 =>
    nilV vs1 (bif !(eqI (a0_3.length : Int) v1.toInt) then
    some ⟨[.int 2], [], f37_fresh⟩
  else
    some ⟨[.int 0], [], f37_fresh⟩)) := by kernel_rfl
theorem f37_run (ext : Run) (n : Nat) (a0_1 : Int) (a0_2 : Int) (a0_3 : List AV) : runE G ext (n + 1) 37 [.agg [.int a0_1, .int a0_2, .slice a0_3]] = f37 (runE G ext n) n a0_1 a0_2 a0_3 := runE_succ f37_at f37_in

noncomputable def f74 (run : Run) (n : Nat) (a0_1 : Int) (a1_1 : Int) (a2_1 : List UInt8) (a3_1 : List AV) : Option Res := evalK G run n f74_info.keep 0 f74_info.body (retE G f74_info) (f74_info.start [.int a0_1, .int a1_1, .blob a2_1, .slice a3_1])
theorem f74_eq (run : Run) (n : Nat) (a0_1 : Int) (a1_1 : Int) (a2_1 : List UInt8) (a3_1 : List AV) : f74 run n a0_1 a1_1 a2_1 a3_1 =
  bif eqI a0_1 1 then
    some ⟨[.blob a2_1], [], f74_fresh⟩
  else
    (run 67 [.int a0_1]).bind fun r1 =>
    nilV r1.outs (consV r1.vals fun v1 vs1 =>
    nilV vs1 (bif ltI a1_1 v1.toInt then
    bif boundsOk 0 (IntKind.wrap .i64 ((a3_1.length : Int) - 1)) (a3_1.length : Int) (a3_1.length : Int) && true then
    (run 74 [.int v1.toInt, .int a1_1, .blob a2_1, .slice (List.drop 0 (List.take (Int.toNat (IntKind.wrap .i64 ((a3_1.length : Int) - 1))) a3_1))]).bind fun r2 =>
    nilV r2.outs (consV r2.vals fun v2 vs2 =>
    nilV vs2 (bif inR (IntKind.wrap .i64 ((a3_1.length : Int) - 1)) a3_1.length then
    (run 68 [.blob v2.toBlob, .blob ((nth a3_1 (Int.toNat (IntKind.wrap .i64 ((a3_1.length : Int) - 1)))).toBlob)]).bind fun r3 =>
    nilV r3.outs (consV r3.vals fun v3 vs3 =>
    nilV vs3 (some ⟨[.blob v3.toBlob], [], f74_fresh⟩))
  else none))
  else none
  else
    bif inR (IntKind.wrap .i64 ((a3_1.length : Int) - 1)) a3_1.length then
    bif boundsOk 0 (IntKind.wrap .i64 ((a3_1.length : Int) - 1)) (a3_1.length : Int) (a3_1.length : Int) && true then
    (run 74 [.int (IntKind.wrap .i64 (a0_1 - v1.toInt)), .int (IntKind.wrap .i64 (a1_1 - v1.toInt)), .blob a2_1, .slice (List.drop 0 (List.take (Int.toNat (IntKind.wrap .i64 ((a3_1.length : Int) - 1))) a3_1))]).bind fun r4 =>
    nilV r4.outs (consV r4.vals fun v4 vs4 =>
    nilV vs4 ((run 68 [.blob ((nth a3_1 (Int.toNat (IntKind.wrap .i64 ((a3_1.length : Int) - 1)))).toBlob), .blob v4.toBlob]).bind fun r5 =>
    nilV r5.outs (consV r5.vals fun v5 vs5 =>
    nilV vs5 (some ⟨[.blob v5.toBlob], [], f74_fresh⟩))))
  else none
  else none)) := by kernel_rfl
theorem f74_run (ext : Run) (n : Nat) (a0_1 : Int) (a1_1 : Int) (a2_1 : List UInt8) (a3_1 : List AV) : runE G ext (n + 1) 74 [.int a0_1, .int a1_1, .blob a2_1, .slice a3_1] = f74 (runE G ext n) n a0_1 a1_1 a2_1 a3_1 := runE_succ f74_at f74_in

noncomputable def f34 (run : Run) (n : Nat) (a0_1 : List UInt8) (a1_1 : Int) (a1_2 : Int) (a1_3 : List AV) : Option Res := evalK G run n f34_info.keep 0 f34_info.body (retE G f34_info) (f34_info.start [.str a0_1, .agg [.int a1_1, .int a1_2, .slice a1_3]])
theorem f34_eq (run : Run) (n : Nat) (a0_1 : List UInt8) (a1_1 : Int) (a1_2 : Int) (a1_3 : List AV) : f34 run n a0_1 a1_1 a1_2 a1_3 =
  (run 37 [.agg [.int a1_1, .int a1_2, .slice a1_3]]).bind fun r1 =>
    nilV r1.outs (consV r1.vals fun v1 vs1 =>
    nilV vs1 (bif !(eqI v1.toInt 0) then
    some ⟨[.blob [0, 0, 0, 0, 0, 0, 0, 0, 0, 0, 0, 0, 0, 0, 0, 0, 0, 0, 0, 0, 0, 0, 0, 0, 0, 0, 0, 0, 0, 0, 0, 0], .int v1.toInt], [], f34_fresh⟩
  else
    (run 63 [.str a0_1]).bind fun r2 =>
    nilV r2.outs (consV r2.vals fun v2 vs2 =>
    nilV vs2 ((run 74 [.int a1_2, .int a1_1, .blob v2.toBlob, .slice a1_3]).bind fun r3 =>
    nilV r3.outs (consV r3.vals fun v3 vs3 =>
    nilV vs3 ((run 47 [.int (IntKind.wrap .u64 a1_2), .blob v3.toBlob]).bind fun r4 =>
    nilV r4.outs (consV r4.vals fun v4 vs4 =>
    nilV vs4 (some ⟨[.blob v4.toBlob, .int 0], [], f34_fresh⟩)))))))) := by kernel_rfl
theorem f34_run (ext : Run) (n : Nat) (a0_1 : List UInt8) (a1_1 : Int) (a1_2 : Int) (a1_3 : List AV) : runE G ext (n + 1) 34 [.str a0_1, .agg [.int a1_1, .int a1_2, .slice a1_3]] = f34 (runE G ext n) n a0_1 a1_1 a1_2 a1_3 := runE_succ f34_at f34_in

noncomputable def f39 (run : Run) (n : Nat) (a0_1 : List UInt8) (a1_1 : List UInt8) (a2_1 : Int) (a2_2 : Int) (a2_3 : List AV) : Option Res := evalK G run n f39_info.keep 0 f39_info.body (retE G f39_info) (f39_info.start [.blob a0_1, .str a1_1, .agg [.int a2_1, .int a2_2, .slice a2_3]])
theorem f39_eq (run : Run) (n : Nat) (a0_1 : List UInt8) (a1_1 : List UInt8) (a2_1 : Int) (a2_2 : Int) (a2_3 : List AV) : f39 run n a0_1 a1_1 a2_1 a2_2 a2_3 =
  (run 34 [.str a1_1, .agg [.int a2_1, .int a2_2, .slice a2_3]]).bind fun r1 =>
    nilV r1.outs (consV r1.vals fun v1 vs1 =>
    consV vs1 fun v2 vs2 =>
    nilV vs2 (bif eqI v2.toInt 0 then
    some ⟨[.bool (eqS v1.toBlob a0_1)], [], f39_fresh⟩
  else
    some ⟨[.bool false], [], f39_fresh⟩)) := by kernel_rfl
theorem f39_run (ext : Run) (n : Nat) (a0_1 : List UInt8) (a1_1 : List UInt8) (a2_1 : Int) (a2_2 : Int) (a2_3 : List AV) : runE G ext (n + 1) 39 [.blob a0_1, .str a1_1, .agg [.int a2_1, .int a2_2, .slice a2_3]] = f39 (runE G ext n) n a0_1 a1_1 a2_1 a2_2 a2_3 := runE_succ f39_at f39_in

noncomputable def f8 (run : Run) (n : Nat) (a0_1 : List UInt8) (a1_1 : List UInt8) (a2_1 : Int) (a2_2 : Int) (a2_3 : List AV) : Option Res := evalK G run n f8_info.keep 0 f8_info.body (retE G f8_info) (f8_info.start [.blob a0_1, .str a1_1, .agg [.int a2_1, .int a2_2, .slice a2_3]])
theorem f8_eq (run : Run) (n : Nat) (a0_1 : List UInt8) (a1_1 : List UInt8) (a2_1 : Int) (a2_2 : Int) (a2_3 : List AV) : f8 run n a0_1 a1_1 a2_1 a2_2 a2_3 =
  bif ltI 2000 (a1_1.length : Int) then
    (run 32 []).bind fun r1 =>
    nilV r1.outs (consV r1.vals fun v1 vs1 =>
    nilV vs1 (some ⟨[.bool v1.toBool], [], f8_fresh⟩))
  else
    (run 33 [.str a1_1, .agg [.int a2_1, .int a2_2, .slice a2_3]]).bind fun r2 =>
    nilV r2.outs (consV r2.vals fun v2 vs2 =>
    consV vs2 fun v3 vs3 =>
    nilV vs3 ((run 34 [.str a1_1, .agg [.int a2_1, .int a2_2, .slice a2_3]]).bind fun r3 =>
    nilV r3.outs (consV r3.vals fun v4 vs4 =>
    consV vs4 fun v5 vs5 =>
    nilV vs5 ((run 35 [.str a1_1, .agg [.int a2_1, .int a2_2, .slice a2_3]]).bind fun r4 =>
    bif r4.fresh then
    nilV r4.outs (consV r4.vals fun v6 vs6 =>
    nilV vs6 (bif !(eqS v2.toBlob v4.toBlob) then
    some ⟨[.bool false], [], f8_fresh⟩
  else
    bif !(eqI v3.toInt v5.toInt) then
    some ⟨[.bool false], [], f8_fresh⟩
  else
    (run 36 [.agg [.int a2_1, .int a2_2, .slice a2_3]]).bind fun r5 =>
    nilV r5.outs (consV r5.vals fun v7 vs7 =>
    nilV vs7 ((run 37 [.agg [.int a2_1, .int a2_2, .slice a2_3]]).bind fun r6 =>
    nilV r6.outs (consV r6.vals fun v8 vs8 =>
    nilV vs8 (bif !(eqI v7.toInt v8.toInt) then
    some ⟨[.bool false], [], f8_fresh⟩
  else
    (run 38 [.blob a0_1, .str a1_1, .agg [.int a2_1, .int a2_2, .slice a2_3]]).bind fun r7 =>
    nilV r7.outs (consV r7.vals fun v9 vs9 =>
    nilV vs9 ((run 39 [.blob a0_1, .str a1_1, .agg [.int a2_1, .int a2_2, .slice a2_3]]).bind fun r8 =>
    nilV r8.outs (consV r8.vals fun v10 vs10 =>
    nilV vs10 (bif !(eqO v9.toBool v10.toBool) then
    some ⟨[.bool false], [], f8_fresh⟩
  else
    bif !(eqI v3.toInt 0) then
    bif eqI (v6.toSlice.length : Int) 0 then
    (run 32 []).bind fun r9 =>
    nilV r9.outs (consV r9.vals fun v11 vs11 =>
    nilV vs11 (some ⟨[.bool v11.toBool], [], f8_fresh⟩))
  else
    some ⟨[.bool false], [], f8_fresh⟩
  else
    bif eqI (v6.toSlice.length : Int) (IntKind.wrap .i64 ((a2_3.length : Int) + 1)) then
    bif inR 0 v6.toSlice.length then
    (run 19 [.slice [.str a1_1]]).bind fun r10 =>
    bif r10.fresh then
    nilV r10.outs (consV r10.vals fun v12 vs12 =>
    nilV vs12 (bif inR 0 v12.toSlice.length then
    bif eqS ((nth v6.toSlice 0).toBlob) ((nth v12.toSlice 0).toBlob) then
    (run 38 [.blob v2.toBlob, .str a1_1, .agg [.int a2_1, .int a2_2, .slice a2_3]]).bind fun r11 =>
    nilV r11.outs (consV r11.vals fun v13 vs13 =>
    nilV vs13 (bif v13.toBool then
    (run 32 []).bind fun r12 =>
    nilV r12.outs (consV r12.vals fun v14 vs14 =>
    nilV vs14 (some ⟨[.bool v14.toBool], [], f8_fresh⟩))
  else
    some ⟨[.bool false], [], f8_fresh⟩))
  else
    some ⟨[.bool false], [], f8_fresh⟩
  else none))
  else none
  else none
  else
    some ⟨[.bool false], [], f8_fresh⟩))))))))))
  else none)))) := by kernel_rfl
theorem f8_run (ext : Run) (n : Nat) (a0_1 : List UInt8) (a1_1 : List UInt8) (a2_1 : Int) (a2_2 : Int) (a2_3 : List AV) : runE G ext (n + 1) 8 [.blob a0_1, .str a1_1, .agg [.int a2_1, .int a2_2, .slice a2_3]] = f8 (runE G ext n) n a0_1 a1_1 a2_1 a2_2 a2_3 := runE_succ f8_at f8_in

noncomputable def f80_l0 (run : Run) (n : Nat) (k0 : Nat) (x0_1 : Int) (x1_1 : List AV) (x7_1 : List AV) (x8_1 : Int) (x9_1 : Int) : Option Res :=
  iterK (evalK G run n f80_keep 0 (sub [1, 0, 1, 0, 0] f80_body)) f80_t0 f80_o0 (blockK 0 (seqK (evalK G run n f80_keep 0 (sub [1, 1] f80_body) (retE G f80_info)) (retE G f80_info))) k0
    ⟨[.val (.int .i64) none (.int x0_1), .val (.slice (.int .i64)) none (.slice x1_1), .any, .any, .any, .any, .any, .val (.slice (.int .i64)) none (.slice x7_1), .val (.int .i64) none (.int x8_1), .val (.int .i64) none (.int x9_1), .any, .any, .any, .any, .any, .any, .any, .any, .any, .any, .any, .any, .any, .any, .any, .any, .any, .any, .any, .any, .any, .any, .any, .any, .any, .any, .any, .any], [⟨0, none⟩, ⟨0, none⟩, ⟨0, none⟩, ⟨0, none⟩, ⟨0, none⟩, ⟨0, none⟩, ⟨0, none⟩, ⟨0, none⟩, ⟨0, none⟩, ⟨0, none⟩, ⟨0, none⟩, ⟨0, none⟩, ⟨0, none⟩, ⟨0, none⟩, ⟨0, none⟩, ⟨0, none⟩, ⟨0, none⟩, ⟨0, none⟩, ⟨0, none⟩, ⟨0, none⟩, ⟨0, none⟩, ⟨0, none⟩, ⟨0, none⟩, ⟨0, none⟩, ⟨0, none⟩, ⟨0, none⟩, ⟨0, none⟩, ⟨0, none⟩, ⟨0, none⟩, ⟨0, none⟩, ⟨0, none⟩, ⟨0, none⟩, ⟨0, none⟩, ⟨0, none⟩, ⟨0, none⟩, ⟨0, none⟩, ⟨0, none⟩, ⟨0, none⟩], List.replicate 38 0⟩
theorem f80_l0_eq (run : Run) (n : Nat) (k0 : Nat) (x0_1 : Int) (x1_1 : List AV) (x7_1 : List AV) (x8_1 : Int) (x9_1 : Int) : f80_l0 run n (k0 + 1) x0_1 x1_1 x7_1 x8_1 x9_1 =
  bif ltI x9_1 x8_1 then
    bif inR x9_1 x7_1.length then
    bif ltI ((nth x7_1 (Int.toNat x9_1)).toInt) 0 then
    some ⟨[.bool false], [], f80_fresh⟩
  else
    bif leI x0_1 ((nth x7_1 (Int.toNat x9_1)).toInt) then
    some ⟨[.bool false], [], f80_fresh⟩
  else
    bif ltI 0 x9_1 then
    bif inR (IntKind.wrap .i64 (x9_1 - 1)) x1_1.length then
    bif leI ((nth x7_1 (Int.toNat x9_1)).toInt) ((nth x1_1 (Int.toNat (IntKind.wrap .i64 (x9_1 - 1)))).toInt) then
    some ⟨[.bool false], [], f80_fresh⟩
  else
    f80_l0 run n k0 x0_1 x1_1 x7_1 x8_1 (IntKind.wrap .i64 (x9_1 + 1))
  else none
  else
    f80_l0 run n k0 x0_1 x1_1 x7_1 x8_1 (IntKind.wrap .i64 (x9_1 + 1))
  else none
  else
    some ⟨[.bool (ltI 0 (x1_1.length : Int))], [], f80_fresh⟩ := by kernel_rfl
noncomputable def f80 (run : Run) (n : Nat) (a0_1 : Int) (a1_1 : List AV) : Option Res := evalK G run n f80_info.keep 0 f80_info.body (retE G f80_info) (f80_info.start [.int a0_1, .slice a1_1])
theorem f80_eq (run : Run) (n : Nat) (a0_1 : Int) (a1_1 : List AV) : f80 run n a0_1 a1_1 =
  f80_l0 run n n a0_1 a1_1 a1_1 (a1_1.length : Int) 0 := by kernel_rfl
theorem f80_run (ext : Run) (n : Nat) (a0_1 : Int) (a1_1 : List AV) : runE G ext (n + 1) 80 [.int a0_1, .slice a1_1] = f80 (runE G ext n) n a0_1 a1_1 := runE_succ f80_at f80_in

noncomputable def f106_l2 (run : Run) (n : Nat) (_k0 : Nat) (k2 : Nat) (x0_3 : List AV) (x1_3 : Int) (x6_3 : Int) (x7_1 : List AV) (x26_1 : List AV) (x27_1 : Int) (x28_1 : Int) : Option Res :=
  iterK (evalK G run n f106_keep 2 (sub [1, 1, 1, 1, 0, 1, 0, 0] f106_body)) f106_t2 f106_o2 (blockK 2 (seqK (evalK G run n f106_keep 0 (sub [1, 1, 1, 1, 1] f106_body) (retE G f106_info)) (retE G f106_info))) k2
    ⟨[.val (.slice (.int .i64)) none (.slice x0_3), .val (.int .i64) none (.int x1_3), .any, .any, .any, .any, .val (.int .i64) none (.int x6_3), .val (.slice (.int .i64)) (some (7, 0)) (.slice x7_1), .any, .any, .any, .any, .any, .any, .any, .any, .any, .any, .any, .any, .any, .any, .any, .any, .any, .any, .val (.slice (.int .i64)) none (.slice x26_1), .val (.int .i64) none (.int x27_1), .val (.int .i64) none (.int x28_1), .any, .any, .any, .any, .any, .any, .any, .any, .any, .any, .any, .any, .any, .any], [⟨0, none⟩, ⟨0, none⟩, ⟨0, none⟩, ⟨0, none⟩, ⟨0, none⟩, ⟨0, none⟩, ⟨0, none⟩, ⟨0, none⟩, ⟨0, none⟩, ⟨0, none⟩, ⟨0, none⟩, ⟨0, none⟩, ⟨0, none⟩, ⟨0, none⟩, ⟨0, none⟩, ⟨0, none⟩, ⟨0, none⟩, ⟨0, none⟩, ⟨0, none⟩, ⟨0, none⟩, ⟨0, none⟩, ⟨0, none⟩, ⟨0, none⟩, ⟨0, none⟩, ⟨0, none⟩, ⟨0, none⟩, ⟨0, none⟩, ⟨0, none⟩, ⟨0, none⟩, ⟨0, none⟩, ⟨0, none⟩, ⟨0, none⟩, ⟨0, none⟩, ⟨0, none⟩, ⟨0, none⟩, ⟨0, none⟩, ⟨0, none⟩, ⟨0, none⟩, ⟨0, none⟩, ⟨0, none⟩, ⟨0, none⟩, ⟨0, none⟩, ⟨0, none⟩], List.replicate 43 0⟩
noncomputable def f106_l0 (run : Run) (n : Nat) (k0 : Nat) (x0_1 : List AV) (x1_1 : Int) (x6_1 : Int) : Option Res :=
  iterK (evalK G run n f106_keep 0 (sub [1, 1, 0, 0, 0] f106_body)) f106_t0 f106_o0 (blockK 0 (seqK (evalK G run n f106_keep 0 (sub [1, 1, 1] f106_body) (retE G f106_info)) (retE G f106_info))) k0
    ⟨[.val (.slice (.int .i64)) none (.slice x0_1), .val (.int .i64) none (.int x1_1), .any, .any, .any, .any, .val (.int .i64) none (.int x6_1), .any, .any, .any, .any, .any, .any, .any, .any, .any, .any, .any, .any, .any, .any, .any, .any, .any, .any, .any, .any, .any, .any, .any, .any, .any, .any, .any, .any, .any, .any, .any, .any, .any, .any, .any, .any], [⟨0, none⟩, ⟨0, none⟩, ⟨0, none⟩, ⟨0, none⟩, ⟨0, none⟩, ⟨0, none⟩, ⟨0, none⟩, ⟨0, none⟩, ⟨0, none⟩, ⟨0, none⟩, ⟨0, none⟩, ⟨0, none⟩, ⟨0, none⟩, ⟨0, none⟩, ⟨0, none⟩, ⟨0, none⟩, ⟨0, none⟩, ⟨0, none⟩, ⟨0, none⟩, ⟨0, none⟩, ⟨0, none⟩, ⟨0, none⟩, ⟨0, none⟩, ⟨0, none⟩, ⟨0, none⟩, ⟨0, none⟩, ⟨0, none⟩, ⟨0, none⟩, ⟨0, none⟩, ⟨0, none⟩, ⟨0, none⟩, ⟨0, none⟩, ⟨0, none⟩, ⟨0, none⟩, ⟨0, none⟩, ⟨0, none⟩, ⟨0, none⟩, ⟨0, none⟩, ⟨0, none⟩, ⟨0, none⟩, ⟨0, none⟩, ⟨0, none⟩, ⟨0, none⟩], List.replicate 43 0⟩
theorem f106_l2_eq (run : Run) (n : Nat) (k0 : Nat) (k2 : Nat) (x0_3 : List AV) (x1_3 : Int) (x6_3 : Int) (x7_1 : List AV) (x26_1 : List AV) (x27_1 : Int) (x28_1 : Int) : f106_l2 run n k0 (k2 + 1) x0_3 x1_3 x6_3 x7_1 x26_1 x27_1 x28_1 =
  bif ltI x28_1 x27_1 then
    bif inR x28_1 x26_1.length then
    bif Nat.ble ((x7_1.length + 1) * 8) 140737488355328 then
    f106_l2 run n k0 k2 x0_3 x1_3 x6_3 (x7_1 ++ [.int (IntKind.wrap .i64 ((nth x26_1 (Int.toNat x28_1)).toInt - x1_3))]) x26_1 x27_1 (IntKind.wrap .i64 (x28_1 + 1))
  else none
  else none
  else
    bif boundsOk 0 x6_3 (x0_3.length : Int) (x0_3.length : Int) && true then
    some ⟨[.slice (List.drop 0 (List.take (Int.toNat x6_3) x0_3)), .slice x7_1], [], f106_fresh⟩
  else none := by kernel_rfl
theorem f106_l0_eq (run : Run) (n : Nat) (k0 : Nat) (x0_1 : List AV) (x1_1 : Int) (x6_1 : Int) : f106_l0 run n (k0 + 1) x0_1 x1_1 x6_1 =
  bif ltI x6_1 (x0_1.length : Int) then
    bif inR x6_1 x0_1.length then
    bif ltI ((nth x0_1 (Int.toNat x6_1)).toInt) x1_1 then
    f106_l0 run n k0 x0_1 x1_1 (IntKind.wrap .i64 (x6_1 + 1))
  else
    bif boundsOk x6_1 (x0_1.length : Int) (x0_1.length : Int) (x0_1.length : Int) && true then
    f106_l2 run n k0 n x0_1 x1_1 x6_1 [] (List.drop (Int.toNat x6_1) (List.take (Int.toNat (x0_1.length : Int)) x0_1)) ((List.drop (Int.toNat x6_1) (List.take (Int.toNat (x0_1.length : Int)) x0_1)).length : Int) 0
  else none
  else none
  else
    bif boundsOk x6_1 (x0_1.length : Int) (x0_1.length : Int) (x0_1.length : Int) && true then
    f106_l2 run n k0 n x0_1 x1_1 x6_1 [] (List.drop (Int.toNat x6_1) (List.take (Int.toNat (x0_1.length : Int)) x0_1)) ((List.drop (Int.toNat x6_1) (List.take (Int.toNat (x0_1.length : Int)) x0_1)).length : Int) 0
  else none := by kernel_rfl
noncomputable def f106 (run : Run) (n : Nat) (a0_1 : List AV) (a1_1 : Int) : Option Res := evalK G run n f106_info.keep 0 f106_info.body (retE G f106_info) (f106_info.start [.slice a0_1, .int a1_1])
theorem f106_eq (run : Run) (n : Nat) (a0_1 : List AV) (a1_1 : Int) : f106 run n a0_1 a1_1 =
  f106_l0 run n n a0_1 a1_1 0 := by kernel_rfl
theorem f106_run (ext : Run) (n : Nat) (a0_1 : List AV) (a1_1 : Int) : runE G ext (n + 1) 106 [.slice a0_1, .int a1_1] = f106 (runE G ext n) n a0_1 a1_1 := runE_succ f106_at f106_in

end Go.Proofs.Ytcpdiahbdmcdcaa.Ev
