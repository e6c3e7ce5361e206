/- What the evaluator does with the functions, as programs over plain values: printed by gen.py, checked by the kernel. -/
import Derived.Test.YtbpllpdmkhojoaaEvFA
namespace Go.Proofs.Ytbpllpdmkhojoaa.Ev
open Go Go.RowKit
set_option maxRecDepth 100000


noncomputable def f77_s70_l0 (run : Run) (n : Nat) (k0 : Nat) (x5_1 : List AV) (x8_1 : List AV) (x9_1 : Int) (x10_1 : Int) : Option Res :=
  iterK (evalK G run n f77_keep 0 (sub [1, 1, 0, 1, 0, 0] f77_body)) f77_t0 f77_o0 (blockK 0 (seqK (evalK G run n f77_keep 0 (sub [1, 1, 1] f77_body) (retE G f77_info)) (retE G f77_info))) k0
    ⟨[.any, .val .fn none (.fn 70), .any, .any, .any, .val (.slice (.blob 32)) (some (5, 0)) (.slice x5_1), .any, .any, .val (.slice .str) none (.slice x8_1), .val (.int .i64) none (.int x9_1), .val (.int .i64) none (.int x10_1), .any, .any, .any, .any, .any, .any, .any, .any, .any, .any, .any], [⟨0, none⟩, ⟨0, none⟩, ⟨0, none⟩, ⟨0, none⟩, ⟨0, none⟩, ⟨0, none⟩, ⟨0, none⟩, ⟨0, none⟩, ⟨0, none⟩, ⟨0, none⟩, ⟨0, none⟩, ⟨0, none⟩, ⟨0, none⟩, ⟨0, none⟩, ⟨0, none⟩, ⟨0, none⟩, ⟨0, none⟩, ⟨0, none⟩, ⟨0, none⟩, ⟨0, none⟩, ⟨0, none⟩, ⟨0, none⟩], List.replicate 22 0⟩
theorem f77_s70_l0_eq (run : Run) (n : Nat) (k0 : Nat) (x5_1 : List AV) (x8_1 : List AV) (x9_1 : Int) (x10_1 : Int) : f77_s70_l0 run n (k0 + 1) x5_1 x8_1 x9_1 x10_1 =
  bif ltI x10_1 x9_1 then
    bif inR x10_1 x8_1.length then
    (run 70 [.str ((nth x8_1 (Int.toNat x10_1)).toStr)]).bind fun r1 =>
    nilV r1.outs (consV r1.vals fun v1 vs1 =>
    nilV vs1 (bif Nat.ble ((x5_1.length + 1) * 32) 140737488355328 then
    f77_s70_l0 run n k0 (x5_1 ++ [.blob v1.toBlob]) x8_1 x9_1 (IntKind.wrap .i64 (x10_1 + 1))
  else none))
  else none
  else
    some ⟨[.slice x5_1], [], f77_fresh⟩ := by kernel_rfl
noncomputable def f77_s70 (run : Run) (n : Nat) (a0_1 : List AV) : Option Res := evalK G run n f77_info.keep 0 f77_info.body (retE G f77_info) (f77_info.start [.slice a0_1, .fn 70])
theorem f77_s70_eq (run : Run) (n : Nat) (a0_1 : List AV) : f77_s70 run n a0_1 =
  f77_s70_l0 run n n [] a0_1 (a0_1.length : Int) 0 := by kernel_rfl
theorem f77_s70_run (ext : Run) (n : Nat) (a0_1 : List AV) : runE G ext (n + 1) 77 [.slice a0_1, .fn 70] = f77_s70 (runE G ext n) n a0_1 := runE_succ f77_at f77_in

noncomputable def f37 (run : Run) (n : Nat) (a0_1 : List AV) : Option Res := evalK G run n f37_info.keep 0 f37_info.body (retE G f37_info) (f37_info.start [.slice a0_1])
theorem f37_eq (run : Run) (n : Nat) (a0_1 : List AV) : f37 run n a0_1 =
  (run 77 [.slice a0_1, .fn 70]).bind fun r1 =>
    bif r1.fresh then
    nilV r1.outs (consV r1.vals fun v1 vs1 =>
    nilV vs1 (some ⟨[.slice v1.toSlice], [], f37_fresh⟩))
  else none := by kernel_rfl
theorem f37_run (ext : Run) (n : Nat) (a0_1 : List AV) : runE G ext (n + 1) 37 [.slice a0_1] = f37 (runE G ext n) n a0_1 := runE_succ f37_at f37_in

noncomputable def f98_l0 (run : Run) (n : Nat) (k0 : Nat) (x0_1 : Int) (x3_1 : Int) : Option Res :=
  iterK (evalK G run n f98_keep 0 (sub [1, 1, 1, 0, 0, 0] f98_body)) f98_t0 f98_o0 (blockK 0 (seqK (evalK G run n f98_keep 0 (sub [1, 1, 1, 1] f98_body) (retE G f98_info)) (retE G f98_info))) k0
    ⟨[.val (.int .i64) none (.int x0_1), .any, .any, .val (.int .i64) none (.int x3_1), .any, .any, .any, .any, .any, .any, .any, .any, .any, .any], [⟨0, none⟩, ⟨0, none⟩, ⟨0, none⟩, ⟨0, none⟩, ⟨0, none⟩, ⟨0, none⟩, ⟨0, none⟩, ⟨0, none⟩, ⟨0, none⟩, ⟨0, none⟩, ⟨0, none⟩, ⟨0, none⟩, ⟨0, none⟩, ⟨0, none⟩], List.replicate 14 0⟩
theorem f98_l0_eq (run : Run) (n : Nat) (k0 : Nat) (x0_1 : Int) (x3_1 : Int) : f98_l0 run n (k0 + 1) x0_1 x3_1 =
  bif leI x3_1 (IntKind.wrap .i64 (Int.tdiv (IntKind.wrap .i64 (x0_1 - 1)) 2)) then
    f98_l0 run n k0 x0_1 (IntKind.wrap .i64 (x3_1 * 2))
  else
    some ⟨[.int x3_1], [], f98_fresh⟩ := by kernel_rfl
noncomputable def f98 (run : Run) (n : Nat) (a0_1 : Int) : Option Res := evalK G run n f98_info.keep 0 f98_info.body (retE G f98_info) (f98_info.start [.int a0_1])
theorem f98_eq (run : Run) (n : Nat) (a0_1 : Int) : f98 run n a0_1 =
  bif ltI a0_1 2 then
    some ⟨[.int 0], [], f98_fresh⟩
  else
    f98_l0 run n n a0_1 1 := by kernel_rfl
theorem f98_run (ext : Run) (n : Nat) (a0_1 : Int) : runE G ext (n + 1) 98 [.int a0_1] = f98 (runE G ext n) n a0_1 := runE_succ f98_at f98_in

noncomputable def f76 (run : Run) (n : Nat) (a0_1 : List AV) : Option Res := evalK G run n f76_info.keep 0 f76_info.body (retE G f76_info) (f76_info.start [.slice a0_1])
theorem f76_eq (run : Run) (n : Nat) (a0_1 : List AV) : f76 run n a0_1 =
  (run 98 [.int (a0_1.length : Int)]).bind fun r1 =>
    nilV r1.outs (consV r1.vals fun v1 vs1 =>
    nilV vs1 (bif boundsOk 0 v1.toInt (a0_1.length : Int) (a0_1.length : Int) && true then
    bif boundsOk v1.toInt (a0_1.length : Int) (a0_1.length : Int) (a0_1.length : Int) && true then
    some ⟨[.slice (List.drop 0 (List.take (Int.toNat v1.toInt) a0_1)), .slice (List.drop (Int.toNat v1.toInt) (List.take (Int.toNat (a0_1.length : Int)) a0_1))], [], f76_fresh⟩
  else none
  else none)) := by kernel_rfl
theorem f76_run (ext : Run) (n : Nat) (a0_1 : List AV) : runE G ext (n + 1) 76 [.slice a0_1] = f76 (runE G ext n) n a0_1 := runE_succ f76_at f76_in

noncomputable def f36 (run : Run) (n : Nat) (a0_1 : List AV) : Option Res := evalK G run n f36_info.keep 0 f36_info.body (retE G f36_info) (f36_info.start [.slice a0_1])
theorem f36_eq (run : Run) (n : Nat) (a0_1 : List AV) : f36 run n a0_1 =
  bif eqI (a0_1.length : Int) 0 then
    some ⟨[.blob [0, 0, 0, 0, 0, 0, 0, 0, 0, 0, 0, 0, 0, 0, 0, 0, 0, 0, 0, 0, 0, 0, 0, 0, 0, 0, 0, 0, 0, 0, 0, 0]], [], f36_fresh⟩
  else
    bif eqI (a0_1.length : Int) 1 then
    bif inR 0 a0_1.length then
    some ⟨[.blob ((nth a0_1 0).toBlob)], [], f36_fresh⟩
  else none
  else
    (run 76 [.slice a0_1]).bind fun r1 =>
    nilV r1.outs (consV r1.vals fun v1 vs1 =>
    consV vs1 fun v2 vs2 =>
    nilV vs2 ((run 36 [.slice v1.toSlice]).bind fun r2 =>
    nilV r2.outs (consV r2.vals fun v3 vs3 =>
    nilV vs3 ((run 36 [.slice v2.toSlice]).bind fun r3 =>
    nilV r3.outs (consV r3.vals fun v4 vs4 =>
    nilV vs4 ((run 72 [.blob v3.toBlob, .blob v4.toBlob]).bind fun r4 =>
    nilV r4.outs (consV r4.vals fun v5 vs5 =>
    nilV vs5 (some ⟨[.blob v5.toBlob], [], f36_fresh⟩)))))))) := by kernel_rfl
theorem f36_run (ext : Run) (n : Nat) (a0_1 : List AV) : runE G ext (n + 1) 36 [.slice a0_1] = f36 (runE G ext n) n a0_1 := runE_succ f36_at f36_in

noncomputable def f69 (run : Run) (n : Nat) (a0_1 : List AV) (a1_1 : Int) : Option Res := evalK G run n f69_info.keep 0 f69_info.body (retE G f69_info) (f69_info.start [.slice a0_1, .int a1_1])
theorem f69_eq (run : Run) (n : Nat) (a0_1 : List AV) (a1_1 : Int) : f69 run n a0_1 a1_1 =
  bif ltI (a0_1.length : Int) 2 then
    some ⟨[.slice []], [], f69_fresh⟩
  else
    (run 98 [.int (a0_1.length : Int)]).bind fun r1 =>
    nilV r1.outs (consV r1.vals fun v1 vs1 =>
    nilV vs1 (bif ltI a1_1 v1.toInt then
    bif boundsOk 0 v1.toInt (a0_1.length : Int) (a0_1.length : Int) && true then
    (run 69 [.slice (List.drop 0 (List.take (Int.toNat v1.toInt) a0_1)), .int a1_1]).bind fun r2 =>
    bif r2.fresh then
    nilV r2.outs (consV r2.vals fun v2 vs2 =>
    nilV vs2 (bif boundsOk v1.toInt (a0_1.length : Int) (a0_1.length : Int) (a0_1.length : Int) && true then
    (run 36 [.slice (List.drop (Int.toNat v1.toInt) (List.take (Int.toNat (a0_1.length : Int)) a0_1))]).bind fun r3 =>
    nilV r3.outs (consV r3.vals fun v3 vs3 =>
    nilV vs3 (bif Nat.ble ((v2.toSlice.length + 1) * 32) 140737488355328 then
    some ⟨[.slice (v2.toSlice ++ [.blob v3.toBlob])], [], f69_fresh⟩
  else none))
  else none))
  else none
  else none
  else
    bif boundsOk v1.toInt (a0_1.length : Int) (a0_1.length : Int) (a0_1.length : Int) && true then
    (run 69 [.slice (List.drop (Int.toNat v1.toInt) (List.take (Int.toNat (a0_1.length : Int)) a0_1)), .int (IntKind.wrap .i64 (a1_1 - v1.toInt))]).bind fun r4 =>
    bif r4.fresh then
    nilV r4.outs (consV r4.vals fun v4 vs4 =>
    nilV vs4 (bif boundsOk 0 v1.toInt (a0_1.length : Int) (a0_1.length : Int) && true then
    (run 36 [.slice (List.drop 0 (List.take (Int.toNat v1.toInt) a0_1))]).bind fun r5 =>
    nilV r5.outs (consV r5.vals fun v5 vs5 =>
    nilV vs5 (bif Nat.ble ((v4.toSlice.length + 1) * 32) 140737488355328 then
    some ⟨[.slice (v4.toSlice ++ [.blob v5.toBlob])], [], f69_fresh⟩
  else none))
  else none))
  else none
  else none)) := by kernel_rfl
theorem f69_run (ext : Run) (n : Nat) (a0_1 : List AV) (a1_1 : Int) : runE G ext (n + 1) 69 [.slice a0_1, .int a1_1] = f69 (runE G ext n) n a0_1 a1_1 := runE_succ f69_at f69_in

noncomputable def f31 (run : Run) (n : Nat) (a0_1 : List AV) (a1_1 : Int) : Option Res := evalK G run n f31_info.keep 0 f31_info.body (retE G f31_info) (f31_info.start [.slice a0_1, .int a1_1])
theorem f31_eq (run : Run) (n : Nat) (a0_1 : List AV) (a1_1 : Int) : f31 run n a0_1 a1_1 =
  bif ltI 1048576 (a0_1.length : Int) then
    some ⟨[.agg [.int 0, .int 0, .slice []], .int 4], [], f31_fresh⟩
  else
    bif ltI a1_1 0 then
    some ⟨[.agg [.int 0, .int 0, .slice []], .int 3], [], f31_fresh⟩
  else
    bif leI (a0_1.length : Int) a1_1 then
    some ⟨[.agg [.int 0, .int 0, .slice []], .int 3], [], f31_fresh⟩
  else
    (run 37 [.slice a0_1]).bind fun r1 =>
    bif r1.fresh then
    nilV r1.outs (consV r1.vals fun v1 vs1 =>
    nilV vs1 ((run 69 [.slice v1.toSlice, .int a1_1]).bind fun r2 =>
    bif r2.fresh then
    nilV r2.outs (consV r2.vals fun v2 vs2 =>
    nilV vs2 (some ⟨[.agg [.int a1_1, .int (a0_1.length : Int), .slice v2.toSlice], .int 0], [], f31_fresh⟩))
  else none))
  else none := by kernel_rfl
theorem f31_run (ext : Run) (n : Nat) (a0_1 : List AV) (a1_1 : Int) : runE G ext (n + 1) 31 [.slice a0_1, .int a1_1] = f31 (runE G ext n) n a0_1 a1_1 := runE_succ f31_at f31_in

noncomputable def f35 (run : Run) (n : Nat) (a0_1 : List AV) : Option Res := evalK G run n f35_info.keep 0 f35_info.body (retE G f35_info) (f35_info.start [.slice a0_1])
theorem f35_eq (run : Run) (n : Nat) (a0_1 : List AV) : f35 run n a0_1 =
  (run 37 [.slice a0_1]).bind fun r1 =>
    bif r1.fresh then
    nilV r1.outs (consV r1.vals fun v1 vs1 =>
    nilV vs1 ((run 36 [.slice v1.toSlice]).bind fun r2 =>
    nilV r2.outs (consV r2.vals fun v2 vs2 =>
    nilV vs2 ((run 75 [.int (IntKind.wrap .u64 (a0_1.length : Int)), .blob v2.toBlob]).bind fun r3 =>
    nilV r3.outs (consV r3.vals fun v3 vs3 =>
    nilV vs3 (some ⟨[.blob v3.toBlob], [], f35_fresh⟩))))))
  else none := by kernel_rfl
theorem f35_run (ext : Run) (n : Nat) (a0_1 : List AV) : runE G ext (n + 1) 35 [.slice a0_1] = f35 (runE G ext n) n a0_1 := runE_succ f35_at f35_in

noncomputable def f7 (run : Run) (n : Nat) (a0_1 : List AV) (a1_1 : Int) : Option Res := evalK G run n f7_info.keep 0 f7_info.body (retE G f7_info) (f7_info.start [.slice a0_1, .int a1_1])
theorem f7_eq (run : Run) (n : Nat) (a0_1 : List AV) (a1_1 : Int) : f7 run n a0_1 a1_1 =
  (run 19 [.slice a0_1]).bind fun r1 =>
    nilV r1.outs (consV r1.vals fun v1 vs1 =>
    nilV vs1 (bif v1.toBool then
    (run 30 []).bind fun r2 =>
    nilV r2.outs (consV r2.vals fun v2 vs2 =>
    nilV vs2 (some ⟨[.bool v2.toBool], [], f7_fresh⟩))
  else
    (run 31 [.slice a0_1, .int a1_1]).bind fun r3 =>
    nilV r3.outs (consV r3.vals fun v3 vs3 =>
    consV vs3 fun v4 vs4 =>
    nilV vs4 (bif ltI a1_1 0 then
    bif eqI v4.toInt 3 then
    (run 30 []).bind fun r4 =>
    nilV r4.outs (consV r4.vals fun v5 vs5 =>
    nilV vs5 (some ⟨[.bool v5.toBool], [], f7_fresh⟩))
  else
    some ⟨[.bool false], [], f7_fresh⟩
  else
    bif leI (a0_1.length : Int) a1_1 then
    bif eqI v4.toInt 3 then
    (run 30 []).bind fun r5 =>
    nilV r5.outs (consV r5.vals fun v6 vs6 =>
    nilV vs6 (some ⟨[.bool v6.toBool], [], f7_fresh⟩))
  else
    some ⟨[.bool false], [], f7_fresh⟩
  else
    bif !(eqI v4.toInt 0) then
    some ⟨[.bool false], [], f7_fresh⟩
  else
    bif inR a1_1 a0_1.length then
    (run 32 [.str ((nth a0_1 (Int.toNat a1_1)).toStr), .agg [.int ((v3.fld 0).toInt), .int ((v3.fld 1).toInt), .slice ((v3.fld 2).toSlice)]]).bind fun r6 =>
    bif r6.fresh then
    nilV r6.outs (consV r6.vals fun v7 vs7 =>
    nilV vs7 ((run 33 [.agg [.int ((v3.fld 0).toInt), .int ((v3.fld 1).toInt), .slice ((v3.fld 2).toSlice)]]).bind fun r7 =>
    nilV r7.outs (consV r7.vals fun v8 vs8 =>
    nilV vs8 (bif eqI v8.toInt 0 then
    (run 35 [.slice a0_1]).bind fun r8 =>
    nilV r8.outs (consV r8.vals fun v9 vs9 =>
    nilV vs9 (bif inR a1_1 a0_1.length then
    (run 34 [.blob v9.toBlob, .str ((nth a0_1 (Int.toNat a1_1)).toStr), .agg [.int ((v3.fld 0).toInt), .int ((v3.fld 1).toInt), .slice ((v3.fld 2).toSlice)]]).bind fun r9 =>
    nilV r9.outs (consV r9.vals fun v10 vs10 =>
    nilV vs10 (bif v10.toBool then
    bif ltI 0 (v7.toSlice.length : Int) then
    bif inR (IntKind.wrap .i64 ((v7.toSlice.length : Int) - 1)) v7.toSlice.length then
    (run 37 [.slice a0_1]).bind fun r10 =>
    bif r10.fresh then
    nilV r10.outs (consV r10.vals fun v11 vs11 =>
    nilV vs11 ((run 36 [.slice v11.toSlice]).bind fun r11 =>
    nilV r11.outs (consV r11.vals fun v12 vs12 =>
    nilV vs12 (bif eqS ((nth v7.toSlice (Int.toNat (IntKind.wrap .i64 ((v7.toSlice.length : Int) - 1)))).toBlob) v12.toBlob then
    (run 30 []).bind fun r12 =>
    nilV r12.outs (consV r12.vals fun v13 vs13 =>
    nilV vs13 (some ⟨[.bool v13.toBool], [], f7_fresh⟩))
  else
    some ⟨[.bool false], [], f7_fresh⟩))))
  else none
  else none
  else
    some ⟨[.bool false], [], f7_fresh⟩
  else
    some ⟨[.bool false], [], f7_fresh⟩))
  else none))
  else
    some ⟨[.bool false], [], f7_fresh⟩))))
  else none
  else none)))) := by kernel_rfl
theorem f7_run (ext : Run) (n : Nat) (a0_1 : List AV) (a1_1 : Int) : runE G ext (n + 1) 7 [.slice a0_1, .int a1_1] = f7 (runE G ext n) n a0_1 a1_1 := runE_succ f7_at f7_in

noncomputable def f78_l0 (run : Run) (n : Nat) (k0 : Nat) (x3_1 : List AV) (x6_1 : List AV) (x7_1 : Int) (x8_1 : Int) : Option Res :=
  iterK (evalK G run n f78_keep 0 (sub [1, 1, 0, 1, 0, 0] f78_body)) f78_t0 f78_o0 (blockK 0 (seqK (evalK G run n f78_keep 0 (sub [1, 1, 1] f78_body) (retE G f78_info)) (retE G f78_info))) k0
    ⟨[.any, .any, .any, .val (.slice .str) (some (3, 0)) (.slice x3_1), .any, .any, .val (.slice (.blob 32)) none (.slice x6_1), .val (.int .i64) none (.int x7_1), .val (.int .i64) none (.int x8_1), .any, .any, .any, .any, .any, .any, .any, .any, .any, .any], [⟨0, none⟩, ⟨0, none⟩, ⟨0, none⟩, ⟨0, none⟩, ⟨0, none⟩, ⟨0, none⟩, ⟨0, none⟩, ⟨0, none⟩, ⟨0, none⟩, ⟨0, none⟩, ⟨0, none⟩, ⟨0, none⟩, ⟨0, none⟩, ⟨0, none⟩, ⟨0, none⟩, ⟨0, none⟩, ⟨0, none⟩, ⟨0, none⟩, ⟨0, none⟩], List.replicate 19 0⟩
theorem f78_l0_eq (run : Run) (n : Nat) (k0 : Nat) (x3_1 : List AV) (x6_1 : List AV) (x7_1 : Int) (x8_1 : Int) : f78_l0 run n (k0 + 1) x3_1 x6_1 x7_1 x8_1 =
  bif ltI x8_1 x7_1 then
    bif inR x8_1 x6_1.length then
    (run 44 [.blob ((nth x6_1 (Int.toNat x8_1)).toBlob)]).bind fun r1 =>
    nilV r1.outs (consV r1.vals fun v1 vs1 =>
    nilV vs1 (bif Nat.ble ((x3_1.length + 1) * 16) 140737488355328 then
    f78_l0 run n k0 (x3_1 ++ [.str v1.toStr]) x6_1 x7_1 (IntKind.wrap .i64 (x8_1 + 1))
  else none))
  else none
  else
    some ⟨[.slice x3_1], [], f78_fresh⟩ := by kernel_rfl
noncomputable def f78 (run : Run) (n : Nat) (a0_1 : List AV) : Option Res := evalK G run n f78_info.keep 0 f78_info.body (retE G f78_info) (f78_info.start [.slice a0_1])
theorem f78_eq (run : Run) (n : Nat) (a0_1 : List AV) : f78 run n a0_1 =
  f78_l0 run n n [] a0_1 (a0_1.length : Int) 0 := by kernel_rfl
theorem f78_run (ext : Run) (n : Nat) (a0_1 : List AV) : runE G ext (n + 1) 78 [.slice a0_1] = f78 (runE G ext n) n a0_1 := runE_succ f78_at f78_in

noncomputable def f39 (run : Run) (n : Nat) (a0_1 : List AV) (a1_1 : Int) : Option Res := evalK G run n f39_info.keep 0 f39_info.body (retE G f39_info) (f39_info.start [.slice a0_1, .int a1_1])
theorem f39_eq (run : Run) (n : Nat) (a0_1 : List AV) (a1_1 : Int) : f39 run n a0_1 a1_1 =
  (run 78 [.slice a0_1]).bind fun r1 =>
    bif r1.fresh then
    nilV r1.outs (consV r1.vals fun v1 vs1 =>
    nilV vs1 ((run 31 [.slice v1.toSlice, .int a1_1]).bind fun r2 =>
    nilV r2.outs (consV r2.vals fun v2 vs2 =>
    consV vs2 fun v3 vs3 =>
    nilV vs3 (some ⟨[.agg [.int ((v2.fld 0).toInt), .int ((v2.fld 1).toInt), .slice ((v2.fld 2).toSlice)], .int v3.toInt], [], f39_fresh⟩))))
  else none := by kernel_rfl
theorem f39_run (ext : Run) (n : Nat) (a0_1 : List AV) (a1_1 : Int) : runE G ext (n + 1) 39 [.slice a0_1, .int a1_1] = f39 (runE G ext n) n a0_1 a1_1 := runE_succ f39_at f39_in

noncomputable def f41 (run : Run) (n : Nat) (a0_1 : List AV) : Option Res := evalK G run n f41_info.keep 0 f41_info.body (retE G f41_info) (f41_info.start [.slice a0_1])
theorem f41_eq (run : Run) (n : Nat) (a0_1 : List AV) : f41 run n a0_1 =
  (run 78 [.slice a0_1]).bind fun r1 =>
    bif r1.fresh then
    nilV r1.outs (consV r1.vals fun v1 vs1 =>
    nilV vs1 ((run 35 [.slice v1.toSlice]).bind fun r2 =>
    nilV r2.outs (consV r2.vals fun v2 vs2 =>
    nilV vs2 (some ⟨[.blob v2.toBlob], [], f41_fresh⟩))))
  else none := by kernel_rfl
theorem f41_run (ext : Run) (n : Nat) (a0_1 : List AV) : runE G ext (n + 1) 41 [.slice a0_1] = f41 (runE G ext n) n a0_1 := runE_succ f41_at f41_in

noncomputable def f38 (run : Run) (n : Nat) : Option Res := evalK G run n f38_info.keep 0 f38_info.body (retE G f38_info) (f38_info.start [])
theorem f38_eq (run : Run) (n : Nat) : f38 run n  =
  (run 39 [.slice [.blob [1, 0, 0, 0, 0, 0, 0, 0, 0, 0, 0, 0, 0, 0, 0, 0, 0, 0, 0, 0, 0, 0, 0, 0, 0, 0, 0, 0, 0, 0, 0, 0], .blob [2, 0, 0, 0, 0, 0, 0, 0, 0, 0, 0, 0, 0, 0, 0, 0, 0, 0, 0, 0, 0, 0, 0, 0, 0, 0, 0, 0, 0, 0, 0, 0]], .int 1]).bind fun r1 =>
    nilV r1.outs (consV r1.vals fun v1 vs1 =>
    consV vs1 fun v2 vs2 =>
    nilV vs2 ((run 44 [.blob ((nth [.blob [1, 0, 0, 0, 0, 0, 0, 0, 0, 0, 0, 0, 0, 0, 0, 0, 0, 0, 0, 0, 0, 0, 0, 0, 0, 0, 0, 0, 0, 0, 0, 0], .blob [2, 0, 0, 0, 0, 0, 0, 0, 0, 0, 0, 0, 0, 0, 0, 0, 0, 0, 0, 0, 0, 0, 0, 0, 0, 0, 0, 0, 0, 0, 0, 0]] 0).toBlob)]).bind fun r2 =>
    nilV r2.outs (consV r2.vals fun v3 vs3 =>
    nilV vs3 (bif eqI (v3.toStr.length : Int) 33 then
    bif eqI v2.toInt 0 then
    (run 41 [.slice [.blob [1, 0, 0, 0, 0, 0, 0, 0, 0, 0, 0, 0, 0, 0, 0, 0, 0, 0, 0, 0, 0, 0, 0, 0, 0, 0, 0, 0, 0, 0, 0, 0], .blob [2, 0, 0, 0, 0, 0, 0, 0, 0, 0, 0, 0, 0, 0, 0, 0, 0, 0, 0, 0, 0, 0, 0, 0, 0, 0, 0, 0, 0, 0, 0, 0]]]).bind fun r3 =>
    nilV r3.outs (consV r3.vals fun v4 vs4 =>
    nilV vs4 ((run 46 [.blob v4.toBlob, .blob ((nth [.blob [1, 0, 0, 0, 0, 0, 0, 0, 0, 0, 0, 0, 0, 0, 0, 0, 0, 0, 0, 0, 0, 0, 0, 0, 0, 0, 0, 0, 0, 0, 0, 0], .blob [2, 0, 0, 0, 0, 0, 0, 0, 0, 0, 0, 0, 0, 0, 0, 0, 0, 0, 0, 0, 0, 0, 0, 0, 0, 0, 0, 0, 0, 0, 0, 0]] 1).toBlob), .agg [.int ((v1.fld 0).toInt), .int ((v1.fld 1).toInt), .slice ((v1.fld 2).toSlice)]]).bind fun r4 =>
    nilV r4.outs (consV r4.vals fun v5 vs5 =>
    nilV vs5 (bif v5.toBool then
    (run 41 [.slice [.blob [1, 0, 0, 0, 0, 0, 0, 0, 0, 0, 0, 0, 0, 0, 0, 0, 0, 0, 0, 0, 0, 0, 0, 0, 0, 0, 0, 0, 0, 0, 0, 0], .blob [2, 0, 0, 0, 0, 0, 0, 0, 0, 0, 0, 0, 0, 0, 0, 0, 0, 0, 0, 0, 0, 0, 0, 0, 0, 0, 0, 0, 0, 0, 0, 0]]]).bind fun r5 =>
    nilV r5.outs (consV r5.vals fun v6 vs6 =>
    nilV vs6 ((run 46 [.blob v6.toBlob, .blob ((nth [.blob [1, 0, 0, 0, 0, 0, 0, 0, 0, 0, 0, 0, 0, 0, 0, 0, 0, 0, 0, 0, 0, 0, 0, 0, 0, 0, 0, 0, 0, 0, 0, 0], .blob [2, 0, 0, 0, 0, 0, 0, 0, 0, 0, 0, 0, 0, 0, 0, 0, 0, 0, 0, 0, 0, 0, 0, 0, 0, 0, 0, 0, 0, 0, 0, 0]] 0).toBlob), .agg [.int ((v1.fld 0).toInt), .int ((v1.fld 1).toInt), .slice ((v1.fld 2).toSlice)]]).bind fun r6 =>
    nilV r6.outs (consV r6.vals fun v7 vs7 =>
    nilV vs7 (some ⟨[.bool (!v7.toBool)], [], f38_fresh⟩))))
  else
    some ⟨[.bool false], [], f38_fresh⟩))))
  else
    some ⟨[.bool false], [], f38_fresh⟩
  else
    some ⟨[.bool false], [], f38_fresh⟩)))) := by kernel_rfl
theorem f38_run (ext : Run) (n : Nat) : runE G ext (n + 1) 38 [] = f38 (runE G ext n) n  := runE_succ f38_at f38_in

noncomputable def f40_l0 (run : Run) (n : Nat) (k0 : Nat) (x0_1 : List AV) (x3_1 : List AV) (x4_1 : Int) : Option Res :=
  iterK (evalK G run n f40_keep 0 (sub [1, 1, 0, 1, 0, 0] f40_body)) f40_t0 f40_o0 (blockK 0 (seqK (evalK G run n f40_keep 0 (sub [1, 1, 1] f40_body) (retE G f40_info)) (retE G f40_info))) k0
    ⟨[.val (.slice (.blob 32)) none (.slice x0_1), .any, .any, .val (.slice .str) (some (3, 0)) (.slice x3_1), .val (.int .i64) none (.int x4_1), .any, .any, .any, .any, .any, .any, .any, .any, .any, .any, .any, .any, .any, .any, .any], [⟨0, none⟩, ⟨0, none⟩, ⟨0, none⟩, ⟨0, none⟩, ⟨0, none⟩, ⟨0, none⟩, ⟨0, none⟩, ⟨0, none⟩, ⟨0, none⟩, ⟨0, none⟩, ⟨0, none⟩, ⟨0, none⟩, ⟨0, none⟩, ⟨0, none⟩, ⟨0, none⟩, ⟨0, none⟩, ⟨0, none⟩, ⟨0, none⟩, ⟨0, none⟩, ⟨0, none⟩], List.replicate 20 0⟩
theorem f40_l0_eq (run : Run) (n : Nat) (k0 : Nat) (x0_1 : List AV) (x3_1 : List AV) (x4_1 : Int) : f40_l0 run n (k0 + 1) x0_1 x3_1 x4_1 =
  bif ltI x4_1 (x0_1.length : Int) then
    bif inR x4_1 x0_1.length then
    (run 45 [.blob ((nth x0_1 (Int.toNat x4_1)).toBlob)]).bind fun r1 =>
    nilV r1.outs (consV r1.vals fun v1 vs1 =>
    nilV vs1 (bif Nat.ble ((x3_1.length + 1) * 16) 140737488355328 then
    f40_l0 run n k0 x0_1 (x3_1 ++ [.str v1.toStr]) (IntKind.wrap .i64 (x4_1 + 1))
  else none))
  else none
  else
    some ⟨[.slice x3_1], [], f40_fresh⟩ := by kernel_rfl
noncomputable def f40 (run : Run) (n : Nat) (a0_1 : List AV) : Option Res := evalK G run n f40_info.keep 0 f40_info.body (retE G f40_info) (f40_info.start [.slice a0_1])
theorem f40_eq (run : Run) (n : Nat) (a0_1 : List AV) : f40 run n a0_1 =
  f40_l0 run n n a0_1 [] 0 := by kernel_rfl
theorem f40_run (ext : Run) (n : Nat) (a0_1 : List AV) : runE G ext (n + 1) 40 [.slice a0_1] = f40 (runE G ext n) n a0_1 := runE_succ f40_at f40_in

noncomputable def f42 (run : Run) (n : Nat) (a0_1 : List AV) : Option Res := evalK G run n f42_info.keep 0 f42_info.body (retE G f42_info) (f42_info.start [.slice a0_1])
theorem f42_eq (run : Run) (n : Nat) (a0_1 : List AV) : f42 run n a0_1 =
  (run 40 [.slice a0_1]).bind fun r1 =>
    bif r1.fresh then
    nilV r1.outs (consV r1.vals fun v1 vs1 =>
    nilV vs1 ((run 21 [.slice v1.toSlice]).bind fun r2 =>
    nilV r2.outs (consV r2.vals fun v2 vs2 =>
    nilV vs2 (some ⟨[.blob v2.toBlob], [], f42_fresh⟩))))
  else none := by kernel_rfl
theorem f42_run (ext : Run) (n : Nat) (a0_1 : List AV) : runE G ext (n + 1) 42 [.slice a0_1] = f42 (runE G ext n) n a0_1 := runE_succ f42_at f42_in

noncomputable def f43 (run : Run) (n : Nat) (a0_1 : Int) (a0_2 : Int) (a0_3 : List AV) (a1_1 : Int) (a1_2 : Int) (a1_3 : List AV) : Option Res := evalK G run n f43_info.keep 0 f43_info.body (retE G f43_info) (f43_info.start [.agg [.int a0_1, .int a0_2, .slice a0_3], .agg [.int a1_1, .int a1_2, .slice a1_3]])
theorem f43_eq (run : Run) (n : Nat) (a0_1 : Int) (a0_2 : Int) (a0_3 : List AV) (a1_1 : Int) (a1_2 : Int) (a1_3 : List AV) : f43 run n a0_1 a0_2 a0_3 a1_1 a1_2 a1_3 =
  bif eqI a0_1 a1_1 then
    bif eqI a0_2 a1_2 then
    (run 27 [.slice a0_3, .slice a1_3]).bind fun r1 =>
    nilV r1.outs (consV r1.vals fun v1 vs1 =>
    nilV vs1 (some ⟨[.bool v1.toBool], [], f43_fresh⟩))
  else
    some ⟨[.bool false], [], f43_fresh⟩
  else
    some ⟨[.bool false], [], f43_fresh⟩ := by kernel_rfl
theorem f43_run (ext : Run) (n : Nat) (a0_1 : Int) (a0_2 : Int) (a0_3 : List AV) (a1_1 : Int) (a1_2 : Int) (a1_3 : List AV) : runE G ext (n + 1) 43 [.agg [.int a0_1, .int a0_2, .slice a0_3], .agg [.int a1_1, .int a1_2, .slice a1_3]] = f43 (runE G ext n) n a0_1 a0_2 a0_3 a1_1 a1_2 a1_3 := runE_succ f43_at f43_in

noncomputable def f8 (run : Run) (n : Nat) (a0_1 : List AV) (a1_1 : Int) : Option Res := evalK G run n f8_info.keep 0 f8_info.body (retE G f8_info) (f8_info.start [.slice a0_1, .int a1_1])
theorem f8_eq (run : Run) (n : Nat) (a0_1 : List AV) (a1_1 : Int) : f8 run n a0_1 a1_1 =
  bif ltI 300 (a0_1.length : Int) then
    (run 38 []).bind fun r1 =>
    nilV r1.outs (consV r1.vals fun v1 vs1 =>
    nilV vs1 (some ⟨[.bool v1.toBool], [], f8_fresh⟩))
  else
    (run 39 [.slice a0_1, .int a1_1]).bind fun r2 =>
    nilV r2.outs (consV r2.vals fun v2 vs2 =>
    consV vs2 fun v3 vs3 =>
    nilV vs3 ((run 40 [.slice a0_1]).bind fun r3 =>
    bif r3.fresh then
    nilV r3.outs (consV r3.vals fun v4 vs4 =>
    nilV vs4 ((run 20 [.slice v4.toSlice, .int a1_1]).bind fun r4 =>
    nilV r4.outs (consV r4.vals fun v5 vs5 =>
    consV vs5 fun v6 vs6 =>
    nilV vs6 ((run 41 [.slice a0_1]).bind fun r5 =>
    nilV r5.outs (consV r5.vals fun v7 vs7 =>
    nilV vs7 ((run 42 [.slice a0_1]).bind fun r6 =>
    nilV r6.outs (consV r6.vals fun v8 vs8 =>
    nilV vs8 (bif eqS v7.toBlob v8.toBlob then
    (run 43 [.agg [.int ((v2.fld 0).toInt), .int ((v2.fld 1).toInt), .slice ((v2.fld 2).toSlice)], .agg [.int ((v5.fld 0).toInt), .int ((v5.fld 1).toInt), .slice ((v5.fld 2).toSlice)]]).bind fun r7 =>
    nilV r7.outs (consV r7.vals fun v9 vs9 =>
    nilV vs9 (bif v9.toBool then
    bif eqI v3.toInt v6.toInt then
    bif eqI (a0_1.length : Int) 0 then
    (run 38 []).bind fun r8 =>
    nilV r8.outs (consV r8.vals fun v10 vs10 =>
    nilV vs10 (some ⟨[.bool v10.toBool], [], f8_fresh⟩))
  else
    bif inR 0 a0_1.length then
    (run 44 [.blob ((nth a0_1 0).toBlob)]).bind fun r9 =>
    nilV r9.outs (consV r9.vals fun v11 vs11 =>
    nilV vs11 (bif inR 0 a0_1.length then
    (run 45 [.blob ((nth a0_1 0).toBlob)]).bind fun r10 =>
    nilV r10.outs (consV r10.vals fun v12 vs12 =>
    nilV vs12 (bif eqS v11.toStr v12.toStr then
    (run 38 []).bind fun r11 =>
    nilV r11.outs (consV r11.vals fun v13 vs13 =>
    nilV vs13 (some ⟨[.bool v13.toBool], [], f8_fresh⟩))
  else
    some ⟨[.bool false], [], f8_fresh⟩))
  else none))
  else none
  else
    some ⟨[.bool false], [], f8_fresh⟩
  else
    some ⟨[.bool false], [], f8_fresh⟩))
  else
    some ⟨[.bool false], [], f8_fresh⟩))))))))
  else none)) := by kernel_rfl
theorem f8_run (ext : Run) (n : Nat) (a0_1 : List AV) (a1_1 : Int) : runE G ext (n + 1) 8 [.slice a0_1, .int a1_1] = f8 (runE G ext n) n a0_1 a1_1 := runE_succ f8_at f8_in

noncomputable def f9 (run : Run) (n : Nat) (a0_1 : List UInt8) (a1_1 : List UInt8) (a2_1 : Int) (a2_2 : Int) (a2_3 : List AV) : Option Res := evalK G run n f9_info.keep 0 f9_info.body (retE G f9_info) (f9_info.start [.blob a0_1, .blob a1_1, .agg [.int a2_1, .int a2_2, .slice a2_3]])
theorem f9_eq (run : Run) (n : Nat) (a0_1 : List UInt8) (a1_1 : List UInt8) (a2_1 : Int) (a2_2 : Int) (a2_3 : List AV) : f9 run n a0_1 a1_1 a2_1 a2_2 a2_3 =
  (run 46 [.blob a0_1, .blob a1_1, .agg [.int a2_1, .int a2_2, .slice a2_3]]).bind fun r1 =>
    nilV r1.outs (consV r1.vals fun v1 vs1 =>
    nilV vs1 ((run 47 [.blob a0_1, .blob a1_1, .agg [.int a2_1, .int a2_2, .slice a2_3]]).bind fun r2 =>
    nilV r2.outs (consV r2.vals fun v2 vs2 =>
    nilV vs2 (bif eqO v1.toBool v2.toBool then
    (run 38 []).bind fun r3 =>
    nilV r3.outs (consV r3.vals fun v3 vs3 =>
    nilV vs3 (some ⟨[.bool v3.toBool], [], f9_fresh⟩))
  else
    some ⟨[.bool false], [], f9_fresh⟩)))) := by kernel_rfl
theorem f9_run (ext : Run) (n : Nat) (a0_1 : List UInt8) (a1_1 : List UInt8) (a2_1 : Int) (a2_2 : Int) (a2_3 : List AV) : runE G ext (n + 1) 9 [.blob a0_1, .blob a1_1, .agg [.int a2_1, .int a2_2, .slice a2_3]] = f9 (runE G ext n) n a0_1 a1_1 a2_1 a2_2 a2_3 := runE_succ f9_at f9_in

noncomputable def f10 (run : Run) (n : Nat) (a0_1 : List AV) (a1_1 : Int) : Option Res := evalK G run n f10_info.keep 0 f10_info.body (retE G f10_info) (f10_info.start [.slice a0_1, .int a1_1])
theorem f10_eq (run : Run) (n : Nat) (a0_1 : List AV) (a1_1 : Int) : f10 run n a0_1 a1_1 =
  bif ltI 300 (a0_1.length : Int) then
    (run 38 []).bind fun r1 =>
    nilV r1.outs (consV r1.vals fun v1 vs1 =>
    nilV vs1 (some ⟨[.bool v1.toBool], [], f10_fresh⟩))
  else
    bif ltI a1_1 0 then
    (run 38 []).bind fun r2 =>
    nilV r2.outs (consV r2.vals fun v2 vs2 =>
    nilV vs2 (some ⟨[.bool v2.toBool], [], f10_fresh⟩))
  else
    bif leI (a0_1.length : Int) a1_1 then
    (run 38 []).bind fun r3 =>
    nilV r3.outs (consV r3.vals fun v3 vs3 =>
    nilV vs3 (some ⟨[.bool v3.toBool], [], f10_fresh⟩))
  else
    (run 39 [.slice a0_1, .int a1_1]).bind fun r4 =>
    nilV r4.outs (consV r4.vals fun v4 vs4 =>
    consV vs4 fun v5 vs5 =>
    nilV vs5 (bif eqI v5.toInt 0 then
    (run 41 [.slice a0_1]).bind fun r5 =>
    nilV r5.outs (consV r5.vals fun v6 vs6 =>
    nilV vs6 (bif inR a1_1 a0_1.length then
    (run 46 [.blob v6.toBlob, .blob ((nth a0_1 (Int.toNat a1_1)).toBlob), .agg [.int ((v4.fld 0).toInt), .int ((v4.fld 1).toInt), .slice ((v4.fld 2).toSlice)]]).bind fun r6 =>
    nilV r6.outs (consV r6.vals fun v7 vs7 =>
    nilV vs7 (bif eqO v7.toBool (leI (a0_1.length : Int) 257) then
    (run 38 []).bind fun r7 =>
    nilV r7.outs (consV r7.vals fun v8 vs8 =>
    nilV vs8 (some ⟨[.bool v8.toBool], [], f10_fresh⟩))
  else
    some ⟨[.bool false], [], f10_fresh⟩))
  else none))
  else
    some ⟨[.bool false], [], f10_fresh⟩)) := by kernel_rfl
theorem f10_run (ext : Run) (n : Nat) (a0_1 : List AV) (a1_1 : Int) : runE G ext (n + 1) 10 [.slice a0_1, .int a1_1] = f10 (runE G ext n) n a0_1 a1_1 := runE_succ f10_at f10_in

noncomputable def f11 (run : Run) (n : Nat) (a0_1 : Int) (a0_2 : List UInt8) (a0_3 : List UInt8) (a0_4 : Int) (a0_5 : Int) (a0_6 : Int) (a0_7 : List AV) (a1_1 : Int) (a1_2 : Int) (a1_3 : List AV) (a2_1 : List AV) : Option Res := evalK G run n f11_info.keep 0 f11_info.body (retE G f11_info) (f11_info.start [.agg [.agg [.int a0_1, .blob a0_2, .blob a0_3, .int a0_4], .agg [.int a0_5, .int a0_6, .slice a0_7]], .agg [.int a1_1, .int a1_2, .slice a1_3], .agg a2_1])
theorem f11_eq (run : Run) (n : Nat) (a0_1 : Int) (a0_2 : List UInt8) (a0_3 : List UInt8) (a0_4 : Int) (a0_5 : Int) (a0_6 : Int) (a0_7 : List AV) (a1_1 : Int) (a1_2 : Int) (a1_3 : List AV) (a2_1 : List AV) : f11 run n a0_1 a0_2 a0_3 a0_4 a0_5 a0_6 a0_7 a1_1 a1_2 a1_3 a2_1 =
  bif ltI 100 (a0_7.length : Int) then
    (run 24 []).bind fun r1 =>
    nilV r1.outs (consV r1.vals fun v1 vs1 =>
    nilV vs1 (some ⟨[.bool v1.toBool], [], f11_fresh⟩))
  else
    bif ltI 100 (a1_3.length : Int) then
    (run 24 []).bind fun r2 =>
    nilV r2.outs (consV r2.vals fun v2 vs2 =>
    nilV vs2 (some ⟨[.bool v2.toBool], [], f11_fresh⟩))
  else
    bif eqS ((AV.fld (.agg a2_1) 0).toBlob) ((AV.fld (.agg a2_1) 1).toBlob) then
    (run 24 []).bind fun r3 =>
    nilV r3.outs (consV r3.vals fun v3 vs3 =>
    nilV vs3 (some ⟨[.bool v3.toBool], [], f11_fresh⟩))
  else
    (run 46 [.blob a0_2, .blob ((AV.fld (.agg a2_1) 0).toBlob), .agg [.int a0_5, .int a0_6, .slice a0_7]]).bind fun r4 =>
    nilV r4.outs (consV r4.vals fun v4 vs4 =>
    nilV vs4 (bif !v4.toBool then
    (run 24 []).bind fun r5 =>
    nilV r5.outs (consV r5.vals fun v5 vs5 =>
    nilV vs5 (some ⟨[.bool v5.toBool], [], f11_fresh⟩))
  else
    (run 46 [.blob a0_2, .blob ((AV.fld (.agg a2_1) 1).toBlob), .agg [.int a0_5, .int a1_2, .slice a1_3]]).bind fun r6 =>
    nilV r6.outs (consV r6.vals fun v6 vs6 =>
    nilV vs6 (bif !v6.toBool then
    (run 24 []).bind fun r7 =>
    nilV r7.outs (consV r7.vals fun v7 vs7 =>
    nilV vs7 (some ⟨[.bool v7.toBool], [], f11_fresh⟩))
  else
    (run 44 [.blob ((AV.fld (.agg a2_1) 0).toBlob)]).bind fun r8 =>
    nilV r8.outs (consV r8.vals fun v8 vs8 =>
    nilV vs8 ((run 44 [.blob ((AV.fld (.agg a2_1) 1).toBlob)]).bind fun r9 =>
    nilV r9.outs (consV r9.vals fun v9 vs9 =>
    nilV vs9 ((run 16 [.blob a0_2, .agg [.str v8.toStr, .agg [.int a0_5, .int a0_6, .slice a0_7]], .agg [.str v9.toStr, .agg [.int a0_5, .int a1_2, .slice a1_3]]]).bind fun r10 =>
    nilV r10.outs (consV r10.vals fun v10 vs10 =>
    consV vs10 fun v11 vs11 =>
    consV vs11 fun v12 vs12 =>
    nilV vs12 (bif v12.toBool then
    (run 18 [.str v10.toStr, .str v11.toStr]).bind fun r11 =>
    nilV r11.outs (consV r11.vals fun v13 vs13 =>
    nilV vs13 (bif v13.toBool then
    (run 24 []).bind fun r12 =>
    nilV r12.outs (consV r12.vals fun v14 vs14 =>
    nilV vs14 (some ⟨[.bool v14.toBool], [], f11_fresh⟩))
  else
    some ⟨[.bool false], [], f11_fresh⟩))
  else
    some ⟨[.bool false], [], f11_fresh⟩)))))))))) := by kernel_rfl
theorem f11_run (ext : Run) (n : Nat) (a0_1 : Int) (a0_2 : List UInt8) (a0_3 : List UInt8) (a0_4 : Int) (a0_5 : Int) (a0_6 : Int) (a0_7 : List AV) (a1_1 : Int) (a1_2 : Int) (a1_3 : List AV) (a2_1 : List AV) : runE G ext (n + 1) 11 [.agg [.agg [.int a0_1, .blob a0_2, .blob a0_3, .int a0_4], .agg [.int a0_5, .int a0_6, .slice a0_7]], .agg [.int a1_1, .int a1_2, .slice a1_3], .agg a2_1] = f11 (runE G ext n) n a0_1 a0_2 a0_3 a0_4 a0_5 a0_6 a0_7 a1_1 a1_2 a1_3 a2_1 := runE_succ f11_at f11_in

noncomputable def f48_l0 (run : Run) (n : Nat) (k0 : Nat) (x0_1 : List AV) (x3_1 : Int) (x4_1 : Int) : Option Res :=
  iterK (evalK G run n f48_keep 0 (sub [1, 1, 0, 1, 0, 0] f48_body)) f48_t0 f48_o0 (blockK 0 (seqK (evalK G run n f48_keep 0 (sub [1, 1, 1] f48_body) (retE G f48_info)) (retE G f48_info))) k0
    ⟨[.val (.slice .str) none (.slice x0_1), .any, .any, .val (.int .i64) none (.int x3_1), .val (.int .i64) none (.int x4_1), .any, .any, .any, .any, .any, .any, .any, .any, .any, .any, .any, .any, .any, .any, .any, .any, .any, .any, .any, .any, .any, .any, .any, .any, .any, .any, .any, .any, .any, .any, .any, .any, .any, .any, .any, .any], [⟨0, none⟩, ⟨0, none⟩, ⟨0, none⟩, ⟨0, none⟩, ⟨0, none⟩, ⟨0, none⟩, ⟨0, none⟩, ⟨0, none⟩, ⟨0, none⟩, ⟨0, none⟩, ⟨0, none⟩, ⟨0, none⟩, ⟨0, none⟩, ⟨0, none⟩, ⟨0, none⟩, ⟨0, none⟩, ⟨0, none⟩, ⟨0, none⟩, ⟨0, none⟩, ⟨0, none⟩, ⟨0, none⟩, ⟨0, none⟩, ⟨0, none⟩, ⟨0, none⟩, ⟨0, none⟩, ⟨0, none⟩, ⟨0, none⟩, ⟨0, none⟩, ⟨0, none⟩, ⟨0, none⟩, ⟨0, none⟩, ⟨0, none⟩, ⟨0, none⟩, ⟨0, none⟩, ⟨0, none⟩, ⟨0, none⟩, ⟨0, none⟩, ⟨0, none⟩, ⟨0, none⟩, ⟨0, none⟩, ⟨0, none⟩], List.replicate 41 0⟩
theorem f48_l0_eq (run : Run) (n : Nat) (k0 : Nat) (x0_1 : List AV) (x3_1 : Int) (x4_1 : Int) : f48_l0 run n (k0 + 1) x0_1 x3_1 x4_1 =
  bif ltI x4_1 (x0_1.length : Int) then
    bif ltI x4_1 1100 then
    bif inR x4_1 x0_1.length then
    f48_l0 run n k0 x0_1 (mn2 (IntKind.wrap .i64 (IntKind.wrap .i64 (x3_1 + 1) + (((nth x0_1 (Int.toNat x4_1)).toStr).length : Int))) 1048576) (IntKind.wrap .i64 (x4_1 + 1))
  else none
  else
    bif ltI 60 (x0_1.length : Int) then
    bif leI (x0_1.length : Int) 1024 then
    some ⟨[.bool true], [], f48_fresh⟩
  else
    bif ltI 1050 (x0_1.length : Int) then
    some ⟨[.bool true], [], f48_fresh⟩
  else
    some ⟨[.bool (ltI 6000 x3_1)], [], f48_fresh⟩
  else
    bif ltI 1050 (x0_1.length : Int) then
    some ⟨[.bool true], [], f48_fresh⟩
  else
    some ⟨[.bool (ltI 6000 x3_1)], [], f48_fresh⟩
  else
    bif ltI 60 (x0_1.length : Int) then
    bif leI (x0_1.length : Int) 1024 then
    some ⟨[.bool true], [], f48_fresh⟩
  else
    bif ltI 1050 (x0_1.length : Int) then
    some ⟨[.bool true], [], f48_fresh⟩
  else
    some ⟨[.bool (ltI 6000 x3_1)], [], f48_fresh⟩
  else
    bif ltI 1050 (x0_1.length : Int) then
    some ⟨[.bool true], [], f48_fresh⟩
  else
    some ⟨[.bool (ltI 6000 x3_1)], [], f48_fresh⟩ := by kernel_rfl
noncomputable def f48 (run : Run) (n : Nat) (a0_1 : List AV) : Option Res := evalK G run n f48_info.keep 0 f48_info.body (retE G f48_info) (f48_info.start [.slice a0_1])
theorem f48_eq (run : Run) (n : Nat) (a0_1 : List AV) : f48 run n a0_1 =
  f48_l0 run n n a0_1 0 0 := by kernel_rfl
theorem f48_run (ext : Run) (n : Nat) (a0_1 : List AV) : runE G ext (n + 1) 48 [.slice a0_1] = f48 (runE G ext n) n a0_1 := runE_succ f48_at f48_in

noncomputable def f52_l0 (run : Run) (n : Nat) (k0 : Nat) (x8_1 : List AV) (x9_1 : Int) (x10_1 : Int) : Option Res :=
  iterK (evalK G run n f52_keep 0 (sub [1, 1, 0, 1, 0, 0] f52_body)) f52_t0 f52_o0 (blockK 0 (seqK (evalK G run n f52_keep 0 (sub [1, 1, 1] f52_body) (retE G f52_info)) (retE G f52_info))) k0
    ⟨[.any, .any, .any, .any, .any, .any, .any, .any, .val (.slice .str) none (.slice x8_1), .val (.int .i64) none (.int x9_1), .val (.int .i64) none (.int x10_1), .any, .any, .any, .any, .any, .any, .any], [⟨0, none⟩, ⟨0, none⟩, ⟨0, none⟩, ⟨0, none⟩, ⟨0, none⟩, ⟨0, none⟩, ⟨0, none⟩, ⟨0, none⟩, ⟨0, none⟩, ⟨0, none⟩, ⟨0, none⟩, ⟨0, none⟩, ⟨0, none⟩, ⟨0, none⟩, ⟨0, none⟩, ⟨0, none⟩, ⟨0, none⟩, ⟨0, none⟩], List.replicate 18 0⟩
theorem f52_l0_eq (run : Run) (n : Nat) (k0 : Nat) (x8_1 : List AV) (x9_1 : Int) (x10_1 : Int) : f52_l0 run n (k0 + 1) x8_1 x9_1 x10_1 =
  bif ltI x10_1 x9_1 then
    bif inR x10_1 x8_1.length then
    bif ltI 4096 (((nth x8_1 (Int.toNat x10_1)).toStr).length : Int) then
    some ⟨[.int 4], [], f52_fresh⟩
  else
    f52_l0 run n k0 x8_1 x9_1 (IntKind.wrap .i64 (x10_1 + 1))
  else none
  else
    some ⟨[.int 0], [], f52_fresh⟩ := by kernel_rfl
noncomputable def f52 (run : Run) (n : Nat) (a0_1 : List AV) : Option Res := evalK G run n f52_info.keep 0 f52_info.body (retE G f52_info) (f52_info.start [.slice a0_1])
theorem f52_eq (run : Run) (n : Nat) (a0_1 : List AV) : f52 run n a0_1 =
  bif ltI 1024 (a0_1.length : Int) then
    some ⟨[.int 4], [], f52_fresh⟩
  else
    f52_l0 run n n a0_1 (a0_1.length : Int) 0 := by kernel_rfl
theorem f52_run (ext : Run) (n : Nat) (a0_1 : List AV) : runE G ext (n + 1) 52 [.slice a0_1] = f52 (runE G ext n) n a0_1 := runE_succ f52_at f52_in

noncomputable def f58 (run : Run) (n : Nat) (a0_1 : List UInt8) : Option Res := evalK G run n f58_info.keep 0 f58_info.body (retE G f58_info) (f58_info.start [.str a0_1])
theorem f58_eq (run : Run) (n : Nat) (a0_1 : List UInt8) : f58 run n a0_1 =
  bif Nat.ble (1 + a0_1.length) maxLen then
    some ⟨[.str ([84] ++ a0_1)], [], f58_fresh⟩
  else none := by kernel_rfl
theorem f58_run (ext : Run) (n : Nat) (a0_1 : List UInt8) : runE G ext (n + 1) 58 [.str a0_1] = f58 (runE G ext n) n a0_1 := runE_succ f58_at f58_in

noncomputable def f80_l0 (run : Run) (n : Nat) (k0 : Nat) (x3_1 : List AV) (x6_1 : List AV) (x7_1 : Int) (x8_1 : Int) : Option Res :=
  iterK (evalK G run n f80_keep 0 (sub [1, 1, 0, 1, 0, 0] f80_body)) f80_t0 f80_o0 (blockK 0 (seqK (evalK G run n f80_keep 0 (sub [1, 1, 1] f80_body) (retE G f80_info)) (retE G f80_info))) k0
    ⟨[.any, .any, .any, .val (.slice .str) (some (3, 0)) (.slice x3_1), .any, .any, .val (.slice .str) none (.slice x6_1), .val (.int .i64) none (.int x7_1), .val (.int .i64) none (.int x8_1), .any, .any, .any, .any, .any, .any, .any, .any, .any, .any], [⟨0, none⟩, ⟨0, none⟩, ⟨0, none⟩, ⟨0, none⟩, ⟨0, none⟩, ⟨0, none⟩, ⟨0, none⟩, ⟨0, none⟩, ⟨0, none⟩, ⟨0, none⟩, ⟨0, none⟩, ⟨0, none⟩, ⟨0, none⟩, ⟨0, none⟩, ⟨0, none⟩, ⟨0, none⟩, ⟨0, none⟩, ⟨0, none⟩, ⟨0, none⟩], List.replicate 19 0⟩
theorem f80_l0_eq (run : Run) (n : Nat) (k0 : Nat) (x3_1 : List AV) (x6_1 : List AV) (x7_1 : Int) (x8_1 : Int) : f80_l0 run n (k0 + 1) x3_1 x6_1 x7_1 x8_1 =
  bif ltI x8_1 x7_1 then
    bif inR x8_1 x6_1.length then
    (run 58 [.str ((nth x6_1 (Int.toNat x8_1)).toStr)]).bind fun r1 =>
    nilV r1.outs (consV r1.vals fun v1 vs1 =>
    nilV vs1 (bif Nat.ble ((x3_1.length + 1) * 16) 140737488355328 then
    f80_l0 run n k0 (x3_1 ++ [.str v1.toStr]) x6_1 x7_1 (IntKind.wrap .i64 (x8_1 + 1))
  else none))
  else none
  else
    some ⟨[.slice x3_1], [], f80_fresh⟩ := by kernel_rfl
noncomputable def f80 (run : Run) (n : Nat) (a0_1 : List AV) : Option Res := evalK G run n f80_info.keep 0 f80_info.body (retE G f80_info) (f80_info.start [.slice a0_1])
theorem f80_eq (run : Run) (n : Nat) (a0_1 : List AV) : f80 run n a0_1 =
  f80_l0 run n n [] a0_1 (a0_1.length : Int) 0 := by kernel_rfl
theorem f80_run (ext : Run) (n : Nat) (a0_1 : List AV) : runE G ext (n + 1) 80 [.slice a0_1] = f80 (runE G ext n) n a0_1 := runE_succ f80_at f80_in

noncomputable def f50 (run : Run) (n : Nat) (a0_1 : List AV) (a1_1 : Int) : Option Res := evalK G run n f50_info.keep 0 f50_info.body (retE G f50_info) (f50_info.start [.slice a0_1, .int a1_1])
theorem f50_eq (run : Run) (n : Nat) (a0_1 : List AV) (a1_1 : Int) : f50 run n a0_1 a1_1 =
  (run 52 [.slice a0_1]).bind fun r1 =>
    nilV r1.outs (consV r1.vals fun v1 vs1 =>
    nilV vs1 (bif !(eqI v1.toInt 0) then
    some ⟨[.agg [.int 0, .int 0, .slice []], .int v1.toInt], [], f50_fresh⟩
  else
    (run 80 [.slice a0_1]).bind fun r2 =>
    bif r2.fresh then
    nilV r2.outs (consV r2.vals fun v2 vs2 =>
    nilV vs2 ((run 31 [.slice v2.toSlice, .int a1_1]).bind fun r3 =>
    nilV r3.outs (consV r3.vals fun v3 vs3 =>
    consV vs3 fun v4 vs4 =>
    nilV vs4 (some ⟨[.agg [.int ((v3.fld 0).toInt), .int ((v3.fld 1).toInt), .slice ((v3.fld 2).toSlice)], .int v4.toInt], [], f50_fresh⟩))))
  else none)) := by kernel_rfl
theorem f50_run (ext : Run) (n : Nat) (a0_1 : List AV) (a1_1 : Int) : runE G ext (n + 1) 50 [.slice a0_1, .int a1_1] = f50 (runE G ext n) n a0_1 a1_1 := runE_succ f50_at f50_in

noncomputable def f54 (run : Run) (n : Nat) (a0_1 : List AV) : Option Res := evalK G run n f54_info.keep 0 f54_info.body (retE G f54_info) (f54_info.start [.slice a0_1])
theorem f54_eq (run : Run) (n : Nat) (a0_1 : List AV) : f54 run n a0_1 =
  (run 80 [.slice a0_1]).bind fun r1 =>
    bif r1.fresh then
    nilV r1.outs (consV r1.vals fun v1 vs1 =>
    nilV vs1 ((run 35 [.slice v1.toSlice]).bind fun r2 =>
    nilV r2.outs (consV r2.vals fun v2 vs2 =>
    nilV vs2 (some ⟨[.blob v2.toBlob], [], f54_fresh⟩))))
  else none := by kernel_rfl
theorem f54_run (ext : Run) (n : Nat) (a0_1 : List AV) : runE G ext (n + 1) 54 [.slice a0_1] = f54 (runE G ext n) n a0_1 := runE_succ f54_at f54_in

noncomputable def f56 (run : Run) (n : Nat) (a0_1 : List UInt8) (a1_1 : List UInt8) (a2_1 : Int) (a2_2 : Int) (a2_3 : List AV) : Option Res := evalK G run n f56_info.keep 0 f56_info.body (retE G f56_info) (f56_info.start [.blob a0_1, .str a1_1, .agg [.int a2_1, .int a2_2, .slice a2_3]])
theorem f56_eq (run : Run) (n : Nat) (a0_1 : List UInt8) (a1_1 : List UInt8) (a2_1 : Int) (a2_2 : Int) (a2_3 : List AV) : f56 run n a0_1 a1_1 a2_1 a2_2 a2_3 =
  bif leI a2_2 1024 then
    bif leI (a1_1.length : Int) 4096 then
    (run 58 [.str a1_1]).bind fun r1 =>
    nilV r1.outs (consV r1.vals fun v1 vs1 =>
    nilV vs1 ((run 34 [.blob a0_1, .str v1.toStr, .agg [.int a2_1, .int a2_2, .slice a2_3]]).bind fun r2 =>
    nilV r2.outs (consV r2.vals fun v2 vs2 =>
    nilV vs2 (some ⟨[.bool v2.toBool], [], f56_fresh⟩))))
  else
    some ⟨[.bool false], [], f56_fresh⟩
  else
    some ⟨[.bool false], [], f56_fresh⟩ := by kernel_rfl
theorem f56_run (ext : Run) (n : Nat) (a0_1 : List UInt8) (a1_1 : List UInt8) (a2_1 : Int) (a2_2 : Int) (a2_3 : List AV) : runE G ext (n + 1) 56 [.blob a0_1, .str a1_1, .agg [.int a2_1, .int a2_2, .slice a2_3]] = f56 (runE G ext n) n a0_1 a1_1 a2_1 a2_2 a2_3 := runE_succ f56_at f56_in

noncomputable def f49 (run : Run) (n : Nat) : Option Res := evalK G run n f49_info.keep 0 f49_info.body (retE G f49_info) (f49_info.start [])
theorem f49_eq (run : Run) (n : Nat) : f49 run n  =
  (run 50 [.slice [.str [97], .str [98]], .int 1]).bind fun r1 =>
    nilV r1.outs (consV r1.vals fun v1 vs1 =>
    consV vs1 fun v2 vs2 =>
    nilV vs2 ((run 54 [.slice []]).bind fun r2 =>
    nilV r2.outs (consV r2.vals fun v3 vs3 =>
    nilV vs3 ((run 41 [.slice []]).bind fun r3 =>
    nilV r3.outs (consV r3.vals fun v4 vs4 =>
    nilV vs4 (bif eqS v3.toBlob v4.toBlob then
    bif eqI v2.toInt 0 then
    (run 54 [.slice [.str [97], .str [98]]]).bind fun r4 =>
    nilV r4.outs (consV r4.vals fun v5 vs5 =>
    nilV vs5 ((run 56 [.blob v5.toBlob, .str [98], .agg [.int ((v1.fld 0).toInt), .int ((v1.fld 1).toInt), .slice ((v1.fld 2).toSlice)]]).bind fun r5 =>
    nilV r5.outs (consV r5.vals fun v6 vs6 =>
    nilV vs6 (bif v6.toBool then
    (run 58 [.str [97]]).bind fun r6 =>
    nilV r6.outs (consV r6.vals fun v7 vs7 =>
    nilV vs7 (some ⟨[.bool (eqS v7.toStr [84, 97])], [], f49_fresh⟩))
  else
    some ⟨[.bool false], [], f49_fresh⟩))))
  else
    some ⟨[.bool false], [], f49_fresh⟩
  else
    some ⟨[.bool false], [], f49_fresh⟩)))))) := by kernel_rfl
theorem f49_run (ext : Run) (n : Nat) : runE G ext (n + 1) 49 [] = f49 (runE G ext n) n  := runE_succ f49_at f49_in

noncomputable def f53_l0 (run : Run) (n : Nat) (k0 : Nat) (x0_1 : List AV) (x3_1 : Int) : Option Res :=
  iterK (evalK G run n f53_keep 0 (sub [1, 1, 0, 1, 0, 0] f53_body)) f53_t0 f53_o0 (blockK 0 (seqK (evalK G run n f53_keep 0 (sub [1, 1, 1] f53_body) (retE G f53_info)) (retE G f53_info))) k0
    ⟨[.val (.slice .str) none (.slice x0_1), .any, .any, .val (.int .i64) none (.int x3_1), .any, .any, .any, .any, .any, .any, .any, .any, .any, .any, .any, .any, .any, .any, .any], [⟨0, none⟩, ⟨0, none⟩, ⟨0, none⟩, ⟨0, none⟩, ⟨0, none⟩, ⟨0, none⟩, ⟨0, none⟩, ⟨0, none⟩, ⟨0, none⟩, ⟨0, none⟩, ⟨0, none⟩, ⟨0, none⟩, ⟨0, none⟩, ⟨0, none⟩, ⟨0, none⟩, ⟨0, none⟩, ⟨0, none⟩, ⟨0, none⟩, ⟨0, none⟩], List.replicate 19 0⟩
theorem f53_l0_eq (run : Run) (n : Nat) (k0 : Nat) (x0_1 : List AV) (x3_1 : Int) : f53_l0 run n (k0 + 1) x0_1 x3_1 =
  bif ltI x3_1 (x0_1.length : Int) then
    bif inR x3_1 x0_1.length then
    bif ltI 4096 (((nth x0_1 (Int.toNat x3_1)).toStr).length : Int) then
    some ⟨[.int 4], [], f53_fresh⟩
  else
    f53_l0 run n k0 x0_1 (IntKind.wrap .i64 (x3_1 + 1))
  else none
  else
    some ⟨[.int 0], [], f53_fresh⟩ := by kernel_rfl
noncomputable def f53 (run : Run) (n : Nat) (a0_1 : List AV) : Option Res := evalK G run n f53_info.keep 0 f53_info.body (retE G f53_info) (f53_info.start [.slice a0_1])
theorem f53_eq (run : Run) (n : Nat) (a0_1 : List AV) : f53 run n a0_1 =
  bif ltI 1024 (a0_1.length : Int) then
    some ⟨[.int 4], [], f53_fresh⟩
  else
    f53_l0 run n n a0_1 0 := by kernel_rfl
theorem f53_run (ext : Run) (n : Nat) (a0_1 : List AV) : runE G ext (n + 1) 53 [.slice a0_1] = f53 (runE G ext n) n a0_1 := runE_succ f53_at f53_in

noncomputable def f81_l0 (run : Run) (n : Nat) (k0 : Nat) (x0_1 : List AV) (x3_1 : List AV) (x4_1 : Int) : Option Res :=
  iterK (evalK G run n f81_keep 0 (sub [1, 1, 0, 1, 0, 0] f81_body)) f81_t0 f81_o0 (blockK 0 (seqK (evalK G run n f81_keep 0 (sub [1, 1, 1] f81_body) (retE G f81_info)) (retE G f81_info))) k0
    ⟨[.val (.slice .str) none (.slice x0_1), .any, .any, .val (.slice .str) (some (3, 0)) (.slice x3_1), .val (.int .i64) none (.int x4_1), .any, .any, .any, .any, .any, .any, .any, .any, .any, .any, .any, .any, .any, .any, .any], [⟨0, none⟩, ⟨0, none⟩, ⟨0, none⟩, ⟨0, none⟩, ⟨0, none⟩, ⟨0, none⟩, ⟨0, none⟩, ⟨0, none⟩, ⟨0, none⟩, ⟨0, none⟩, ⟨0, none⟩, ⟨0, none⟩, ⟨0, none⟩, ⟨0, none⟩, ⟨0, none⟩, ⟨0, none⟩, ⟨0, none⟩, ⟨0, none⟩, ⟨0, none⟩, ⟨0, none⟩], List.replicate 20 0⟩
theorem f81_l0_eq (run : Run) (n : Nat) (k0 : Nat) (x0_1 : List AV) (x3_1 : List AV) (x4_1 : Int) : f81_l0 run n (k0 + 1) x0_1 x3_1 x4_1 =
  bif ltI x4_1 (x0_1.length : Int) then
    bif inR x4_1 x0_1.length then
    bif Nat.ble (1 + ((nth x0_1 (Int.toNat x4_1)).toStr).length) maxLen then
    bif Nat.ble ((x3_1.length + 1) * 16) 140737488355328 then
    f81_l0 run n k0 x0_1 (x3_1 ++ [.str ([84] ++ ((nth x0_1 (Int.toNat x4_1)).toStr))]) (IntKind.wrap .i64 (x4_1 + 1))
  else none
  else none
  else none
  else
    some ⟨[.slice x3_1], [], f81_fresh⟩ := by kernel_rfl
noncomputable def f81 (run : Run) (n : Nat) (a0_1 : List AV) : Option Res := evalK G run n f81_info.keep 0 f81_info.body (retE G f81_info) (f81_info.start [.slice a0_1])
theorem f81_eq (run : Run) (n : Nat) (a0_1 : List AV) : f81 run n a0_1 =
  f81_l0 run n n a0_1 [] 0 := by kernel_rfl
theorem f81_run (ext : Run) (n : Nat) (a0_1 : List AV) : runE G ext (n + 1) 81 [.slice a0_1] = f81 (runE G ext n) n a0_1 := runE_succ f81_at f81_in

noncomputable def f51 (run : Run) (n : Nat) (a0_1 : List AV) (a1_1 : Int) : Option Res := evalK G run n f51_info.keep 0 f51_info.body (retE G f51_info) (f51_info.start [.slice a0_1, .int a1_1])
theorem f51_eq (run : Run) (n : Nat) (a0_1 : List AV) (a1_1 : Int) : f51 run n a0_1 a1_1 =
  (run 53 [.slice a0_1]).bind fun r1 =>
    nilV r1.outs (consV r1.vals fun v1 vs1 =>
    nilV vs1 (bif !(eqI v1.toInt 0) then
    some ⟨[.agg [.int 0, .int 0, .slice []], .int v1.toInt], [], f51_fresh⟩
  else
    (run 81 [.slice a0_1]).bind fun r2 =>
    bif r2.fresh then
    nilV r2.outs (consV r2.vals fun v2 vs2 =>
    nilV vs2 ((run 20 [.slice v2.toSlice, .int a1_1]).bind fun r3 =>
    nilV r3.outs (consV r3.vals fun v3 vs3 =>
    consV vs3 fun v4 vs4 =>
    nilV vs4 (some ⟨[.agg [.int ((v3.fld 0).toInt), .int ((v3.fld 1).toInt), .slice ((v3.fld 2).toSlice)], .int v4.toInt], [], f51_fresh⟩))))
  else none)) := by kernel_rfl
theorem f51_run (ext : Run) (n : Nat) (a0_1 : List AV) (a1_1 : Int) : runE G ext (n + 1) 51 [.slice a0_1, .int a1_1] = f51 (runE G ext n) n a0_1 a1_1 := runE_succ f51_at f51_in

noncomputable def f55 (run : Run) (n : Nat) (a0_1 : List AV) : Option Res := evalK G run n f55_info.keep 0 f55_info.body (retE G f55_info) (f55_info.start [.slice a0_1])
theorem f55_eq (run : Run) (n : Nat) (a0_1 : List AV) : f55 run n a0_1 =
  (run 81 [.slice a0_1]).bind fun r1 =>
    bif r1.fresh then
    nilV r1.outs (consV r1.vals fun v1 vs1 =>
    nilV vs1 ((run 21 [.slice v1.toSlice]).bind fun r2 =>
    nilV r2.outs (consV r2.vals fun v2 vs2 =>
    nilV vs2 (some ⟨[.blob v2.toBlob], [], f55_fresh⟩))))
  else none := by kernel_rfl
theorem f55_run (ext : Run) (n : Nat) (a0_1 : List AV) : runE G ext (n + 1) 55 [.slice a0_1] = f55 (runE G ext n) n a0_1 := runE_succ f55_at f55_in

noncomputable def f12 (run : Run) (n : Nat) (a0_1 : List AV) (a1_1 : Int) : Option Res := evalK G run n f12_info.keep 0 f12_info.body (retE G f12_info) (f12_info.start [.slice a0_1, .int a1_1])
theorem f12_eq (run : Run) (n : Nat) (a0_1 : List AV) (a1_1 : Int) : f12 run n a0_1 a1_1 =
  (run 48 [.slice a0_1]).bind fun r1 =>
    nilV r1.outs (consV r1.vals fun v1 vs1 =>
    nilV vs1 (bif v1.toBool then
    (run 49 []).bind fun r2 =>
    nilV r2.outs (consV r2.vals fun v2 vs2 =>
    nilV vs2 (some ⟨[.bool v2.toBool], [], f12_fresh⟩))
  else
    (run 50 [.slice a0_1, .int a1_1]).bind fun r3 =>
    nilV r3.outs (consV r3.vals fun v3 vs3 =>
    consV vs3 fun v4 vs4 =>
    nilV vs4 ((run 51 [.slice a0_1, .int a1_1]).bind fun r4 =>
    nilV r4.outs (consV r4.vals fun v5 vs5 =>
    consV vs5 fun v6 vs6 =>
    nilV vs6 ((run 52 [.slice a0_1]).bind fun r5 =>
    nilV r5.outs (consV r5.vals fun v7 vs7 =>
    nilV vs7 ((run 53 [.slice a0_1]).bind fun r6 =>
    nilV r6.outs (consV r6.vals fun v8 vs8 =>
    nilV vs8 (bif eqI v7.toInt v8.toInt then
    (run 43 [.agg [.int ((v3.fld 0).toInt), .int ((v3.fld 1).toInt), .slice ((v3.fld 2).toSlice)], .agg [.int ((v5.fld 0).toInt), .int ((v5.fld 1).toInt), .slice ((v5.fld 2).toSlice)]]).bind fun r7 =>
    nilV r7.outs (consV r7.vals fun v9 vs9 =>
    nilV vs9 (bif v9.toBool then
    bif eqI v4.toInt v6.toInt then
    bif ltI 60 (a0_1.length : Int) then
    (run 49 []).bind fun r8 =>
    nilV r8.outs (consV r8.vals fun v10 vs10 =>
    nilV vs10 (some ⟨[.bool v10.toBool], [], f12_fresh⟩))
  else
    (run 54 [.slice a0_1]).bind fun r9 =>
    nilV r9.outs (consV r9.vals fun v11 vs11 =>
    nilV vs11 ((run 55 [.slice a0_1]).bind fun r10 =>
    nilV r10.outs (consV r10.vals fun v12 vs12 =>
    nilV vs12 (bif eqS v11.toBlob v12.toBlob then
    (run 49 []).bind fun r11 =>
    nilV r11.outs (consV r11.vals fun v13 vs13 =>
    nilV vs13 (some ⟨[.bool v13.toBool], [], f12_fresh⟩))
  else
    some ⟨[.bool false], [], f12_fresh⟩))))
  else
    some ⟨[.bool false], [], f12_fresh⟩
  else
    some ⟨[.bool false], [], f12_fresh⟩))
  else
    some ⟨[.bool false], [], f12_fresh⟩)))))))))) := by kernel_rfl
theorem f12_run (ext : Run) (n : Nat) (a0_1 : List AV) (a1_1 : Int) : runE G ext (n + 1) 12 [.slice a0_1, .int a1_1] = f12 (runE G ext n) n a0_1 a1_1 := runE_succ f12_at f12_in

noncomputable def f57 (run : Run) (n : Nat) (a0_1 : List UInt8) (a1_1 : List UInt8) (a2_1 : Int) (a2_2 : Int) (a2_3 : List AV) : Option Res := evalK G run n f57_info.keep 0 f57_info.body (retE G f57_info) (f57_info.start [.blob a0_1, .str a1_1, .agg [.int a2_1, .int a2_2, .slice a2_3]])
theorem f57_eq (run : Run) (n : Nat) (a0_1 : List UInt8) (a1_1 : List UInt8) (a2_1 : Int) (a2_2 : Int) (a2_3 : List AV) : f57 run n a0_1 a1_1 a2_1 a2_2 a2_3 =
  bif leI a2_2 1024 then
    bif leI (a1_1.length : Int) 4096 then
    bif Nat.ble (1 + a1_1.length) maxLen then
    (run 17 [.blob a0_1, .str ([84] ++ a1_1), .agg [.int a2_1, .int a2_2, .slice a2_3]]).bind fun r1 =>
    nilV r1.outs (consV r1.vals fun v1 vs1 =>
    nilV vs1 (some ⟨[.bool v1.toBool], [], f57_fresh⟩))
  else none
  else
    some ⟨[.bool false], [], f57_fresh⟩
  else
    some ⟨[.bool false], [], f57_fresh⟩ := by kernel_rfl
theorem f57_run (ext : Run) (n : Nat) (a0_1 : List UInt8) (a1_1 : List UInt8) (a2_1 : Int) (a2_2 : Int) (a2_3 : List AV) : runE G ext (n + 1) 57 [.blob a0_1, .str a1_1, .agg [.int a2_1, .int a2_2, .slice a2_3]] = f57 (runE G ext n) n a0_1 a1_1 a2_1 a2_2 a2_3 := runE_succ f57_at f57_in

noncomputable def f13 (run : Run) (n : Nat) (a0_1 : List UInt8) (a1_1 : List UInt8) (a2_1 : Int) (a2_2 : Int) (a2_3 : List AV) : Option Res := evalK G run n f13_info.keep 0 f13_info.body (retE G f13_info) (f13_info.start [.blob a0_1, .str a1_1, .agg [.int a2_1, .int a2_2, .slice a2_3]])
theorem f13_eq (run : Run) (n : Nat) (a0_1 : List UInt8) (a1_1 : List UInt8) (a2_1 : Int) (a2_2 : Int) (a2_3 : List AV) : f13 run n a0_1 a1_1 a2_1 a2_2 a2_3 =
  bif ltI 5000 (a1_1.length : Int) then
    (run 49 []).bind fun r1 =>
    nilV r1.outs (consV r1.vals fun v1 vs1 =>
    nilV vs1 (some ⟨[.bool v1.toBool], [], f13_fresh⟩))
  else
    (run 56 [.blob a0_1, .str a1_1, .agg [.int a2_1, .int a2_2, .slice a2_3]]).bind fun r2 =>
    nilV r2.outs (consV r2.vals fun v2 vs2 =>
    nilV vs2 ((run 57 [.blob a0_1, .str a1_1, .agg [.int a2_1, .int a2_2, .slice a2_3]]).bind fun r3 =>
    nilV r3.outs (consV r3.vals fun v3 vs3 =>
    nilV vs3 (bif eqO v2.toBool v3.toBool then
    (run 49 []).bind fun r4 =>
    nilV r4.outs (consV r4.vals fun v4 vs4 =>
    nilV vs4 (some ⟨[.bool v4.toBool], [], f13_fresh⟩))
  else
    some ⟨[.bool false], [], f13_fresh⟩)))) := by kernel_rfl
theorem f13_run (ext : Run) (n : Nat) (a0_1 : List UInt8) (a1_1 : List UInt8) (a2_1 : Int) (a2_2 : Int) (a2_3 : List AV) : runE G ext (n + 1) 13 [.blob a0_1, .str a1_1, .agg [.int a2_1, .int a2_2, .slice a2_3]] = f13 (runE G ext n) n a0_1 a1_1 a2_1 a2_2 a2_3 := runE_succ f13_at f13_in

noncomputable def f14 (run : Run) (n : Nat) (a0_1 : List AV) (a1_1 : Int) (a2_1 : List UInt8) : Option Res := evalK G run n f14_info.keep 0 f14_info.body (retE G f14_info) (f14_info.start [.slice a0_1, .int a1_1, .blob a2_1])
theorem f14_eq (run : Run) (n : Nat) (a0_1 : List AV) (a1_1 : Int) (a2_1 : List UInt8) : f14 run n a0_1 a1_1 a2_1 =
  (run 48 [.slice a0_1]).bind fun r1 =>
    nilV r1.outs (consV r1.vals fun v1 vs1 =>
    nilV vs1 (bif v1.toBool then
    (run 49 []).bind fun r2 =>
    nilV r2.outs (consV r2.vals fun v2 vs2 =>
    nilV vs2 (some ⟨[.bool v2.toBool], [], f14_fresh⟩))
  else
    bif ltI 60 (a0_1.length : Int) then
    (run 49 []).bind fun r3 =>
    nilV r3.outs (consV r3.vals fun v3 vs3 =>
    nilV vs3 (some ⟨[.bool v3.toBool], [], f14_fresh⟩))
  else
    bif ltI a1_1 0 then
    (run 49 []).bind fun r4 =>
    nilV r4.outs (consV r4.vals fun v4 vs4 =>
    nilV vs4 (some ⟨[.bool v4.toBool], [], f14_fresh⟩))
  else
    bif leI (a0_1.length : Int) a1_1 then
    (run 49 []).bind fun r5 =>
    nilV r5.outs (consV r5.vals fun v5 vs5 =>
    nilV vs5 (some ⟨[.bool v5.toBool], [], f14_fresh⟩))
  else
    (run 50 [.slice a0_1, .int a1_1]).bind fun r6 =>
    nilV r6.outs (consV r6.vals fun v6 vs6 =>
    consV vs6 fun v7 vs7 =>
    nilV vs7 (bif !(eqI v7.toInt 0) then
    (run 52 [.slice a0_1]).bind fun r7 =>
    nilV r7.outs (consV r7.vals fun v8 vs8 =>
    nilV vs8 (bif !(eqI v8.toInt 0) then
    (run 49 []).bind fun r8 =>
    nilV r8.outs (consV r8.vals fun v9 vs9 =>
    nilV vs9 (some ⟨[.bool v9.toBool], [], f14_fresh⟩))
  else
    some ⟨[.bool false], [], f14_fresh⟩))
  else
    bif inR a1_1 a0_1.length then
    (run 58 [.str ((nth a0_1 (Int.toNat a1_1)).toStr)]).bind fun r9 =>
    nilV r9.outs (consV r9.vals fun v10 vs10 =>
    nilV vs10 ((run 44 [.blob a2_1]).bind fun r10 =>
    nilV r10.outs (consV r10.vals fun v11 vs11 =>
    nilV vs11 (bif !(eqS v10.toStr v11.toStr) then
    (run 54 [.slice a0_1]).bind fun r11 =>
    nilV r11.outs (consV r11.vals fun v12 vs12 =>
    nilV vs12 (bif inR a1_1 a0_1.length then
    (run 56 [.blob v12.toBlob, .str ((nth a0_1 (Int.toNat a1_1)).toStr), .agg [.int ((v6.fld 0).toInt), .int ((v6.fld 1).toInt), .slice ((v6.fld 2).toSlice)]]).bind fun r12 =>
    nilV r12.outs (consV r12.vals fun v13 vs13 =>
    nilV vs13 (bif v13.toBool then
    (run 49 []).bind fun r13 =>
    nilV r13.outs (consV r13.vals fun v14 vs14 =>
    nilV vs14 (some ⟨[.bool v14.toBool], [], f14_fresh⟩))
  else
    some ⟨[.bool false], [], f14_fresh⟩))
  else none))
  else
    some ⟨[.bool false], [], f14_fresh⟩))))
  else none)))) := by kernel_rfl
theorem f14_run (ext : Run) (n : Nat) (a0_1 : List AV) (a1_1 : Int) (a2_1 : List UInt8) : runE G ext (n + 1) 14 [.slice a0_1, .int a1_1, .blob a2_1] = f14 (runE G ext n) n a0_1 a1_1 a2_1 := runE_succ f14_at f14_in

end Go.Proofs.Ytbpllpdmkhojoaa.Ev
