/- What the evaluator does with the functions, as programs over plain values: printed by gen.py, checked by the kernel. -/
import Derived.Test.YtcpdiahbdmcdcaaEvFA
namespace Go.Proofs.Ytcpdiahbdmcdcaa.Ev
open Go Go.RowKit
set_option maxRecDepth 100000


noncomputable def f81 (run : Run) (n : Nat) (a0_1 : Int) (a1_1 : List AV) : Option Res := evalK G run n f81_info.keep 0 f81_info.body (retE G f81_info) (f81_info.start [.int a0_1, .slice a1_1])
theorem f81_eq (run : Run) (n : Nat) (a0_1 : Int) (a1_1 : List AV) : f81 run n a0_1 a1_1 =
  bif eqI (a1_1.length : Int) 0 then
    some ⟨[.int 1], [], f81_fresh⟩
  else
    bif eqI a0_1 1 then
    some ⟨[.int 0], [], f81_fresh⟩
  else
    (run 99 [.int a0_1]).bind fun r1 =>
    nilV r1.outs (consV r1.vals fun v1 vs1 =>
    nilV vs1 ((run 106 [.slice a1_1, .int v1.toInt]).bind fun r2 =>
    nilV r2.outs (consV r2.vals fun v2 vs2 =>
    consV vs2 fun v3 vs3 =>
    nilV vs3 ((run 81 [.int v1.toInt, .slice v2.toSlice]).bind fun r3 =>
    nilV r3.outs (consV r3.vals fun v4 vs4 =>
    nilV vs4 ((run 81 [.int (IntKind.wrap .i64 (a0_1 - v1.toInt)), .slice v3.toSlice]).bind fun r4 =>
    nilV r4.outs (consV r4.vals fun v5 vs5 =>
    nilV vs5 (some ⟨[.int (IntKind.wrap .i64 (v4.toInt + v5.toInt))], [], f81_fresh⟩)))))))) := by kernel_rfl
theorem f81_run (ext : Run) (n : Nat) (a0_1 : Int) (a1_1 : List AV) : runE G ext (n + 1) 81 [.int a0_1, .slice a1_1] = f81 (runE G ext n) n a0_1 a1_1 := runE_succ f81_at f81_in

noncomputable def f77 (run : Run) (n : Nat) (a0_1 : Int) (a1_1 : List AV) : Option Res := evalK G run n f77_info.keep 0 f77_info.body (retE G f77_info) (f77_info.start [.int a0_1, .slice a1_1])
theorem f77_eq (run : Run) (n : Nat) (a0_1 : Int) (a1_1 : List AV) : f77 run n a0_1 a1_1 =
  (run 80 [.int a0_1, .slice a1_1]).bind fun r1 =>
    nilV r1.outs (consV r1.vals fun v1 vs1 =>
    nilV vs1 (bif !v1.toBool then
    some ⟨[.int (-1)], [], f77_fresh⟩
  else
    (run 81 [.int a0_1, .slice a1_1]).bind fun r2 =>
    nilV r2.outs (consV r2.vals fun v2 vs2 =>
    nilV vs2 (some ⟨[.int v2.toInt], [], f77_fresh⟩)))) := by kernel_rfl
theorem f77_run (ext : Run) (n : Nat) (a0_1 : Int) (a1_1 : List AV) : runE G ext (n + 1) 77 [.int a0_1, .slice a1_1] = f77 (runE G ext n) n a0_1 a1_1 := runE_succ f77_at f77_in

noncomputable def f40 (run : Run) (n : Nat) : Option Res := evalK G run n f40_info.keep 0 f40_info.body (retE G f40_info) (f40_info.start [])
theorem f40_eq (run : Run) (n : Nat) : f40 run n  =
  (run 77 [.int 4, .slice [.int 0, .int 1]]).bind fun r1 =>
    nilV r1.outs (consV r1.vals fun v1 vs1 =>
    nilV vs1 (bif eqI v1.toInt 1 then
    (run 77 [.int 4, .slice [.int 0, .int 1, .int 2, .int 3]]).bind fun r2 =>
    nilV r2.outs (consV r2.vals fun v2 vs2 =>
    nilV vs2 (bif eqI v2.toInt 0 then
    (run 77 [.int 4, .slice []]).bind fun r3 =>
    nilV r3.outs (consV r3.vals fun v3 vs3 =>
    nilV vs3 (some ⟨[.bool (eqI v3.toInt (-1))], [], f40_fresh⟩))
  else
    some ⟨[.bool false], [], f40_fresh⟩))
  else
    some ⟨[.bool false], [], f40_fresh⟩)) := by kernel_rfl
theorem f40_run (ext : Run) (n : Nat) : runE G ext (n + 1) 40 [] = f40 (runE G ext n) n  := runE_succ f40_at f40_in

noncomputable def f44 (run : Run) (n : Nat) (a0_1 : Int) (a1_1 : Int) (a1_2 : List AV) (a1_3 : List AV) : Option Res := evalK G run n f44_info.keep 0 f44_info.body (retE G f44_info) (f44_info.start [.int a0_1, .agg [.int a1_1, .slice a1_2, .slice a1_3]])
theorem f44_eq (run : Run) (n : Nat) (a0_1 : Int) (a1_1 : Int) (a1_2 : List AV) (a1_3 : List AV) : f44 run n a0_1 a1_1 a1_2 a1_3 =
  bif ltI a1_1 1 then
    some ⟨[.int 3], [], f44_fresh⟩
  else
    bif ltI 1048576 a1_1 then
    some ⟨[.int 3], [], f44_fresh⟩
  else
    (run 80 [.int a1_1, .slice a1_2]).bind fun r1 =>
    nilV r1.outs (consV r1.vals fun v1 vs1 =>
    nilV vs1 (bif !v1.toBool then
    some ⟨[.int 3], [], f44_fresh⟩
  else
    bif !(eqI a0_1 (a1_2.length : Int)) then
    some ⟨[.int 2], [], f44_fresh⟩
  else
    (run 81 [.int a1_1, .slice a1_2]).bind fun r2 =>
    nilV r2.outs (consV r2.vals fun v2 vs2 =>
    nilV vs2 (bif !(eqI (a1_3.length : Int) v2.toInt) then
    some ⟨[.int 2], [], f44_fresh⟩
  else
    some ⟨[.int 0], [], f44_fresh⟩)))) := by kernel_rfl
theorem f44_run (ext : Run) (n : Nat) (a0_1 : Int) (a1_1 : Int) (a1_2 : List AV) (a1_3 : List AV) : runE G ext (n + 1) 44 [.int a0_1, .agg [.int a1_1, .slice a1_2, .slice a1_3]] = f44 (runE G ext n) n a0_1 a1_1 a1_2 a1_3 := runE_succ f44_at f44_in

noncomputable def f79 (run : Run) (n : Nat) (a0_1 : List AV) (a0_2 : List AV) (a1_1 : Int) (a2_1 : List AV) : Option Res := evalK G run n f79_info.keep 0 f79_info.body (retE G f79_info) (f79_info.start [.agg [.slice a0_1, .slice a0_2], .int a1_1, .slice a2_1])
theorem f79_eq (run : Run) (n : Nat) (a0_1 : List AV) (a0_2 : List AV) (a1_1 : Int) (a2_1 : List AV) : f79 run n a0_1 a0_2 a1_1 a2_1 =
  bif eqI (a2_1.length : Int) 0 then
    bif inR 0 a0_2.length then
    bif boundsOk 1 (a0_2.length : Int) (a0_2.length : Int) (a0_2.length : Int) && true then
    some ⟨[.blob ((nth a0_2 0).toBlob)], [.agg [.slice a0_1, .slice (List.drop 1 (List.take (Int.toNat (a0_2.length : Int)) a0_2))]], f79_fresh⟩
  else none
  else none
  else
    bif eqI a1_1 1 then
    bif inR 0 a0_1.length then
    bif boundsOk 1 (a0_1.length : Int) (a0_1.length : Int) (a0_1.length : Int) && true then
    (run 62 [.str ((nth a0_1 0).toStr)]).bind fun r1 =>
    nilV r1.outs (consV r1.vals fun v1 vs1 =>
    nilV vs1 (some ⟨[.blob v1.toBlob], [.agg [.slice (List.drop 1 (List.take (Int.toNat (a0_1.length : Int)) a0_1)), .slice a0_2]], f79_fresh⟩))
  else none
  else none
  else
    (run 99 [.int a1_1]).bind fun r2 =>
    nilV r2.outs (consV r2.vals fun v2 vs2 =>
    nilV vs2 ((run 106 [.slice a2_1, .int v2.toInt]).bind fun r3 =>
    nilV r3.outs (consV r3.vals fun v3 vs3 =>
    consV vs3 fun v4 vs4 =>
    nilV vs4 ((run 79 [.agg [.slice a0_1, .slice a0_2], .int v2.toInt, .slice v3.toSlice]).bind fun r4 =>
    consV r4.outs fun y1 ys1 =>
    nilV ys1 (consV r4.vals fun v5 vs5 =>
    nilV vs5 ((run 79 [.agg [.slice ((y1.fld 0).toSlice), .slice ((y1.fld 1).toSlice)], .int (IntKind.wrap .i64 (a1_1 - v2.toInt)), .slice v4.toSlice]).bind fun r5 =>
    consV r5.outs fun y2 ys2 =>
    nilV ys2 (consV r5.vals fun v6 vs6 =>
    nilV vs6 ((run 66 [.blob v5.toBlob, .blob v6.toBlob]).bind fun r6 =>
    nilV r6.outs (consV r6.vals fun v7 vs7 =>
    nilV vs7 (some ⟨[.blob v7.toBlob], [.agg [.slice ((y2.fld 0).toSlice), .slice ((y2.fld 1).toSlice)]], f79_fresh⟩)))))))))) := by kernel_rfl
theorem f79_run (ext : Run) (n : Nat) (a0_1 : List AV) (a0_2 : List AV) (a1_1 : Int) (a2_1 : List AV) : runE G ext (n + 1) 79 [.agg [.slice a0_1, .slice a0_2], .int a1_1, .slice a2_1] = f79 (runE G ext n) n a0_1 a0_2 a1_1 a2_1 := runE_succ f79_at f79_in

noncomputable def f43 (run : Run) (n : Nat) (a0_1 : List AV) (a1_1 : Int) (a1_2 : List AV) (a1_3 : List AV) : Option Res := evalK G run n f43_info.keep 0 f43_info.body (retE G f43_info) (f43_info.start [.slice a0_1, .agg [.int a1_1, .slice a1_2, .slice a1_3]])
theorem f43_eq (run : Run) (n : Nat) (a0_1 : List AV) (a1_1 : Int) (a1_2 : List AV) (a1_3 : List AV) : f43 run n a0_1 a1_1 a1_2 a1_3 =
  (run 44 [.int (a0_1.length : Int), .agg [.int a1_1, .slice a1_2, .slice a1_3]]).bind fun r1 =>
    nilV r1.outs (consV r1.vals fun v1 vs1 =>
    nilV vs1 (bif !(eqI v1.toInt 0) then
    some ⟨[.blob [0, 0, 0, 0, 0, 0, 0, 0, 0, 0, 0, 0, 0, 0, 0, 0, 0, 0, 0, 0, 0, 0, 0, 0, 0, 0, 0, 0, 0, 0, 0, 0], .int v1.toInt], [], f43_fresh⟩
  else
    (run 79 [.agg [.slice a0_1, .slice a1_3], .int a1_1, .slice a1_2]).bind fun r2 =>
    consV r2.outs fun _y1 ys1 =>
    nilV ys1 (consV r2.vals fun v2 vs2 =>
    nilV vs2 ((run 64 [.int (IntKind.wrap .u64 a1_1), .blob v2.toBlob]).bind fun r3 =>
    nilV r3.outs (consV r3.vals fun v3 vs3 =>
    nilV vs3 (some ⟨[.blob v3.toBlob, .int 0], [], f43_fresh⟩)))))) := by kernel_rfl
theorem f43_run (ext : Run) (n : Nat) (a0_1 : List AV) (a1_1 : Int) (a1_2 : List AV) (a1_3 : List AV) : runE G ext (n + 1) 43 [.slice a0_1, .agg [.int a1_1, .slice a1_2, .slice a1_3]] = f43 (runE G ext n) n a0_1 a1_1 a1_2 a1_3 := runE_succ f43_at f43_in

noncomputable def f45 (run : Run) (n : Nat) (a0_1 : List UInt8) (a1_1 : List AV) (a2_1 : Int) (a2_2 : List AV) (a2_3 : List AV) : Option Res := evalK G run n f45_info.keep 0 f45_info.body (retE G f45_info) (f45_info.start [.blob a0_1, .slice a1_1, .agg [.int a2_1, .slice a2_2, .slice a2_3]])
theorem f45_eq (run : Run) (n : Nat) (a0_1 : List UInt8) (a1_1 : List AV) (a2_1 : Int) (a2_2 : List AV) (a2_3 : List AV) : f45 run n a0_1 a1_1 a2_1 a2_2 a2_3 =
  (run 43 [.slice a1_1, .agg [.int a2_1, .slice a2_2, .slice a2_3]]).bind fun r1 =>
    nilV r1.outs (consV r1.vals fun v1 vs1 =>
    consV vs1 fun v2 vs2 =>
    nilV vs2 (bif eqI v2.toInt 0 then
    some ⟨[.bool (eqS v1.toBlob a0_1)], [], f45_fresh⟩
  else
    some ⟨[.bool false], [], f45_fresh⟩)) := by kernel_rfl
theorem f45_run (ext : Run) (n : Nat) (a0_1 : List UInt8) (a1_1 : List AV) (a2_1 : Int) (a2_2 : List AV) (a2_3 : List AV) : runE G ext (n + 1) 45 [.blob a0_1, .slice a1_1, .agg [.int a2_1, .slice a2_2, .slice a2_3]] = f45 (runE G ext n) n a0_1 a1_1 a2_1 a2_2 a2_3 := runE_succ f45_at f45_in

noncomputable def f41_l0 (run : Run) (n : Nat) (k0 : Nat) (x0_1 : Int) (x1_1 : List AV) (x5_1 : Int) : Option Res :=
  iterK (evalK G run n f41_keep 0 (sub [1, 0, 1, 0, 0] f41_body)) f41_t0 f41_o0 (blockK 0 (seqK (evalK G run n f41_keep 0 (sub [1, 1] f41_body) (retE G f41_info)) (retE G f41_info))) k0
    ⟨[.val (.int .i64) none (.int x0_1), .val (.slice (.int .i64)) none (.slice x1_1), .any, .any, .any, .val (.int .i64) none (.int x5_1), .any, .any, .any, .any, .any, .any, .any, .any, .any, .any, .any, .any, .any, .any, .any, .any, .any, .any, .any, .any, .any, .any, .any, .any, .any, .any, .any, .any, .any, .any, .any, .any, .any, .any, .any, .any, .any, .any], [⟨0, none⟩, ⟨0, none⟩, ⟨0, none⟩, ⟨0, none⟩, ⟨0, none⟩, ⟨0, none⟩, ⟨0, none⟩, ⟨0, none⟩, ⟨0, none⟩, ⟨0, none⟩, ⟨0, none⟩, ⟨0, none⟩, ⟨0, none⟩, ⟨0, none⟩, ⟨0, none⟩, ⟨0, none⟩, ⟨0, none⟩, ⟨0, none⟩, ⟨0, none⟩, ⟨0, none⟩, ⟨0, none⟩, ⟨0, none⟩, ⟨0, none⟩, ⟨0, none⟩, ⟨0, none⟩, ⟨0, none⟩, ⟨0, none⟩, ⟨0, none⟩, ⟨0, none⟩, ⟨0, none⟩, ⟨0, none⟩, ⟨0, none⟩, ⟨0, none⟩, ⟨0, none⟩, ⟨0, none⟩, ⟨0, none⟩, ⟨0, none⟩, ⟨0, none⟩, ⟨0, none⟩, ⟨0, none⟩, ⟨0, none⟩, ⟨0, none⟩, ⟨0, none⟩, ⟨0, none⟩], List.replicate 44 0⟩
theorem f41_l0_eq (run : Run) (n : Nat) (k0 : Nat) (x0_1 : Int) (x1_1 : List AV) (x5_1 : Int) : f41_l0 run n (k0 + 1) x0_1 x1_1 x5_1 =
  bif ltI x5_1 (x1_1.length : Int) then
    bif inR x5_1 x1_1.length then
    bif ltI ((nth x1_1 (Int.toNat x5_1)).toInt) 0 then
    some ⟨[.bool false], [], f41_fresh⟩
  else
    bif inR x5_1 x1_1.length then
    bif leI x0_1 ((nth x1_1 (Int.toNat x5_1)).toInt) then
    some ⟨[.bool false], [], f41_fresh⟩
  else
    bif ltI 0 x5_1 then
    bif inR x5_1 x1_1.length then
    bif inR (IntKind.wrap .i64 (x5_1 - 1)) x1_1.length then
    bif leI ((nth x1_1 (Int.toNat x5_1)).toInt) ((nth x1_1 (Int.toNat (IntKind.wrap .i64 (x5_1 - 1)))).toInt) then
    some ⟨[.bool false], [], f41_fresh⟩
  else
    f41_l0 run n k0 x0_1 x1_1 (IntKind.wrap .i64 (x5_1 + 1))
  else none
  else none
  else
    f41_l0 run n k0 x0_1 x1_1 (IntKind.wrap .i64 (x5_1 + 1))
  else none
  else none
  else
    some ⟨[.bool (ltI 0 (x1_1.length : Int))], [], f41_fresh⟩ := by kernel_rfl
noncomputable def f41 (run : Run) (n : Nat) (a0_1 : Int) (a1_1 : List AV) : Option Res := evalK G run n f41_info.keep 0 f41_info.body (retE G f41_info) (f41_info.start [.int a0_1, .slice a1_1])
theorem f41_eq (run : Run) (n : Nat) (a0_1 : Int) (a1_1 : List AV) : f41 run n a0_1 a1_1 =
  f41_l0 run n n a0_1 a1_1 0 := by kernel_rfl
theorem f41_run (ext : Run) (n : Nat) (a0_1 : Int) (a1_1 : List AV) : runE G ext (n + 1) 41 [.int a0_1, .slice a1_1] = f41 (runE G ext n) n a0_1 a1_1 := runE_succ f41_at f41_in

noncomputable def f78_l0 (run : Run) (n : Nat) (k0 : Nat) (x0_1 : List AV) (x1_1 : Int) (x2_1 : Int) (x7_1 : Int) : Option Res :=
  iterK (evalK G run n f78_keep 0 (sub [1, 0, 1, 0, 0] f78_body)) f78_t0 f78_o0 (blockK 0 (seqK (evalK G run n f78_keep 0 (sub [1, 1] f78_body) (retE G f78_info)) (retE G f78_info))) k0
    ⟨[.val (.slice (.int .i64)) none (.slice x0_1), .val (.int .i64) none (.int x1_1), .val (.int .i64) none (.int x2_1), .any, .any, .any, .any, .val (.int .i64) none (.int x7_1), .any, .any, .any, .any, .any, .any, .any, .any, .any, .any, .any, .any, .any, .any, .any, .any, .any, .any, .any, .any], [⟨0, none⟩, ⟨0, none⟩, ⟨0, none⟩, ⟨0, none⟩, ⟨0, none⟩, ⟨0, none⟩, ⟨0, none⟩, ⟨0, none⟩, ⟨0, none⟩, ⟨0, none⟩, ⟨0, none⟩, ⟨0, none⟩, ⟨0, none⟩, ⟨0, none⟩, ⟨0, none⟩, ⟨0, none⟩, ⟨0, none⟩, ⟨0, none⟩, ⟨0, none⟩, ⟨0, none⟩, ⟨0, none⟩, ⟨0, none⟩, ⟨0, none⟩, ⟨0, none⟩, ⟨0, none⟩, ⟨0, none⟩, ⟨0, none⟩, ⟨0, none⟩], List.replicate 28 0⟩
theorem f78_l0_eq (run : Run) (n : Nat) (k0 : Nat) (x0_1 : List AV) (x1_1 : Int) (x2_1 : Int) (x7_1 : Int) : f78_l0 run n (k0 + 1) x0_1 x1_1 x2_1 x7_1 =
  bif ltI x7_1 (x0_1.length : Int) then
    bif inR x7_1 x0_1.length then
    bif leI x1_1 ((nth x0_1 (Int.toNat x7_1)).toInt) then
    bif inR x7_1 x0_1.length then
    bif ltI ((nth x0_1 (Int.toNat x7_1)).toInt) x2_1 then
    some ⟨[.bool true], [], f78_fresh⟩
  else
    f78_l0 run n k0 x0_1 x1_1 x2_1 (IntKind.wrap .i64 (x7_1 + 1))
  else none
  else
    f78_l0 run n k0 x0_1 x1_1 x2_1 (IntKind.wrap .i64 (x7_1 + 1))
  else none
  else
    some ⟨[.bool false], [], f78_fresh⟩ := by kernel_rfl
noncomputable def f78 (run : Run) (n : Nat) (a0_1 : List AV) (a1_1 : Int) (a2_1 : Int) : Option Res := evalK G run n f78_info.keep 0 f78_info.body (retE G f78_info) (f78_info.start [.slice a0_1, .int a1_1, .int a2_1])
theorem f78_eq (run : Run) (n : Nat) (a0_1 : List AV) (a1_1 : Int) (a2_1 : Int) : f78 run n a0_1 a1_1 a2_1 =
  f78_l0 run n n a0_1 a1_1 a2_1 0 := by kernel_rfl
theorem f78_run (ext : Run) (n : Nat) (a0_1 : List AV) (a1_1 : Int) (a2_1 : Int) : runE G ext (n + 1) 78 [.slice a0_1, .int a1_1, .int a2_1] = f78 (runE G ext n) n a0_1 a1_1 a2_1 := runE_succ f78_at f78_in

noncomputable def f42 (run : Run) (n : Nat) (a0_1 : List AV) (a1_1 : Int) (a2_1 : Int) : Option Res := evalK G run n f42_info.keep 0 f42_info.body (retE G f42_info) (f42_info.start [.slice a0_1, .int a1_1, .int a2_1])
theorem f42_eq (run : Run) (n : Nat) (a0_1 : List AV) (a1_1 : Int) (a2_1 : Int) : f42 run n a0_1 a1_1 a2_1 =
  (run 78 [.slice a0_1, .int a1_1, .int a2_1]).bind fun r1 =>
    nilV r1.outs (consV r1.vals fun v1 vs1 =>
    nilV vs1 (bif !v1.toBool then
    some ⟨[.int 1], [], f42_fresh⟩
  else
    bif eqI (IntKind.wrap .i64 (a2_1 - a1_1)) 1 then
    some ⟨[.int 0], [], f42_fresh⟩
  else
    (run 67 [.int (IntKind.wrap .i64 (a2_1 - a1_1))]).bind fun r2 =>
    nilV r2.outs (consV r2.vals fun v2 vs2 =>
    nilV vs2 ((run 42 [.slice a0_1, .int a1_1, .int (IntKind.wrap .i64 (a1_1 + v2.toInt))]).bind fun r3 =>
    nilV r3.outs (consV r3.vals fun v3 vs3 =>
    nilV vs3 ((run 42 [.slice a0_1, .int (IntKind.wrap .i64 (a1_1 + v2.toInt)), .int a2_1]).bind fun r4 =>
    nilV r4.outs (consV r4.vals fun v4 vs4 =>
    nilV vs4 (some ⟨[.int (IntKind.wrap .i64 (v3.toInt + v4.toInt))], [], f42_fresh⟩)))))))) := by kernel_rfl
theorem f42_run (ext : Run) (n : Nat) (a0_1 : List AV) (a1_1 : Int) (a2_1 : Int) : runE G ext (n + 1) 42 [.slice a0_1, .int a1_1, .int a2_1] = f42 (runE G ext n) n a0_1 a1_1 a2_1 := runE_succ f42_at f42_in

noncomputable def f46_l0 (run : Run) (n : Nat) (k0 : Nat) (x0_1 : List AV) (x1_1 : List AV) (x2_1 : List AV) (x3_1 : Int) (x4_1 : Int) (x12_1 : Int) (o10_1 : List UInt8) : Option Res :=
  iterK (evalK G run n f46_keep 0 (sub [1, 1, 0, 1, 0, 1, 0, 0] f46_body)) f46_t0 f46_o0 (blockK 0 (seqK (evalK G run n f46_keep 0 (sub [1, 1, 1] f46_body) (retE G f46_info)) (retE G f46_info))) k0
    ⟨[.val (.slice .str) none (.slice x0_1), .val (.slice (.int .i64)) none (.slice x1_1), .val (.slice (.blob 32)) none (.slice x2_1), .val (.int .i64) none (.int x3_1), .val (.int .i64) none (.int x4_1), .any, .any, .any, .any, .any, .ptr ⟨(.blob 32), 10, 1, []⟩, .any, .val (.int .i64) none (.int x12_1), .any, .any, .any, .any, .any, .any, .any, .any, .any, .any, .any, .any, .any, .any, .any, .any, .any, .any, .any, .any, .any, .any, .any, .any, .any, .any, .any, .any, .any, .any, .any, .any, .any, .any, .any, .any, .any, .any, .any, .any, .any, .any, .any, .any, .any, .any, .any, .any, .any, .any, .any, .any, .any, .any, .any, .any, .any, .any, .any, .any, .any, .any, .any, .any], [⟨0, none⟩, ⟨0, none⟩, ⟨0, none⟩, ⟨0, none⟩, ⟨0, none⟩, ⟨0, none⟩, ⟨0, none⟩, ⟨0, none⟩, ⟨0, none⟩, ⟨0, none⟩, ⟨1, some ⟨(.blob 32), .blob o10_1⟩⟩, ⟨0, none⟩, ⟨0, none⟩, ⟨0, none⟩, ⟨0, none⟩, ⟨0, none⟩, ⟨0, none⟩, ⟨0, none⟩, ⟨0, none⟩, ⟨0, none⟩, ⟨0, none⟩, ⟨0, none⟩, ⟨0, none⟩, ⟨0, none⟩, ⟨0, none⟩, ⟨0, none⟩, ⟨0, none⟩, ⟨0, none⟩, ⟨0, none⟩, ⟨0, none⟩, ⟨0, none⟩, ⟨0, none⟩, ⟨0, none⟩, ⟨0, none⟩, ⟨0, none⟩, ⟨0, none⟩, ⟨0, none⟩, ⟨0, none⟩, ⟨0, none⟩, ⟨0, none⟩, ⟨0, none⟩, ⟨0, none⟩, ⟨0, none⟩, ⟨0, none⟩, ⟨0, none⟩, ⟨0, none⟩, ⟨0, none⟩, ⟨0, none⟩, ⟨0, none⟩, ⟨0, none⟩, ⟨0, none⟩, ⟨0, none⟩, ⟨0, none⟩, ⟨0, none⟩, ⟨0, none⟩, ⟨0, none⟩, ⟨0, none⟩, ⟨0, none⟩, ⟨0, none⟩, ⟨0, none⟩, ⟨0, none⟩, ⟨0, none⟩, ⟨0, none⟩, ⟨0, none⟩, ⟨0, none⟩, ⟨0, none⟩, ⟨0, none⟩, ⟨0, none⟩, ⟨0, none⟩, ⟨0, none⟩, ⟨0, none⟩, ⟨0, none⟩, ⟨0, none⟩, ⟨0, none⟩, ⟨0, none⟩, ⟨0, none⟩, ⟨0, none⟩], List.replicate 77 0⟩
theorem f46_l0_eq (run : Run) (n : Nat) (k0 : Nat) (x0_1 : List AV) (x1_1 : List AV) (x2_1 : List AV) (x3_1 : Int) (x4_1 : Int) (x12_1 : Int) (o10_1 : List UInt8) : f46_l0 run n (k0 + 1) x0_1 x1_1 x2_1 x3_1 x4_1 x12_1 o10_1 =
  bif ltI x12_1 (x1_1.length : Int) then
    bif inR x12_1 x1_1.length then
    bif eqI ((nth x1_1 (Int.toNat x12_1)).toInt) x3_1 then
    bif inR x12_1 x0_1.length then
    (run 63 [.str ((nth x0_1 (Int.toNat x12_1)).toStr)]).bind fun r2 =>
    nilV r2.outs (consV r2.vals fun v2 vs2 =>
    nilV vs2 (some ⟨[.blob v2.toBlob, .slice x2_1], [], f46_fresh⟩))
  else none
  else
    f46_l0 run n k0 x0_1 x1_1 x2_1 x3_1 x4_1 (IntKind.wrap .i64 (x12_1 + 1)) o10_1
  else none
  else
    (run 67 [.int (IntKind.wrap .i64 (x4_1 - x3_1))]).bind fun r3 =>
    nilV r3.outs (consV r3.vals fun v3 vs3 =>
    nilV vs3 ((run 46 [.slice x0_1, .slice x1_1, .slice x2_1, .int x3_1, .int (IntKind.wrap .i64 (x3_1 + v3.toInt))]).bind fun r4 =>
    nilV r4.outs (consV r4.vals fun v4 vs4 =>
    consV vs4 fun v5 vs5 =>
    nilV vs5 ((run 46 [.slice x0_1, .slice x1_1, .slice v5.toSlice, .int (IntKind.wrap .i64 (x3_1 + v3.toInt)), .int x4_1]).bind fun r5 =>
    nilV r5.outs (consV r5.vals fun v6 vs6 =>
    consV vs6 fun v7 vs7 =>
    nilV vs7 ((run 68 [.blob v4.toBlob, .blob v6.toBlob]).bind fun r6 =>
    nilV r6.outs (consV r6.vals fun v8 vs8 =>
    nilV vs8 (some ⟨[.blob v8.toBlob, .slice v7.toSlice], [], f46_fresh⟩)))))))) := by kernel_rfl
noncomputable def f46 (run : Run) (n : Nat) (a0_1 : List AV) (a1_1 : List AV) (a2_1 : List AV) (a3_1 : Int) (a4_1 : Int) : Option Res := evalK G run n f46_info.keep 0 f46_info.body (retE G f46_info) (f46_info.start [.slice a0_1, .slice a1_1, .slice a2_1, .int a3_1, .int a4_1])
theorem f46_eq (run : Run) (n : Nat) (a0_1 : List AV) (a1_1 : List AV) (a2_1 : List AV) (a3_1 : Int) (a4_1 : Int) : f46 run n a0_1 a1_1 a2_1 a3_1 a4_1 =
  (run 78 [.slice a1_1, .int a3_1, .int a4_1]).bind fun r1 =>
    nilV r1.outs (consV r1.vals fun v1 vs1 =>
    nilV vs1 (bif !v1.toBool then
    bif inR 0 a2_1.length then
    bif boundsOk 1 (a2_1.length : Int) (a2_1.length : Int) (a2_1.length : Int) && true then
    some ⟨[.blob ((nth a2_1 0).toBlob), .slice (List.drop 1 (List.take (Int.toNat (a2_1.length : Int)) a2_1))], [], f46_fresh⟩
  else none
  else none
  else
    bif eqI (IntKind.wrap .i64 (a4_1 - a3_1)) 1 then
    f46_l0 run n n a0_1 a1_1 a2_1 a3_1 a4_1 0 (List.replicate 32 0)
  else
    (run 67 [.int (IntKind.wrap .i64 (a4_1 - a3_1))]).bind fun r7 =>
    nilV r7.outs (consV r7.vals fun v9 vs9 =>
    nilV vs9 ((run 46 [.slice a0_1, .slice a1_1, .slice a2_1, .int a3_1, .int (IntKind.wrap .i64 (a3_1 + v9.toInt))]).bind fun r8 =>
    nilV r8.outs (consV r8.vals fun v10 vs10 =>
    consV vs10 fun v11 vs11 =>
    nilV vs11 ((run 46 [.slice a0_1, .slice a1_1, .slice v11.toSlice, .int (IntKind.wrap .i64 (a3_1 + v9.toInt)), .int a4_1]).bind fun r9 =>
    nilV r9.outs (consV r9.vals fun v12 vs12 =>
    consV vs12 fun v13 vs13 =>
    nilV vs13 ((run 68 [.blob v10.toBlob, .blob v12.toBlob]).bind fun r10 =>
    nilV r10.outs (consV r10.vals fun v14 vs14 =>
    nilV vs14 (some ⟨[.blob v14.toBlob, .slice v13.toSlice], [], f46_fresh⟩)))))))))) := by kernel_rfl
theorem f46_run (ext : Run) (n : Nat) (a0_1 : List AV) (a1_1 : List AV) (a2_1 : List AV) (a3_1 : Int) (a4_1 : Int) : runE G ext (n + 1) 46 [.slice a0_1, .slice a1_1, .slice a2_1, .int a3_1, .int a4_1] = f46 (runE G ext n) n a0_1 a1_1 a2_1 a3_1 a4_1 := runE_succ f46_at f46_in

noncomputable def f9 (run : Run) (n : Nat) (a0_1 : List UInt8) (a1_1 : List AV) (a2_1 : Int) (a2_2 : List AV) (a2_3 : List AV) : Option Res := evalK G run n f9_info.keep 0 f9_info.body (retE G f9_info) (f9_info.start [.blob a0_1, .slice a1_1, .agg [.int a2_1, .slice a2_2, .slice a2_3]])
theorem f9_eq (run : Run) (n : Nat) (a0_1 : List UInt8) (a1_1 : List AV) (a2_1 : Int) (a2_2 : List AV) (a2_3 : List AV) : f9 run n a0_1 a1_1 a2_1 a2_2 a2_3 =
  (run 15 [.slice a1_1]).bind fun r1 =>
    nilV r1.outs (consV r1.vals fun v1 vs1 =>
    nilV vs1 (bif v1.toBool then
    (run 40 []).bind fun r2 =>
    nilV r2.outs (consV r2.vals fun v2 vs2 =>
    nilV vs2 (some ⟨[.bool v2.toBool], [], f9_fresh⟩))
  else
    bif ltI 100 a2_1 then
    bif leI a2_1 1048576 then
    (run 40 []).bind fun r3 =>
    nilV r3.outs (consV r3.vals fun v3 vs3 =>
    nilV vs3 (some ⟨[.bool v3.toBool], [], f9_fresh⟩))
  else
    bif ltI 200 (a2_2.length : Int) then
    (run 40 []).bind fun r4 =>
    nilV r4.outs (consV r4.vals fun v4 vs4 =>
    nilV vs4 (some ⟨[.bool v4.toBool], [], f9_fresh⟩))
  else
    bif ltI 200 (a2_3.length : Int) then
    (run 40 []).bind fun r5 =>
    nilV r5.outs (consV r5.vals fun v5 vs5 =>
    nilV vs5 (some ⟨[.bool v5.toBool], [], f9_fresh⟩))
  else
    bif ltI a2_1 1 then
    (run 43 [.slice a1_1, .agg [.int a2_1, .slice a2_2, .slice a2_3]]).bind fun r6 =>
    nilV r6.outs (consV r6.vals fun v6 vs6 =>
    consV vs6 fun v7 vs7 =>
    nilV vs7 (bif !(eqI v7.toInt 3) then
    some ⟨[.bool false], [], f9_fresh⟩
  else
    (run 44 [.int (a1_1.length : Int), .agg [.int a2_1, .slice a2_2, .slice a2_3]]).bind fun r7 =>
    nilV r7.outs (consV r7.vals fun v8 vs8 =>
    nilV vs8 (bif !(eqI v8.toInt 3) then
    some ⟨[.bool false], [], f9_fresh⟩
  else
    bif eqS v6.toBlob [0, 0, 0, 0, 0, 0, 0, 0, 0, 0, 0, 0, 0, 0, 0, 0, 0, 0, 0, 0, 0, 0, 0, 0, 0, 0, 0, 0, 0, 0, 0, 0] then
    (run 45 [.blob a0_1, .slice a1_1, .agg [.int a2_1, .slice a2_2, .slice a2_3]]).bind fun r8 =>
    nilV r8.outs (consV r8.vals fun v9 vs9 =>
    nilV vs9 (bif !v9.toBool then
    (run 40 []).bind fun r9 =>
    nilV r9.outs (consV r9.vals fun v10 vs10 =>
    nilV vs10 (some ⟨[.bool v10.toBool], [], f9_fresh⟩))
  else
    some ⟨[.bool false], [], f9_fresh⟩))
  else
    some ⟨[.bool false], [], f9_fresh⟩))))
  else
    bif ltI 1048576 a2_1 then
    (run 43 [.slice a1_1, .agg [.int a2_1, .slice a2_2, .slice a2_3]]).bind fun r10 =>
    nilV r10.outs (consV r10.vals fun v11 vs11 =>
    consV vs11 fun v12 vs12 =>
    nilV vs12 (bif !(eqI v12.toInt 3) then
    some ⟨[.bool false], [], f9_fresh⟩
  else
    (run 44 [.int (a1_1.length : Int), .agg [.int a2_1, .slice a2_2, .slice a2_3]]).bind fun r11 =>
    nilV r11.outs (consV r11.vals fun v13 vs13 =>
    nilV vs13 (bif !(eqI v13.toInt 3) then
    some ⟨[.bool false], [], f9_fresh⟩
  else
    bif eqS v11.toBlob [0, 0, 0, 0, 0, 0, 0, 0, 0, 0, 0, 0, 0, 0, 0, 0, 0, 0, 0, 0, 0, 0, 0, 0, 0, 0, 0, 0, 0, 0, 0, 0] then
    (run 45 [.blob a0_1, .slice a1_1, .agg [.int a2_1, .slice a2_2, .slice a2_3]]).bind fun r12 =>
    nilV r12.outs (consV r12.vals fun v14 vs14 =>
    nilV vs14 (bif !v14.toBool then
    (run 40 []).bind fun r13 =>
    nilV r13.outs (consV r13.vals fun v15 vs15 =>
    nilV vs15 (some ⟨[.bool v15.toBool], [], f9_fresh⟩))
  else
    some ⟨[.bool false], [], f9_fresh⟩))
  else
    some ⟨[.bool false], [], f9_fresh⟩))))
  else
    (run 41 [.int a2_1, .slice a2_2]).bind fun r14 =>
    nilV r14.outs (consV r14.vals fun v16 vs16 =>
    nilV vs16 (bif !v16.toBool then
    (run 43 [.slice a1_1, .agg [.int a2_1, .slice a2_2, .slice a2_3]]).bind fun r15 =>
    nilV r15.outs (consV r15.vals fun v17 vs17 =>
    consV vs17 fun v18 vs18 =>
    nilV vs18 (bif !(eqI v18.toInt 3) then
    some ⟨[.bool false], [], f9_fresh⟩
  else
    (run 44 [.int (a1_1.length : Int), .agg [.int a2_1, .slice a2_2, .slice a2_3]]).bind fun r16 =>
    nilV r16.outs (consV r16.vals fun v19 vs19 =>
    nilV vs19 (bif !(eqI v19.toInt 3) then
    some ⟨[.bool false], [], f9_fresh⟩
  else
    bif eqS v17.toBlob [0, 0, 0, 0, 0, 0, 0, 0, 0, 0, 0, 0, 0, 0, 0, 0, 0, 0, 0, 0, 0, 0, 0, 0, 0, 0, 0, 0, 0, 0, 0, 0] then
    (run 45 [.blob a0_1, .slice a1_1, .agg [.int a2_1, .slice a2_2, .slice a2_3]]).bind fun r17 =>
    nilV r17.outs (consV r17.vals fun v20 vs20 =>
    nilV vs20 (bif !v20.toBool then
    (run 40 []).bind fun r18 =>
    nilV r18.outs (consV r18.vals fun v21 vs21 =>
    nilV vs21 (some ⟨[.bool v21.toBool], [], f9_fresh⟩))
  else
    some ⟨[.bool false], [], f9_fresh⟩))
  else
    some ⟨[.bool false], [], f9_fresh⟩))))
  else
    bif !(eqI (a1_1.length : Int) (a2_2.length : Int)) then
    (run 43 [.slice a1_1, .agg [.int a2_1, .slice a2_2, .slice a2_3]]).bind fun r19 =>
    nilV r19.outs (consV r19.vals fun v22 vs22 =>
    consV vs22 fun v23 vs23 =>
    nilV vs23 (bif !(eqI v23.toInt 2) then
    some ⟨[.bool false], [], f9_fresh⟩
  else
    (run 44 [.int (a1_1.length : Int), .agg [.int a2_1, .slice a2_2, .slice a2_3]]).bind fun r20 =>
    nilV r20.outs (consV r20.vals fun v24 vs24 =>
    nilV vs24 (bif !(eqI v24.toInt 2) then
    some ⟨[.bool false], [], f9_fresh⟩
  else
    bif eqS v22.toBlob [0, 0, 0, 0, 0, 0, 0, 0, 0, 0, 0, 0, 0, 0, 0, 0, 0, 0, 0, 0, 0, 0, 0, 0, 0, 0, 0, 0, 0, 0, 0, 0] then
    (run 45 [.blob a0_1, .slice a1_1, .agg [.int a2_1, .slice a2_2, .slice a2_3]]).bind fun r21 =>
    nilV r21.outs (consV r21.vals fun v25 vs25 =>
    nilV vs25 (bif !v25.toBool then
    (run 40 []).bind fun r22 =>
    nilV r22.outs (consV r22.vals fun v26 vs26 =>
    nilV vs26 (some ⟨[.bool v26.toBool], [], f9_fresh⟩))
  else
    some ⟨[.bool false], [], f9_fresh⟩))
  else
    some ⟨[.bool false], [], f9_fresh⟩))))
  else
    (run 42 [.slice a2_2, .int 0, .int a2_1]).bind fun r23 =>
    nilV r23.outs (consV r23.vals fun v27 vs27 =>
    nilV vs27 (bif !(eqI (a2_3.length : Int) v27.toInt) then
    (run 43 [.slice a1_1, .agg [.int a2_1, .slice a2_2, .slice a2_3]]).bind fun r24 =>
    nilV r24.outs (consV r24.vals fun v28 vs28 =>
    consV vs28 fun v29 vs29 =>
    nilV vs29 (bif !(eqI v29.toInt 2) then
    some ⟨[.bool false], [], f9_fresh⟩
  else
    (run 44 [.int (a1_1.length : Int), .agg [.int a2_1, .slice a2_2, .slice a2_3]]).bind fun r25 =>
    nilV r25.outs (consV r25.vals fun v30 vs30 =>
    nilV vs30 (bif !(eqI v30.toInt 2) then
    some ⟨[.bool false], [], f9_fresh⟩
  else
    bif eqS v28.toBlob [0, 0, 0, 0, 0, 0, 0, 0, 0, 0, 0, 0, 0, 0, 0, 0, 0, 0, 0, 0, 0, 0, 0, 0, 0, 0, 0, 0, 0, 0, 0, 0] then
    (run 45 [.blob a0_1, .slice a1_1, .agg [.int a2_1, .slice a2_2, .slice a2_3]]).bind fun r26 =>
    nilV r26.outs (consV r26.vals fun v31 vs31 =>
    nilV vs31 (bif !v31.toBool then
    (run 40 []).bind fun r27 =>
    nilV r27.outs (consV r27.vals fun v32 vs32 =>
    nilV vs32 (some ⟨[.bool v32.toBool], [], f9_fresh⟩))
  else
    some ⟨[.bool false], [], f9_fresh⟩))
  else
    some ⟨[.bool false], [], f9_fresh⟩))))
  else
    (run 43 [.slice a1_1, .agg [.int a2_1, .slice a2_2, .slice a2_3]]).bind fun r28 =>
    nilV r28.outs (consV r28.vals fun v33 vs33 =>
    consV vs33 fun v34 vs34 =>
    nilV vs34 (bif !(eqI v34.toInt 0) then
    some ⟨[.bool false], [], f9_fresh⟩
  else
    (run 44 [.int (a1_1.length : Int), .agg [.int a2_1, .slice a2_2, .slice a2_3]]).bind fun r29 =>
    nilV r29.outs (consV r29.vals fun v35 vs35 =>
    nilV vs35 (bif !(eqI v35.toInt 0) then
    some ⟨[.bool false], [], f9_fresh⟩
  else
    (run 46 [.slice a1_1, .slice a2_2, .slice a2_3, .int 0, .int a2_1]).bind fun r30 =>
    nilV r30.outs (consV r30.vals fun v36 vs36 =>
    consV vs36 fun _v37 vs37 =>
    nilV vs37 ((run 47 [.int (IntKind.wrap .u64 a2_1), .blob v36.toBlob]).bind fun r31 =>
    nilV r31.outs (consV r31.vals fun v38 vs38 =>
    nilV vs38 (bif eqS v33.toBlob v38.toBlob then
    (run 45 [.blob a0_1, .slice a1_1, .agg [.int a2_1, .slice a2_2, .slice a2_3]]).bind fun r32 =>
    nilV r32.outs (consV r32.vals fun v39 vs39 =>
    nilV vs39 (bif eqO v39.toBool (eqS a0_1 v38.toBlob) then
    (run 45 [.blob v38.toBlob, .slice a1_1, .agg [.int a2_1, .slice a2_2, .slice a2_3]]).bind fun r33 =>
    nilV r33.outs (consV r33.vals fun v40 vs40 =>
    nilV vs40 (bif v40.toBool then
    (run 40 []).bind fun r34 =>
    nilV r34.outs (consV r34.vals fun v41 vs41 =>
    nilV vs41 (some ⟨[.bool v41.toBool], [], f9_fresh⟩))
  else
    some ⟨[.bool false], [], f9_fresh⟩))
  else
    some ⟨[.bool false], [], f9_fresh⟩))
  else
    some ⟨[.bool false], [], f9_fresh⟩))))))))))))
  else
    bif ltI 200 (a2_2.length : Int) then
    (run 40 []).bind fun r35 =>
    nilV r35.outs (consV r35.vals fun v42 vs42 =>
    nilV vs42 (some ⟨[.bool v42.toBool], [], f9_fresh⟩))
  else
    bif ltI 200 (a2_3.length : Int) then
    (run 40 []).bind fun r36 =>
    nilV r36.outs (consV r36.vals fun v43 vs43 =>
    nilV vs43 (some ⟨[.bool v43.toBool], [], f9_fresh⟩))
  else
    bif ltI a2_1 1 then
    (run 43 [.slice a1_1, .agg [.int a2_1, .slice a2_2, .slice a2_3]]).bind fun r37 =>
    nilV r37.outs (consV r37.vals fun v44 vs44 =>
    consV vs44 fun v45 vs45 =>
    nilV vs45 (bif !(eqI v45.toInt 3) then
    some ⟨[.bool false], [], f9_fresh⟩
  else
    (run 44 [.int (a1_1.length : Int), .agg [.int a2_1, .slice a2_2, .slice a2_3]]).bind fun r38 =>
    nilV r38.outs (consV r38.vals fun v46 vs46 =>
    nilV vs46 (bif !(eqI v46.toInt 3) then
    some ⟨[.bool false], [], f9_fresh⟩
  else
    bif eqS v44.toBlob [0, 0, 0, 0, 0, 0, 0, 0, 0, 0, 0, 0, 0, 0, 0, 0, 0, 0, 0, 0, 0, 0, 0, 0, 0, 0, 0, 0, 0, 0, 0, 0] then
    (run 45 [.blob a0_1, .slice a1_1, .agg [.int a2_1, .slice a2_2, .slice a2_3]]).bind fun r39 =>
    nilV r39.outs (consV r39.vals fun v47 vs47 =>
    nilV vs47 (bif !v47.toBool then
    (run 40 []).bind fun r40 =>
    nilV r40.outs (consV r40.vals fun v48 vs48 =>
    nilV vs48 (some ⟨[.bool v48.toBool], [], f9_fresh⟩))
  else
    some ⟨[.bool false], [], f9_fresh⟩))
  else
    some ⟨[.bool false], [], f9_fresh⟩))))
  else
    bif ltI 1048576 a2_1 then
    (run 43 [.slice a1_1, .agg [.int a2_1, .slice a2_2, .slice a2_3]]).bind fun r41 =>
    nilV r41.outs (consV r41.vals fun v49 vs49 =>
    consV vs49 fun v50 vs50 =>
    nilV vs50 (bif !(eqI v50.toInt 3) then
    some ⟨[.bool false], [], f9_fresh⟩
  else
    (run 44 [.int (a1_1.length : Int), .agg [.int a2_1, .slice a2_2, .slice a2_3]]).bind fun r42 =>
    nilV r42.outs (consV r42.vals fun v51 vs51 =>
    nilV vs51 (bif !(eqI v51.toInt 3) then
    some ⟨[.bool false], [], f9_fresh⟩
  else
    bif eqS v49.toBlob [0, 0, 0, 0, 0, 0, 0, 0, 0, 0, 0, 0, 0, 0, 0, 0, 0, 0, 0, 0, 0, 0, 0, 0, 0, 0, 0, 0, 0, 0, 0, 0] then
    (run 45 [.blob a0_1, .slice a1_1, .agg [.int a2_1, .slice a2_2, .slice a2_3]]).bind fun r43 =>
    nilV r43.outs (consV r43.vals fun v52 vs52 =>
    nilV vs52 (bif !v52.toBool then
    (run 40 []).bind fun r44 =>
    nilV r44.outs (consV r44.vals fun v53 vs53 =>
    nilV vs53 (some ⟨[.bool v53.toBool], [], f9_fresh⟩))
  else
    some ⟨[.bool false], [], f9_fresh⟩))
  else
    some ⟨[.bool false], [], f9_fresh⟩))))
  else
    (run 41 [.int a2_1, .slice a2_2]).bind fun r45 =>
    nilV r45.outs (consV r45.vals fun v54 vs54 =>
    nilV vs54 (bif !v54.toBool then
    (run 43 [.slice a1_1, .agg [.int a2_1, .slice a2_2, .slice a2_3]]).bind fun r46 =>
    nilV r46.outs (consV r46.vals fun v55 vs55 =>
    consV vs55 fun v56 vs56 =>
    nilV vs56 (bif !(eqI v56.toInt 3) then
    some ⟨[.bool false], [], f9_fresh⟩
  else
    (run 44 [.int (a1_1.length : Int), .agg [.int a2_1, .slice a2_2, .slice a2_3]]).bind fun r47 =>
    nilV r47.outs (consV r47.vals fun v57 vs57 =>
    nilV vs57 (bif !(eqI v57.toInt 3) then
    some ⟨[.bool false], [], f9_fresh⟩
  else
    bif eqS v55.toBlob [0, 0, 0, 0, 0, 0, 0, 0, 0, 0, 0, 0, 0, 0, 0, 0, 0, 0, 0, 0, 0, 0, 0, 0, 0, 0, 0, 0, 0, 0, 0, 0] then
    (run 45 [.blob a0_1, .slice a1_1, .agg [.int a2_1, .slice a2_2, .slice a2_3]]).bind fun r48 =>
    nilV r48.outs (consV r48.vals fun v58 vs58 =>
    nilV vs58 (bif !v58.toBool then
    (run 40 []).bind fun r49 =>
    nilV r49.outs (consV r49.vals fun v59 vs59 =>
    nilV vs59 (some ⟨[.bool v59.toBool], [], f9_fresh⟩))
  else
    some ⟨[.bool false], [], f9_fresh⟩))
  else
    some ⟨[.bool false], [], f9_fresh⟩))))
  else
    bif !(eqI (a1_1.length : Int) (a2_2.length : Int)) then
    (run 43 [.slice a1_1, .agg [.int a2_1, .slice a2_2, .slice a2_3]]).bind fun r50 =>
    nilV r50.outs (consV r50.vals fun v60 vs60 =>
    consV vs60 fun v61 vs61 =>
    nilV vs61 (bif !(eqI v61.toInt 2) then
    some ⟨[.bool false], [], f9_fresh⟩
  else
    (run 44 [.int (a1_1.length : Int), .agg [.int a2_1, .slice a2_2, .slice a2_3]]).bind fun r51 =>
    nilV r51.outs (consV r51.vals fun v62 vs62 =>
    nilV vs62 (bif !(eqI v62.toInt 2) then
    some ⟨[.bool false], [], f9_fresh⟩
  else
    bif eqS v60.toBlob [0, 0, 0, 0, 0, 0, 0, 0, 0, 0, 0, 0, 0, 0, 0, 0, 0, 0, 0, 0, 0, 0, 0, 0, 0, 0, 0, 0, 0, 0, 0, 0] then
    (run 45 [.blob a0_1, .slice a1_1, .agg [.int a2_1, .slice a2_2, .slice a2_3]]).bind fun r52 =>
    nilV r52.outs (consV r52.vals fun v63 vs63 =>
    nilV vs63 (bif !v63.toBool then
    (run 40 []).bind fun r53 =>
    nilV r53.outs (consV r53.vals fun v64 vs64 =>
    nilV vs64 (some ⟨[.bool v64.toBool], [], f9_fresh⟩))
  else
    some ⟨[.bool false], [], f9_fresh⟩))
  else
    some ⟨[.bool false], [], f9_fresh⟩))))
  else
    (run 42 [.slice a2_2, .int 0, .int a2_1]).bind fun r54 =>
    nilV r54.outs (consV r54.vals fun v65 vs65 =>
    nilV vs65 (bif !(eqI (a2_3.length : Int) v65.toInt) then
    (run 43 [.slice a1_1, .agg [.int a2_1, .slice a2_2, .slice a2_3]]).bind fun r55 =>
    nilV r55.outs (consV r55.vals fun v66 vs66 =>
    consV vs66 fun v67 vs67 =>
    nilV vs67 (bif !(eqI v67.toInt 2) then
    some ⟨[.bool false], [], f9_fresh⟩
  else
    (run 44 [.int (a1_1.length : Int), .agg [.int a2_1, .slice a2_2, .slice a2_3]]).bind fun r56 =>
    nilV r56.outs (consV r56.vals fun v68 vs68 =>
    nilV vs68 (bif !(eqI v68.toInt 2) then
    some ⟨[.bool false], [], f9_fresh⟩
  else
    bif eqS v66.toBlob [0, 0, 0, 0, 0, 0, 0, 0, 0, 0, 0, 0, 0, 0, 0, 0, 0, 0, 0, 0, 0, 0, 0, 0, 0, 0, 0, 0, 0, 0, 0, 0] then
    (run 45 [.blob a0_1, .slice a1_1, .agg [.int a2_1, .slice a2_2, .slice a2_3]]).bind fun r57 =>
    nilV r57.outs (consV r57.vals fun v69 vs69 =>
    nilV vs69 (bif !v69.toBool then
    (run 40 []).bind fun r58 =>
    nilV r58.outs (consV r58.vals fun v70 vs70 =>
    nilV vs70 (some ⟨[.bool v70.toBool], [], f9_fresh⟩))
  else
    some ⟨[.bool false], [], f9_fresh⟩))
  else
    some ⟨[.bool false], [], f9_fresh⟩))))
  else
    (run 43 [.slice a1_1, .agg [.int a2_1, .slice a2_2, .slice a2_3]]).bind fun r59 =>
    nilV r59.outs (consV r59.vals fun v71 vs71 =>
    consV vs71 fun v72 vs72 =>
    nilV vs72 (bif !(eqI v72.toInt 0) then
    some ⟨[.bool false], [], f9_fresh⟩
  else
    (run 44 [.int (a1_1.length : Int), .agg [.int a2_1, .slice a2_2, .slice a2_3]]).bind fun r60 =>
    nilV r60.outs (consV r60.vals fun v73 vs73 =>
    nilV vs73 (bif !(eqI v73.toInt 0) then
    some ⟨[.bool false], [], f9_fresh⟩
  else
    (run 46 [.slice a1_1, .slice a2_2, .slice a2_3, .int 0, .int a2_1]).bind fun r61 =>
    nilV r61.outs (consV r61.vals fun v74 vs74 =>
    consV vs74 fun _v75 vs75 =>
    nilV vs75 ((run 47 [.int (IntKind.wrap .u64 a2_1), .blob v74.toBlob]).bind fun r62 =>
    nilV r62.outs (consV r62.vals fun v76 vs76 =>
    nilV vs76 (bif eqS v71.toBlob v76.toBlob then
    (run 45 [.blob a0_1, .slice a1_1, .agg [.int a2_1, .slice a2_2, .slice a2_3]]).bind fun r63 =>
    nilV r63.outs (consV r63.vals fun v77 vs77 =>
    nilV vs77 (bif eqO v77.toBool (eqS a0_1 v76.toBlob) then
    (run 45 [.blob v76.toBlob, .slice a1_1, .agg [.int a2_1, .slice a2_2, .slice a2_3]]).bind fun r64 =>
    nilV r64.outs (consV r64.vals fun v78 vs78 =>
    nilV vs78 (bif v78.toBool then
    (run 40 []).bind fun r65 =>
    nilV r65.outs (consV r65.vals fun v79 vs79 =>
    nilV vs79 (some ⟨[.bool v79.toBool], [], f9_fresh⟩))
  else
    some ⟨[.bool false], [], f9_fresh⟩))
  else
    some ⟨[.bool false], [], f9_fresh⟩))
  else
    some ⟨[.bool false], [], f9_fresh⟩)))))))))))))) := by kernel_rfl
theorem f9_run (ext : Run) (n : Nat) (a0_1 : List UInt8) (a1_1 : List AV) (a2_1 : Int) (a2_2 : List AV) (a2_3 : List AV) : runE G ext (n + 1) 9 [.blob a0_1, .slice a1_1, .agg [.int a2_1, .slice a2_2, .slice a2_3]] = f9 (runE G ext n) n a0_1 a1_1 a2_1 a2_2 a2_3 := runE_succ f9_at f9_in

noncomputable def f82 (run : Run) (n : Nat) (a0_1 : List AV) (a1_1 : List AV) : Option Res := evalK G run n f82_info.keep 0 f82_info.body (retE G f82_info) (f82_info.start [.slice a0_1, .slice a1_1])
theorem f82_eq (run : Run) (n : Nat) (a0_1 : List AV) (a1_1 : List AV) : f82 run n a0_1 a1_1 =
  bif eqI (a1_1.length : Int) 0 then
    (run 22 [.slice a0_1]).bind fun r1 =>
    nilV r1.outs (consV r1.vals fun v1 vs1 =>
    nilV vs1 (some ⟨[.slice [.blob v1.toBlob]], [], f82_fresh⟩))
  else
    bif eqI (a0_1.length : Int) 1 then
    some ⟨[.slice []], [], f82_fresh⟩
  else
    (run 99 [.int (a0_1.length : Int)]).bind fun r2 =>
    nilV r2.outs (consV r2.vals fun v2 vs2 =>
    nilV vs2 ((run 106 [.slice a1_1, .int v2.toInt]).bind fun r3 =>
    nilV r3.outs (consV r3.vals fun v3 vs3 =>
    consV vs3 fun v4 vs4 =>
    nilV vs4 (bif boundsOk 0 v2.toInt (a0_1.length : Int) (a0_1.length : Int) && true then
    (run 82 [.slice (List.drop 0 (List.take (Int.toNat v2.toInt) a0_1)), .slice v3.toSlice]).bind fun r4 =>
    bif r4.fresh then
    nilV r4.outs (consV r4.vals fun v5 vs5 =>
    nilV vs5 (bif boundsOk v2.toInt (a0_1.length : Int) (a0_1.length : Int) (a0_1.length : Int) && true then
    (run 82 [.slice (List.drop (Int.toNat v2.toInt) (List.take (Int.toNat (a0_1.length : Int)) a0_1)), .slice v4.toSlice]).bind fun r5 =>
    bif r5.fresh then
    nilV r5.outs (consV r5.vals fun v6 vs6 =>
    nilV vs6 (bif Nat.ble ((v5.toSlice.length + v6.toSlice.length) * 32) 140737488355328 then
    some ⟨[.slice (v5.toSlice ++ v6.toSlice)], [], f82_fresh⟩
  else none))
  else none
  else none))
  else none
  else none)))) := by kernel_rfl
theorem f82_run (ext : Run) (n : Nat) (a0_1 : List AV) (a1_1 : List AV) : runE G ext (n + 1) 82 [.slice a0_1, .slice a1_1] = f82 (runE G ext n) n a0_1 a1_1 := runE_succ f82_at f82_in

noncomputable def f48 (run : Run) (n : Nat) (a0_1 : List AV) (a1_1 : List AV) : Option Res := evalK G run n f48_info.keep 0 f48_info.body (retE G f48_info) (f48_info.start [.slice a0_1, .slice a1_1])
theorem f48_eq (run : Run) (n : Nat) (a0_1 : List AV) (a1_1 : List AV) : f48 run n a0_1 a1_1 =
  bif ltI 1048576 (a0_1.length : Int) then
    some ⟨[.agg [.int 0, .slice [], .slice []], .int 4], [], f48_fresh⟩
  else
    (run 80 [.int (a0_1.length : Int), .slice a1_1]).bind fun r1 =>
    nilV r1.outs (consV r1.vals fun v1 vs1 =>
    nilV vs1 (bif !v1.toBool then
    some ⟨[.agg [.int 0, .slice [], .slice []], .int 3], [], f48_fresh⟩
  else
    bif Nat.ble ((a1_1.length) * 8) 140737488355328 then
    (run 18 [.slice a0_1]).bind fun r2 =>
    bif r2.fresh then
    nilV r2.outs (consV r2.vals fun v2 vs2 =>
    nilV vs2 ((run 82 [.slice v2.toSlice, .slice a1_1]).bind fun r3 =>
    bif r3.fresh then
    nilV r3.outs (consV r3.vals fun v3 vs3 =>
    nilV vs3 (some ⟨[.agg [.int (a0_1.length : Int), .slice a1_1, .slice v3.toSlice], .int 0], [], f48_fresh⟩))
  else none))
  else none
  else none)) := by kernel_rfl
theorem f48_run (ext : Run) (n : Nat) (a0_1 : List AV) (a1_1 : List AV) : runE G ext (n + 1) 48 [.slice a0_1, .slice a1_1] = f48 (runE G ext n) n a0_1 a1_1 := runE_succ f48_at f48_in

noncomputable def f49 (run : Run) (n : Nat) (a0_1 : List AV) (a1_1 : List AV) (a2_1 : Int) (a3_1 : Int) : Option Res := evalK G run n f49_info.keep 0 f49_info.body (retE G f49_info) (f49_info.start [.slice a0_1, .slice a1_1, .int a2_1, .int a3_1])
theorem f49_eq (run : Run) (n : Nat) (a0_1 : List AV) (a1_1 : List AV) (a2_1 : Int) (a3_1 : Int) : f49 run n a0_1 a1_1 a2_1 a3_1 =
  (run 78 [.slice a1_1, .int a2_1, .int a3_1]).bind fun r1 =>
    nilV r1.outs (consV r1.vals fun v1 vs1 =>
    nilV vs1 (bif !v1.toBool then
    bif boundsOk a2_1 a3_1 (a0_1.length : Int) (a0_1.length : Int) && true then
    (run 23 [.slice (List.drop (Int.toNat a2_1) (List.take (Int.toNat a3_1) a0_1))]).bind fun r2 =>
    nilV r2.outs (consV r2.vals fun v2 vs2 =>
    nilV vs2 (some ⟨[.slice [.blob v2.toBlob]], [], f49_fresh⟩))
  else none
  else
    bif eqI (IntKind.wrap .i64 (a3_1 - a2_1)) 1 then
    some ⟨[.slice []], [], f49_fresh⟩
  else
    (run 67 [.int (IntKind.wrap .i64 (a3_1 - a2_1))]).bind fun r3 =>
    nilV r3.outs (consV r3.vals fun v3 vs3 =>
    nilV vs3 ((run 49 [.slice a0_1, .slice a1_1, .int a2_1, .int (IntKind.wrap .i64 (a2_1 + v3.toInt))]).bind fun r4 =>
    bif r4.fresh then
    nilV r4.outs (consV r4.vals fun v4 vs4 =>
    nilV vs4 ((run 49 [.slice a0_1, .slice a1_1, .int (IntKind.wrap .i64 (a2_1 + v3.toInt)), .int a3_1]).bind fun r5 =>
    bif r5.fresh then
    nilV r5.outs (consV r5.vals fun v5 vs5 =>
    nilV vs5 (bif Nat.ble ((v4.toSlice.length + v5.toSlice.length) * 32) 140737488355328 then
    some ⟨[.slice (v4.toSlice ++ v5.toSlice)], [], f49_fresh⟩
  else none))
  else none))
  else none)))) := by kernel_rfl
theorem f49_run (ext : Run) (n : Nat) (a0_1 : List AV) (a1_1 : List AV) (a2_1 : Int) (a3_1 : Int) : runE G ext (n + 1) 49 [.slice a0_1, .slice a1_1, .int a2_1, .int a3_1] = f49 (runE G ext n) n a0_1 a1_1 a2_1 a3_1 := runE_succ f49_at f49_in

noncomputable def f10_l0 (run : Run) (n : Nat) (k0 : Nat) (x0_1 : List AV) (x1_1 : List AV) (x7_1 : Int) (o5_1 : Int) (o5_2 : List AV) (o5_3 : List AV) : Option Res :=
  iterK (evalK G run n f10_keep 0 (sub [1, 1, 1, 1, 1, 0, 1, 0, 0] f10_body)) f10_t0 f10_o0 (blockK 0 (seqK (evalK G run n f10_keep 0 (sub [1, 1, 1, 1, 1, 1] f10_body) (retE G f10_info)) (retE G f10_info))) k0
    ⟨[.val (.slice .str) none (.slice x0_1), .val (.slice (.int .i64)) none (.slice x1_1), .any, .any, .any, .ptr ⟨(.struct [(.int .i64), (.slice (.int .i64)), (.slice (.blob 32))]), 5, 1, []⟩, .any, .val (.int .i64) none (.int x7_1), .any, .any, .any, .any, .any, .any, .any, .any, .any, .any, .any, .any, .any, .any, .any, .any, .any, .any, .any, .any, .any, .any, .any, .any, .any, .any, .any, .any, .any, .any, .any, .any, .any, .any, .any, .any, .any, .any, .any, .any, .any, .any, .any, .any, .any, .any, .any, .any, .any, .any, .any, .any, .any, .any, .any, .any, .any, .any, .any, .any, .any, .any, .any, .any, .any, .any, .any, .any, .any, .any, .any, .any, .any, .any, .any, .any, .any, .any, .any, .any, .any, .any, .any, .any, .any, .any], [⟨0, none⟩, ⟨0, none⟩, ⟨0, none⟩, ⟨0, none⟩, ⟨0, none⟩, ⟨1, some ⟨(.struct [(.int .i64), (.slice (.int .i64)), (.slice (.blob 32))]), .agg [.int o5_1, .slice o5_2, .slice o5_3]⟩⟩, ⟨0, none⟩, ⟨0, none⟩, ⟨0, none⟩, ⟨0, none⟩, ⟨0, none⟩, ⟨0, none⟩, ⟨0, none⟩, ⟨0, none⟩, ⟨0, none⟩, ⟨0, none⟩, ⟨0, none⟩, ⟨0, none⟩, ⟨0, none⟩, ⟨0, none⟩, ⟨0, none⟩, ⟨0, none⟩, ⟨0, none⟩, ⟨0, none⟩, ⟨0, none⟩, ⟨0, none⟩, ⟨0, none⟩, ⟨0, none⟩, ⟨0, none⟩, ⟨0, none⟩, ⟨0, none⟩, ⟨0, none⟩, ⟨0, none⟩, ⟨0, none⟩, ⟨0, none⟩, ⟨0, none⟩, ⟨0, none⟩, ⟨0, none⟩, ⟨0, none⟩, ⟨0, none⟩, ⟨0, none⟩, ⟨0, none⟩, ⟨0, none⟩, ⟨0, none⟩, ⟨0, none⟩, ⟨0, none⟩, ⟨0, none⟩, ⟨0, none⟩, ⟨0, none⟩, ⟨0, none⟩, ⟨0, none⟩, ⟨0, none⟩, ⟨0, none⟩, ⟨0, none⟩, ⟨0, none⟩, ⟨0, none⟩, ⟨0, none⟩, ⟨0, none⟩, ⟨0, none⟩, ⟨0, none⟩, ⟨0, none⟩, ⟨0, none⟩, ⟨0, none⟩, ⟨0, none⟩, ⟨0, none⟩, ⟨0, none⟩, ⟨0, none⟩, ⟨0, none⟩, ⟨0, none⟩, ⟨0, none⟩, ⟨0, none⟩, ⟨0, none⟩, ⟨0, none⟩, ⟨0, none⟩, ⟨0, none⟩, ⟨0, none⟩, ⟨0, none⟩, ⟨0, none⟩, ⟨0, none⟩, ⟨0, none⟩, ⟨0, none⟩, ⟨0, none⟩, ⟨0, none⟩, ⟨0, none⟩, ⟨0, none⟩, ⟨0, none⟩, ⟨0, none⟩, ⟨0, none⟩, ⟨0, none⟩, ⟨0, none⟩, ⟨0, none⟩, ⟨0, none⟩, ⟨0, none⟩, ⟨0, none⟩], List.replicate 94 0⟩
theorem f10_l0_eq (run : Run) (n : Nat) (k0 : Nat) (x0_1 : List AV) (x1_1 : List AV) (x7_1 : Int) (o5_1 : Int) (o5_2 : List AV) (o5_3 : List AV) : f10_l0 run n (k0 + 1) x0_1 x1_1 x7_1 o5_1 o5_2 o5_3 =
  bif ltI x7_1 (x1_1.length : Int) then
    bif inR x7_1 o5_2.length then
    bif inR x7_1 x1_1.length then
    bif !(eqI ((nth o5_2 (Int.toNat x7_1)).toInt) ((nth x1_1 (Int.toNat x7_1)).toInt)) then
    some ⟨[.bool false], [], f10_fresh⟩
  else
    f10_l0 run n k0 x0_1 x1_1 (IntKind.wrap .i64 (x7_1 + 1)) o5_1 o5_2 o5_3
  else none
  else none
  else
    (run 19 [.slice x0_1]).bind fun r7 =>
    bif r7.fresh then
    nilV r7.outs (consV r7.vals fun v8 vs8 =>
    nilV vs8 ((run 49 [.slice v8.toSlice, .slice x1_1, .int 0, .int (x0_1.length : Int)]).bind fun r8 =>
    bif r8.fresh then
    nilV r8.outs (consV r8.vals fun v9 vs9 =>
    nilV vs9 ((run 17 [.slice o5_3, .slice v9.toSlice]).bind fun r9 =>
    nilV r9.outs (consV r9.vals fun v10 vs10 =>
    nilV vs10 (bif v10.toBool then
    (run 40 []).bind fun r10 =>
    nilV r10.outs (consV r10.vals fun v11 vs11 =>
    nilV vs11 (some ⟨[.bool v11.toBool], [], f10_fresh⟩))
  else
    some ⟨[.bool false], [], f10_fresh⟩))))
  else none))
  else none := by kernel_rfl
noncomputable def f10 (run : Run) (n : Nat) (a0_1 : List AV) (a1_1 : List AV) : Option Res := evalK G run n f10_info.keep 0 f10_info.body (retE G f10_info) (f10_info.start [.slice a0_1, .slice a1_1])
theorem f10_eq (run : Run) (n : Nat) (a0_1 : List AV) (a1_1 : List AV) : f10 run n a0_1 a1_1 =
  (run 15 [.slice a0_1]).bind fun r1 =>
    nilV r1.outs (consV r1.vals fun v1 vs1 =>
    nilV vs1 (bif v1.toBool then
    (run 40 []).bind fun r2 =>
    nilV r2.outs (consV r2.vals fun v2 vs2 =>
    nilV vs2 (some ⟨[.bool v2.toBool], [], f10_fresh⟩))
  else
    bif ltI 200 (a1_1.length : Int) then
    (run 40 []).bind fun r3 =>
    nilV r3.outs (consV r3.vals fun v3 vs3 =>
    nilV vs3 (some ⟨[.bool v3.toBool], [], f10_fresh⟩))
  else
    (run 48 [.slice a0_1, .slice a1_1]).bind fun r4 =>
    nilV r4.outs (consV r4.vals fun v4 vs4 =>
    consV vs4 fun v5 vs5 =>
    nilV vs5 ((run 41 [.int (a0_1.length : Int), .slice a1_1]).bind fun r5 =>
    nilV r5.outs (consV r5.vals fun v6 vs6 =>
    nilV vs6 (bif !v6.toBool then
    bif eqI v5.toInt 3 then
    bif eqI ((v4.fld 0).toInt) 0 then
    bif eqI (((v4.fld 1).toSlice).length : Int) 0 then
    bif eqI (((v4.fld 2).toSlice).length : Int) 0 then
    (run 40 []).bind fun r6 =>
    nilV r6.outs (consV r6.vals fun v7 vs7 =>
    nilV vs7 (some ⟨[.bool v7.toBool], [], f10_fresh⟩))
  else
    some ⟨[.bool false], [], f10_fresh⟩
  else
    some ⟨[.bool false], [], f10_fresh⟩
  else
    some ⟨[.bool false], [], f10_fresh⟩
  else
    some ⟨[.bool false], [], f10_fresh⟩
  else
    bif !(eqI v5.toInt 0) then
    some ⟨[.bool false], [], f10_fresh⟩
  else
    bif !(eqI ((v4.fld 0).toInt) (a0_1.length : Int)) then
    some ⟨[.bool false], [], f10_fresh⟩
  else
    bif !(eqI (((v4.fld 1).toSlice).length : Int) (a1_1.length : Int)) then
    some ⟨[.bool false], [], f10_fresh⟩
  else
    f10_l0 run n n a0_1 a1_1 0 ((v4.fld 0).toInt) ((v4.fld 1).toSlice) ((v4.fld 2).toSlice))))))) := by kernel_rfl
theorem f10_run (ext : Run) (n : Nat) (a0_1 : List AV) (a1_1 : List AV) : runE G ext (n + 1) 10 [.slice a0_1, .slice a1_1] = f10 (runE G ext n) n a0_1 a1_1 := runE_succ f10_at f10_in

noncomputable def f120 (run : Run) (n : Nat) (a0_1 : List UInt8) : Option Res := evalK G run n f120_info.keep 0 f120_info.body (retE G f120_info) (f120_info.start [.blob a0_1])
theorem f120_eq (run : Run) (n : Nat) (a0_1 : List UInt8) : f120 run n a0_1 =
  bif Nat.ble (1 + (bytesOf (List.drop 0 (List.take 32 (ofBytes a0_1)))).length) maxLen then
    some ⟨[.str ([76] ++ (bytesOf (List.drop 0 (List.take 32 (ofBytes a0_1)))))], [], f120_fresh⟩
  else none := by kernel_rfl
theorem f120_run (ext : Run) (n : Nat) (a0_1 : List UInt8) : runE G ext (n + 1) 120 [.blob a0_1] = f120 (runE G ext n) n a0_1 := runE_succ f120_at f120_in

noncomputable def f107_l0 (run : Run) (n : Nat) (k0 : Nat) (x3_1 : List AV) (x6_1 : List AV) (x7_1 : Int) (x8_1 : Int) : Option Res :=
  iterK (evalK G run n f107_keep 0 (sub [1, 1, 0, 1, 0, 0] f107_body)) f107_t0 f107_o0 (blockK 0 (seqK (evalK G run n f107_keep 0 (sub [1, 1, 1] f107_body) (retE G f107_info)) (retE G f107_info))) k0
    ⟨[.any, .any, .any, .val (.slice .str) (some (3, 0)) (.slice x3_1), .any, .any, .val (.slice (.blob 32)) none (.slice x6_1), .val (.int .i64) none (.int x7_1), .val (.int .i64) none (.int x8_1), .any, .any, .any, .any, .any, .any, .any, .any, .any, .any], [⟨0, none⟩, ⟨0, none⟩, ⟨0, none⟩, ⟨0, none⟩, ⟨0, none⟩, ⟨0, none⟩, ⟨0, none⟩, ⟨0, none⟩, ⟨0, none⟩, ⟨0, none⟩, ⟨0, none⟩, ⟨0, none⟩, ⟨0, none⟩, ⟨0, none⟩, ⟨0, none⟩, ⟨0, none⟩, ⟨0, none⟩, ⟨0, none⟩, ⟨0, none⟩], List.replicate 19 0⟩
theorem f107_l0_eq (run : Run) (n : Nat) (k0 : Nat) (x3_1 : List AV) (x6_1 : List AV) (x7_1 : Int) (x8_1 : Int) : f107_l0 run n (k0 + 1) x3_1 x6_1 x7_1 x8_1 =
  bif ltI x8_1 x7_1 then
    bif inR x8_1 x6_1.length then
    (run 120 [.blob ((nth x6_1 (Int.toNat x8_1)).toBlob)]).bind fun r1 =>
    nilV r1.outs (consV r1.vals fun v1 vs1 =>
    nilV vs1 (bif Nat.ble ((x3_1.length + 1) * 16) 140737488355328 then
    f107_l0 run n k0 (x3_1 ++ [.str v1.toStr]) x6_1 x7_1 (IntKind.wrap .i64 (x8_1 + 1))
  else none))
  else none
  else
    some ⟨[.slice x3_1], [], f107_fresh⟩ := by kernel_rfl
noncomputable def f107 (run : Run) (n : Nat) (a0_1 : List AV) : Option Res := evalK G run n f107_info.keep 0 f107_info.body (retE G f107_info) (f107_info.start [.slice a0_1])
theorem f107_eq (run : Run) (n : Nat) (a0_1 : List AV) : f107 run n a0_1 =
  f107_l0 run n n [] a0_1 (a0_1.length : Int) 0 := by kernel_rfl
theorem f107_run (ext : Run) (n : Nat) (a0_1 : List AV) : runE G ext (n + 1) 107 [.slice a0_1] = f107 (runE G ext n) n a0_1 := runE_succ f107_at f107_in

noncomputable def f83 (run : Run) (n : Nat) (a0_1 : List AV) : Option Res := evalK G run n f83_info.keep 0 f83_info.body (retE G f83_info) (f83_info.start [.slice a0_1])
theorem f83_eq (run : Run) (n : Nat) (a0_1 : List AV) : f83 run n a0_1 =
  (run 107 [.slice a0_1]).bind fun r1 =>
    bif r1.fresh then
    nilV r1.outs (consV r1.vals fun v1 vs1 =>
    nilV vs1 ((run 20 [.slice v1.toSlice]).bind fun r2 =>
    nilV r2.outs (consV r2.vals fun v2 vs2 =>
    nilV vs2 (some ⟨[.blob v2.toBlob], [], f83_fresh⟩))))
  else none := by kernel_rfl
theorem f83_run (ext : Run) (n : Nat) (a0_1 : List AV) : runE G ext (n + 1) 83 [.slice a0_1] = f83 (runE G ext n) n a0_1 := runE_succ f83_at f83_in

noncomputable def f121 (run : Run) (n : Nat) (a0_1 : List UInt8) : Option Res := evalK G run n f121_info.keep 0 f121_info.body (retE G f121_info) (f121_info.start [.str a0_1])
theorem f121_eq (run : Run) (n : Nat) (a0_1 : List UInt8) : f121 run n a0_1 =
  bif Nat.ble (1 + a0_1.length) maxLen then
    some ⟨[.str ([84] ++ a0_1)], [], f121_fresh⟩
  else none := by kernel_rfl
theorem f121_run (ext : Run) (n : Nat) (a0_1 : List UInt8) : runE G ext (n + 1) 121 [.str a0_1] = f121 (runE G ext n) n a0_1 := runE_succ f121_at f121_in

noncomputable def f108_l0 (run : Run) (n : Nat) (k0 : Nat) (x3_1 : List AV) (x6_1 : List AV) (x7_1 : Int) (x8_1 : Int) : Option Res :=
  iterK (evalK G run n f108_keep 0 (sub [1, 1, 0, 1, 0, 0] f108_body)) f108_t0 f108_o0 (blockK 0 (seqK (evalK G run n f108_keep 0 (sub [1, 1, 1] f108_body) (retE G f108_info)) (retE G f108_info))) k0
    ⟨[.any, .any, .any, .val (.slice .str) (some (3, 0)) (.slice x3_1), .any, .any, .val (.slice .str) none (.slice x6_1), .val (.int .i64) none (.int x7_1), .val (.int .i64) none (.int x8_1), .any, .any, .any, .any, .any, .any, .any, .any, .any, .any], [⟨0, none⟩, ⟨0, none⟩, ⟨0, none⟩, ⟨0, none⟩, ⟨0, none⟩, ⟨0, none⟩, ⟨0, none⟩, ⟨0, none⟩, ⟨0, none⟩, ⟨0, none⟩, ⟨0, none⟩, ⟨0, none⟩, ⟨0, none⟩, ⟨0, none⟩, ⟨0, none⟩, ⟨0, none⟩, ⟨0, none⟩, ⟨0, none⟩, ⟨0, none⟩], List.replicate 19 0⟩
theorem f108_l0_eq (run : Run) (n : Nat) (k0 : Nat) (x3_1 : List AV) (x6_1 : List AV) (x7_1 : Int) (x8_1 : Int) : f108_l0 run n (k0 + 1) x3_1 x6_1 x7_1 x8_1 =
  bif ltI x8_1 x7_1 then
    bif inR x8_1 x6_1.length then
    (run 121 [.str ((nth x6_1 (Int.toNat x8_1)).toStr)]).bind fun r1 =>
    nilV r1.outs (consV r1.vals fun v1 vs1 =>
    nilV vs1 (bif Nat.ble ((x3_1.length + 1) * 16) 140737488355328 then
    f108_l0 run n k0 (x3_1 ++ [.str v1.toStr]) x6_1 x7_1 (IntKind.wrap .i64 (x8_1 + 1))
  else none))
  else none
  else
    some ⟨[.slice x3_1], [], f108_fresh⟩ := by kernel_rfl
noncomputable def f108 (run : Run) (n : Nat) (a0_1 : List AV) : Option Res := evalK G run n f108_info.keep 0 f108_info.body (retE G f108_info) (f108_info.start [.slice a0_1])
theorem f108_eq (run : Run) (n : Nat) (a0_1 : List AV) : f108 run n a0_1 =
  f108_l0 run n n [] a0_1 (a0_1.length : Int) 0 := by kernel_rfl
theorem f108_run (ext : Run) (n : Nat) (a0_1 : List AV) : runE G ext (n + 1) 108 [.slice a0_1] = f108 (runE G ext n) n a0_1 := runE_succ f108_at f108_in

noncomputable def f84 (run : Run) (n : Nat) (a0_1 : List AV) : Option Res := evalK G run n f84_info.keep 0 f84_info.body (retE G f84_info) (f84_info.start [.slice a0_1])
theorem f84_eq (run : Run) (n : Nat) (a0_1 : List AV) : f84 run n a0_1 =
  (run 108 [.slice a0_1]).bind fun r1 =>
    bif r1.fresh then
    nilV r1.outs (consV r1.vals fun v1 vs1 =>
    nilV vs1 ((run 20 [.slice v1.toSlice]).bind fun r2 =>
    nilV r2.outs (consV r2.vals fun v2 vs2 =>
    nilV vs2 (some ⟨[.blob v2.toBlob], [], f84_fresh⟩))))
  else none := by kernel_rfl
theorem f84_run (ext : Run) (n : Nat) (a0_1 : List AV) : runE G ext (n + 1) 84 [.slice a0_1] = f84 (runE G ext n) n a0_1 := runE_succ f84_at f84_in

noncomputable def f52 (run : Run) (n : Nat) (a0_1 : Int) (a1_1 : List AV) (a2_1 : List AV) (a3_1 : Int) : Option Res := evalK G run n f52_info.keep 0 f52_info.body (retE G f52_info) (f52_info.start [.int a0_1, .slice a1_1, .slice a2_1, .int a3_1])
theorem f52_eq (run : Run) (n : Nat) (a0_1 : Int) (a1_1 : List AV) (a2_1 : List AV) (a3_1 : Int) : f52 run n a0_1 a1_1 a2_1 a3_1 =
  (run 83 [.slice a1_1]).bind fun r1 =>
    nilV r1.outs (consV r1.vals fun v1 vs1 =>
    nilV vs1 ((run 84 [.slice a2_1]).bind fun r2 =>
    nilV r2.outs (consV r2.vals fun v2 vs2 =>
    nilV vs2 (bif Nat.ble ((a2_1.length) * 16) 140737488355328 then
    some ⟨[.agg [.agg [.int a0_1, .blob v1.toBlob, .blob v2.toBlob, .int a3_1], .slice a2_1]], [], f52_fresh⟩
  else none)))) := by kernel_rfl
theorem f52_run (ext : Run) (n : Nat) (a0_1 : Int) (a1_1 : List AV) (a2_1 : List AV) (a3_1 : Int) : runE G ext (n + 1) 52 [.int a0_1, .slice a1_1, .slice a2_1, .int a3_1] = f52 (runE G ext n) n a0_1 a1_1 a2_1 a3_1 := runE_succ f52_at f52_in

noncomputable def f87_l0 (run : Run) (n : Nat) (k0 : Nat) (x8_1 : List AV) (x9_1 : Int) (x10_1 : Int) : Option Res :=
  iterK (evalK G run n f87_keep 0 (sub [1, 1, 0, 1, 0, 0] f87_body)) f87_t0 f87_o0 (blockK 0 (seqK (evalK G run n f87_keep 0 (sub [1, 1, 1] f87_body) (retE G f87_info)) (retE G f87_info))) k0
    ⟨[.any, .any, .any, .any, .any, .any, .any, .any, .val (.slice .str) none (.slice x8_1), .val (.int .i64) none (.int x9_1), .val (.int .i64) none (.int x10_1), .any, .any, .any, .any, .any, .any, .any], [⟨0, none⟩, ⟨0, none⟩, ⟨0, none⟩, ⟨0, none⟩, ⟨0, none⟩, ⟨0, none⟩, ⟨0, none⟩, ⟨0, none⟩, ⟨0, none⟩, ⟨0, none⟩, ⟨0, none⟩, ⟨0, none⟩, ⟨0, none⟩, ⟨0, none⟩, ⟨0, none⟩, ⟨0, none⟩, ⟨0, none⟩, ⟨0, none⟩], List.replicate 18 0⟩
theorem f87_l0_eq (run : Run) (n : Nat) (k0 : Nat) (x8_1 : List AV) (x9_1 : Int) (x10_1 : Int) : f87_l0 run n (k0 + 1) x8_1 x9_1 x10_1 =
  bif ltI x10_1 x9_1 then
    bif inR x10_1 x8_1.length then
    bif ltI 4096 (((nth x8_1 (Int.toNat x10_1)).toStr).length : Int) then
    some ⟨[.int 4], [], f87_fresh⟩
  else
    f87_l0 run n k0 x8_1 x9_1 (IntKind.wrap .i64 (x10_1 + 1))
  else none
  else
    some ⟨[.int 0], [], f87_fresh⟩ := by kernel_rfl
noncomputable def f87 (run : Run) (n : Nat) (a0_1 : List AV) : Option Res := evalK G run n f87_info.keep 0 f87_info.body (retE G f87_info) (f87_info.start [.slice a0_1])
theorem f87_eq (run : Run) (n : Nat) (a0_1 : List AV) : f87 run n a0_1 =
  bif ltI 1024 (a0_1.length : Int) then
    some ⟨[.int 4], [], f87_fresh⟩
  else
    f87_l0 run n n a0_1 (a0_1.length : Int) 0 := by kernel_rfl
theorem f87_run (ext : Run) (n : Nat) (a0_1 : List AV) : runE G ext (n + 1) 87 [.slice a0_1] = f87 (runE G ext n) n a0_1 := runE_succ f87_at f87_in

noncomputable def f55 (run : Run) (n : Nat) (a0_1 : Int) (a0_2 : List UInt8) (a0_3 : List UInt8) (a0_4 : Int) (a0_5 : List AV) (a1_1 : Int) (a2_1 : List AV) : Option Res := evalK G run n f55_info.keep 0 f55_info.body (retE G f55_info) (f55_info.start [.agg [.agg [.int a0_1, .blob a0_2, .blob a0_3, .int a0_4], .slice a0_5], .int a1_1, .slice a2_1])
theorem f55_eq (run : Run) (n : Nat) (a0_1 : Int) (a0_2 : List UInt8) (a0_3 : List UInt8) (a0_4 : Int) (a0_5 : List AV) (a1_1 : Int) (a2_1 : List AV) : f55 run n a0_1 a0_2 a0_3 a0_4 a0_5 a1_1 a2_1 =
  bif !(eqI a0_1 a1_1) then
    some ⟨[.int 8], [], f55_fresh⟩
  else
    (run 87 [.slice a0_5]).bind fun r1 =>
    nilV r1.outs (consV r1.vals fun v1 vs1 =>
    nilV vs1 (bif !(eqI v1.toInt 0) then
    some ⟨[.int v1.toInt], [], f55_fresh⟩
  else
    (run 52 [.int a1_1, .slice a2_1, .slice a0_5, .int a0_4]).bind fun r2 =>
    nilV r2.outs (consV r2.vals fun v2 vs2 =>
    nilV vs2 (bif !(eqI (((v2.fld 0).fld 0).toInt) a0_1 && (eqS (((v2.fld 0).fld 1).toBlob) a0_2 && (eqS (((v2.fld 0).fld 2).toBlob) a0_3 && (eqI (((v2.fld 0).fld 3).toInt) a0_4 && true)))) then
    some ⟨[.int 12], [], f55_fresh⟩
  else
    some ⟨[.int 0], [], f55_fresh⟩)))) := by kernel_rfl
theorem f55_run (ext : Run) (n : Nat) (a0_1 : Int) (a0_2 : List UInt8) (a0_3 : List UInt8) (a0_4 : Int) (a0_5 : List AV) (a1_1 : Int) (a2_1 : List AV) : runE G ext (n + 1) 55 [.agg [.agg [.int a0_1, .blob a0_2, .blob a0_3, .int a0_4], .slice a0_5], .int a1_1, .slice a2_1] = f55 (runE G ext n) n a0_1 a0_2 a0_3 a0_4 a0_5 a1_1 a2_1 := runE_succ f55_at f55_in

noncomputable def f57_l0 (run : Run) (n : Nat) (k0 : Nat) (x22_1 : List AV) (x23_1 : Int) (x24_1 : Int) (o3_1 : Int) (o3_2 : List UInt8) (o3_3 : List UInt8) (o3_4 : Int) (o3_5 : List AV) : Option Res :=
  iterK (evalK G run n f57_keep 0 (sub [1, 1, 0, 1, 0, 0] f57_body)) f57_t0 f57_o0 (blockK 0 (seqK (evalK G run n f57_keep 0 (sub [1, 1, 1] f57_body) (retE G f57_info)) (retE G f57_info))) k0
    ⟨[.any, .any, .any, .ptr ⟨(.struct [(.struct [(.int .u32), (.blob 32), (.blob 32), (.int .u64)]), (.slice .str)]), 3, 1, []⟩, .any, .any, .any, .any, .any, .any, .any, .any, .any, .any, .any, .any, .any, .any, .any, .any, .any, .any, .val (.slice .str) none (.slice x22_1), .val (.int .i64) none (.int x23_1), .val (.int .i64) none (.int x24_1), .any, .any, .any, .any, .any, .any, .any, .any, .any, .any, .any, .any], [⟨0, none⟩, ⟨0, none⟩, ⟨0, none⟩, ⟨1, some ⟨(.struct [(.struct [(.int .u32), (.blob 32), (.blob 32), (.int .u64)]), (.slice .str)]), .agg [.agg [.int o3_1, .blob o3_2, .blob o3_3, .int o3_4], .slice o3_5]⟩⟩, ⟨0, none⟩, ⟨0, none⟩, ⟨0, none⟩, ⟨0, none⟩, ⟨0, none⟩, ⟨0, none⟩, ⟨0, none⟩, ⟨0, none⟩, ⟨0, none⟩, ⟨0, none⟩, ⟨0, none⟩, ⟨0, none⟩, ⟨0, none⟩, ⟨0, none⟩, ⟨0, none⟩, ⟨0, none⟩, ⟨0, none⟩, ⟨0, none⟩, ⟨0, none⟩, ⟨0, none⟩, ⟨0, none⟩, ⟨0, none⟩, ⟨0, none⟩, ⟨0, none⟩, ⟨0, none⟩, ⟨0, none⟩, ⟨0, none⟩, ⟨0, none⟩, ⟨0, none⟩, ⟨0, none⟩, ⟨0, none⟩, ⟨0, none⟩, ⟨0, none⟩], List.replicate 37 0⟩
theorem f57_l0_eq (run : Run) (n : Nat) (k0 : Nat) (x22_1 : List AV) (x23_1 : Int) (x24_1 : Int) (o3_1 : Int) (o3_2 : List UInt8) (o3_3 : List UInt8) (o3_4 : Int) (o3_5 : List AV) : f57_l0 run n (k0 + 1) x22_1 x23_1 x24_1 o3_1 o3_2 o3_3 o3_4 o3_5 =
  bif ltI x24_1 x23_1 then
    bif inR x24_1 x22_1.length then
    bif inR x24_1 o3_5.length then
    bif !(eqS ((nth x22_1 (Int.toNat x24_1)).toStr) ((nth o3_5 (Int.toNat x24_1)).toStr)) then
    some ⟨[.bool false], [], f57_fresh⟩
  else
    f57_l0 run n k0 x22_1 x23_1 (IntKind.wrap .i64 (x24_1 + 1)) o3_1 o3_2 o3_3 o3_4 o3_5
  else none
  else none
  else
    some ⟨[.bool true], [], f57_fresh⟩ := by kernel_rfl
noncomputable def f57 (run : Run) (n : Nat) (a0_1 : Int) (a0_2 : List UInt8) (a0_3 : List UInt8) (a0_4 : Int) (a0_5 : List AV) (a1_1 : Int) (a1_2 : List UInt8) (a1_3 : List UInt8) (a1_4 : Int) (a1_5 : List AV) : Option Res := evalK G run n f57_info.keep 0 f57_info.body (retE G f57_info) (f57_info.start [.agg [.agg [.int a0_1, .blob a0_2, .blob a0_3, .int a0_4], .slice a0_5], .agg [.agg [.int a1_1, .blob a1_2, .blob a1_3, .int a1_4], .slice a1_5]])
theorem f57_eq (run : Run) (n : Nat) (a0_1 : Int) (a0_2 : List UInt8) (a0_3 : List UInt8) (a0_4 : Int) (a0_5 : List AV) (a1_1 : Int) (a1_2 : List UInt8) (a1_3 : List UInt8) (a1_4 : Int) (a1_5 : List AV) : f57 run n a0_1 a0_2 a0_3 a0_4 a0_5 a1_1 a1_2 a1_3 a1_4 a1_5 =
  bif !(eqI a0_1 a1_1 && (eqS a0_2 a1_2 && (eqS a0_3 a1_3 && (eqI a0_4 a1_4 && true)))) then
    some ⟨[.bool false], [], f57_fresh⟩
  else
    bif !(eqI (a0_5.length : Int) (a1_5.length : Int)) then
    some ⟨[.bool false], [], f57_fresh⟩
  else
    f57_l0 run n n a0_5 (a0_5.length : Int) 0 a1_1 a1_2 a1_3 a1_4 a1_5 := by kernel_rfl
theorem f57_run (ext : Run) (n : Nat) (a0_1 : Int) (a0_2 : List UInt8) (a0_3 : List UInt8) (a0_4 : Int) (a0_5 : List AV) (a1_1 : Int) (a1_2 : List UInt8) (a1_3 : List UInt8) (a1_4 : Int) (a1_5 : List AV) : runE G ext (n + 1) 57 [.agg [.agg [.int a0_1, .blob a0_2, .blob a0_3, .int a0_4], .slice a0_5], .agg [.agg [.int a1_1, .blob a1_2, .blob a1_3, .int a1_4], .slice a1_5]] = f57 (runE G ext n) n a0_1 a0_2 a0_3 a0_4 a0_5 a1_1 a1_2 a1_3 a1_4 a1_5 := runE_succ f57_at f57_in

noncomputable def f51 (run : Run) (n : Nat) : Option Res := evalK G run n f51_info.keep 0 f51_info.body (retE G f51_info) (f51_info.start [])
theorem f51_eq (run : Run) (n : Nat) : f51 run n  =
  (run 52 [.int 0, .slice [], .slice [], .int 5]).bind fun r1 =>
    nilV r1.outs (consV r1.vals fun v1 vs1 =>
    nilV vs1 (bif eqS (((v1.fld 0).fld 1).toBlob) (((v1.fld 0).fld 2).toBlob) then
    bif eqI (((v1.fld 0).fld 3).toInt) 5 then
    (run 55 [.agg [.agg [.int (((v1.fld 0).fld 0).toInt), .blob (((v1.fld 0).fld 1).toBlob), .blob (((v1.fld 0).fld 2).toBlob), .int (((v1.fld 0).fld 3).toInt)], .slice ((v1.fld 1).toSlice)], .int 0, .slice []]).bind fun r2 =>
    nilV r2.outs (consV r2.vals fun v2 vs2 =>
    nilV vs2 (bif eqI v2.toInt 0 then
    (run 55 [.agg [.agg [.int (((v1.fld 0).fld 0).toInt), .blob (((v1.fld 0).fld 1).toBlob), .blob (((v1.fld 0).fld 2).toBlob), .int (((v1.fld 0).fld 3).toInt)], .slice ((v1.fld 1).toSlice)], .int 1, .slice []]).bind fun r3 =>
    nilV r3.outs (consV r3.vals fun v3 vs3 =>
    nilV vs3 (bif eqI v3.toInt 8 then
    (run 57 [.agg [.agg [.int (((v1.fld 0).fld 0).toInt), .blob (((v1.fld 0).fld 1).toBlob), .blob (((v1.fld 0).fld 2).toBlob), .int (((v1.fld 0).fld 3).toInt)], .slice ((v1.fld 1).toSlice)], .agg [.agg [.int (((v1.fld 0).fld 0).toInt), .blob (((v1.fld 0).fld 1).toBlob), .blob (((v1.fld 0).fld 2).toBlob), .int (((v1.fld 0).fld 3).toInt)], .slice ((v1.fld 1).toSlice)]]).bind fun r4 =>
    nilV r4.outs (consV r4.vals fun v4 vs4 =>
    nilV vs4 (some ⟨[.bool v4.toBool], [], f51_fresh⟩))
  else
    some ⟨[.bool false], [], f51_fresh⟩))
  else
    some ⟨[.bool false], [], f51_fresh⟩))
  else
    some ⟨[.bool false], [], f51_fresh⟩
  else
    some ⟨[.bool false], [], f51_fresh⟩)) := by kernel_rfl
theorem f51_run (ext : Run) (n : Nat) : runE G ext (n + 1) 51 [] = f51 (runE G ext n) n  := runE_succ f51_at f51_in

noncomputable def f50_l0 (run : Run) (n : Nat) (k0 : Nat) (x0_1 : List AV) (x3_1 : Int) (x4_1 : Int) : Option Res :=
  iterK (evalK G run n f50_keep 0 (sub [1, 1, 0, 1, 0, 0] f50_body)) f50_t0 f50_o0 (blockK 0 (seqK (evalK G run n f50_keep 0 (sub [1, 1, 1] f50_body) (retE G f50_info)) (retE G f50_info))) k0
    ⟨[.val (.slice .str) none (.slice x0_1), .any, .any, .val (.int .i64) none (.int x3_1), .val (.int .i64) none (.int x4_1), .any, .any, .any, .any, .any, .any, .any, .any, .any, .any, .any, .any, .any, .any, .any, .any, .any, .any, .any, .any, .any, .any, .any, .any, .any, .any, .any, .any, .any, .any, .any, .any, .any, .any, .any, .any], [⟨0, none⟩, ⟨0, none⟩, ⟨0, none⟩, ⟨0, none⟩, ⟨0, none⟩, ⟨0, none⟩, ⟨0, none⟩, ⟨0, none⟩, ⟨0, none⟩, ⟨0, none⟩, ⟨0, none⟩, ⟨0, none⟩, ⟨0, none⟩, ⟨0, none⟩, ⟨0, none⟩, ⟨0, none⟩, ⟨0, none⟩, ⟨0, none⟩, ⟨0, none⟩, ⟨0, none⟩, ⟨0, none⟩, ⟨0, none⟩, ⟨0, none⟩, ⟨0, none⟩, ⟨0, none⟩, ⟨0, none⟩, ⟨0, none⟩, ⟨0, none⟩, ⟨0, none⟩, ⟨0, none⟩, ⟨0, none⟩, ⟨0, none⟩, ⟨0, none⟩, ⟨0, none⟩, ⟨0, none⟩, ⟨0, none⟩, ⟨0, none⟩, ⟨0, none⟩, ⟨0, none⟩, ⟨0, none⟩, ⟨0, none⟩], List.replicate 41 0⟩
theorem f50_l0_eq (run : Run) (n : Nat) (k0 : Nat) (x0_1 : List AV) (x3_1 : Int) (x4_1 : Int) : f50_l0 run n (k0 + 1) x0_1 x3_1 x4_1 =
  bif ltI x4_1 (x0_1.length : Int) then
    bif ltI x4_1 1100 then
    bif inR x4_1 x0_1.length then
    f50_l0 run n k0 x0_1 (mn2 (IntKind.wrap .i64 (IntKind.wrap .i64 (x3_1 + 1) + (((nth x0_1 (Int.toNat x4_1)).toStr).length : Int))) 1048576) (IntKind.wrap .i64 (x4_1 + 1))
  else none
  else
    bif ltI 60 (x0_1.length : Int) then
    bif leI (x0_1.length : Int) 1024 then
    some ⟨[.bool true], [], f50_fresh⟩
  else
    bif ltI 1050 (x0_1.length : Int) then
    some ⟨[.bool true], [], f50_fresh⟩
  else
    some ⟨[.bool (ltI 6000 x3_1)], [], f50_fresh⟩
  else
    bif ltI 1050 (x0_1.length : Int) then
    some ⟨[.bool true], [], f50_fresh⟩
  else
    some ⟨[.bool (ltI 6000 x3_1)], [], f50_fresh⟩
  else
    bif ltI 60 (x0_1.length : Int) then
    bif leI (x0_1.length : Int) 1024 then
    some ⟨[.bool true], [], f50_fresh⟩
  else
    bif ltI 1050 (x0_1.length : Int) then
    some ⟨[.bool true], [], f50_fresh⟩
  else
    some ⟨[.bool (ltI 6000 x3_1)], [], f50_fresh⟩
  else
    bif ltI 1050 (x0_1.length : Int) then
    some ⟨[.bool true], [], f50_fresh⟩
  else
    some ⟨[.bool (ltI 6000 x3_1)], [], f50_fresh⟩ := by kernel_rfl
noncomputable def f50 (run : Run) (n : Nat) (a0_1 : List AV) : Option Res := evalK G run n f50_info.keep 0 f50_info.body (retE G f50_info) (f50_info.start [.slice a0_1])
theorem f50_eq (run : Run) (n : Nat) (a0_1 : List AV) : f50 run n a0_1 =
  f50_l0 run n n a0_1 0 0 := by kernel_rfl
theorem f50_run (ext : Run) (n : Nat) (a0_1 : List AV) : runE G ext (n + 1) 50 [.slice a0_1] = f50 (runE G ext n) n a0_1 := runE_succ f50_at f50_in

noncomputable def f122 (run : Run) (n : Nat) (a0_1 : List UInt8) : Option Res := evalK G run n f122_info.keep 0 f122_info.body (retE G f122_info) (f122_info.start [.blob a0_1])
theorem f122_eq (run : Run) (n : Nat) (a0_1 : List UInt8) : f122 run n a0_1 =
  (run 103 [.blob a0_1]).bind fun r1 =>
    nilV r1.outs (consV r1.vals fun v1 vs1 =>
    nilV vs1 (bif Nat.ble (1 + v1.toStr.length) maxLen then
    some ⟨[.str ([76] ++ v1.toStr)], [], f122_fresh⟩
  else none)) := by kernel_rfl
theorem f122_run (ext : Run) (n : Nat) (a0_1 : List UInt8) : runE G ext (n + 1) 122 [.blob a0_1] = f122 (runE G ext n) n a0_1 := runE_succ f122_at f122_in

noncomputable def f109_l0 (run : Run) (n : Nat) (k0 : Nat) (x0_1 : List AV) (x3_1 : List AV) (x4_1 : Int) : Option Res :=
  iterK (evalK G run n f109_keep 0 (sub [1, 1, 0, 1, 0, 0] f109_body)) f109_t0 f109_o0 (blockK 0 (seqK (evalK G run n f109_keep 0 (sub [1, 1, 1] f109_body) (retE G f109_info)) (retE G f109_info))) k0
    ⟨[.val (.slice (.blob 32)) none (.slice x0_1), .any, .any, .val (.slice .str) (some (3, 0)) (.slice x3_1), .val (.int .i64) none (.int x4_1), .any, .any, .any, .any, .any, .any, .any, .any, .any, .any, .any, .any, .any, .any, .any], [⟨0, none⟩, ⟨0, none⟩, ⟨0, none⟩, ⟨0, none⟩, ⟨0, none⟩, ⟨0, none⟩, ⟨0, none⟩, ⟨0, none⟩, ⟨0, none⟩, ⟨0, none⟩, ⟨0, none⟩, ⟨0, none⟩, ⟨0, none⟩, ⟨0, none⟩, ⟨0, none⟩, ⟨0, none⟩, ⟨0, none⟩, ⟨0, none⟩, ⟨0, none⟩, ⟨0, none⟩], List.replicate 20 0⟩
theorem f109_l0_eq (run : Run) (n : Nat) (k0 : Nat) (x0_1 : List AV) (x3_1 : List AV) (x4_1 : Int) : f109_l0 run n (k0 + 1) x0_1 x3_1 x4_1 =
  bif ltI x4_1 (x0_1.length : Int) then
    bif inR x4_1 x0_1.length then
    (run 122 [.blob ((nth x0_1 (Int.toNat x4_1)).toBlob)]).bind fun r1 =>
    nilV r1.outs (consV r1.vals fun v1 vs1 =>
    nilV vs1 (bif Nat.ble ((x3_1.length + 1) * 16) 140737488355328 then
    f109_l0 run n k0 x0_1 (x3_1 ++ [.str v1.toStr]) (IntKind.wrap .i64 (x4_1 + 1))
  else none))
  else none
  else
    some ⟨[.slice x3_1], [], f109_fresh⟩ := by kernel_rfl
noncomputable def f109 (run : Run) (n : Nat) (a0_1 : List AV) : Option Res := evalK G run n f109_info.keep 0 f109_info.body (retE G f109_info) (f109_info.start [.slice a0_1])
theorem f109_eq (run : Run) (n : Nat) (a0_1 : List AV) : f109 run n a0_1 =
  f109_l0 run n n a0_1 [] 0 := by kernel_rfl
theorem f109_run (ext : Run) (n : Nat) (a0_1 : List AV) : runE G ext (n + 1) 109 [.slice a0_1] = f109 (runE G ext n) n a0_1 := runE_succ f109_at f109_in

noncomputable def f85 (run : Run) (n : Nat) (a0_1 : List AV) : Option Res := evalK G run n f85_info.keep 0 f85_info.body (retE G f85_info) (f85_info.start [.slice a0_1])
theorem f85_eq (run : Run) (n : Nat) (a0_1 : List AV) : f85 run n a0_1 =
  (run 109 [.slice a0_1]).bind fun r1 =>
    bif r1.fresh then
    nilV r1.outs (consV r1.vals fun v1 vs1 =>
    nilV vs1 ((run 21 [.slice v1.toSlice]).bind fun r2 =>
    nilV r2.outs (consV r2.vals fun v2 vs2 =>
    nilV vs2 (some ⟨[.blob v2.toBlob], [], f85_fresh⟩))))
  else none := by kernel_rfl
theorem f85_run (ext : Run) (n : Nat) (a0_1 : List AV) : runE G ext (n + 1) 85 [.slice a0_1] = f85 (runE G ext n) n a0_1 := runE_succ f85_at f85_in

noncomputable def f110_l0 (run : Run) (n : Nat) (k0 : Nat) (x0_1 : List AV) (x3_1 : List AV) (x4_1 : Int) : Option Res :=
  iterK (evalK G run n f110_keep 0 (sub [1, 1, 0, 1, 0, 0] f110_body)) f110_t0 f110_o0 (blockK 0 (seqK (evalK G run n f110_keep 0 (sub [1, 1, 1] f110_body) (retE G f110_info)) (retE G f110_info))) k0
    ⟨[.val (.slice .str) none (.slice x0_1), .any, .any, .val (.slice .str) (some (3, 0)) (.slice x3_1), .val (.int .i64) none (.int x4_1), .any, .any, .any, .any, .any, .any, .any, .any, .any, .any, .any, .any, .any, .any, .any], [⟨0, none⟩, ⟨0, none⟩, ⟨0, none⟩, ⟨0, none⟩, ⟨0, none⟩, ⟨0, none⟩, ⟨0, none⟩, ⟨0, none⟩, ⟨0, none⟩, ⟨0, none⟩, ⟨0, none⟩, ⟨0, none⟩, ⟨0, none⟩, ⟨0, none⟩, ⟨0, none⟩, ⟨0, none⟩, ⟨0, none⟩, ⟨0, none⟩, ⟨0, none⟩, ⟨0, none⟩], List.replicate 20 0⟩
theorem f110_l0_eq (run : Run) (n : Nat) (k0 : Nat) (x0_1 : List AV) (x3_1 : List AV) (x4_1 : Int) : f110_l0 run n (k0 + 1) x0_1 x3_1 x4_1 =
  bif ltI x4_1 (x0_1.length : Int) then
    bif inR x4_1 x0_1.length then
    bif Nat.ble (1 + ((nth x0_1 (Int.toNat x4_1)).toStr).length) maxLen then
    bif Nat.ble ((x3_1.length + 1) * 16) 140737488355328 then
    f110_l0 run n k0 x0_1 (x3_1 ++ [.str ([84] ++ ((nth x0_1 (Int.toNat x4_1)).toStr))]) (IntKind.wrap .i64 (x4_1 + 1))
  else none
  else none
  else none
  else
    some ⟨[.slice x3_1], [], f110_fresh⟩ := by kernel_rfl
noncomputable def f110 (run : Run) (n : Nat) (a0_1 : List AV) : Option Res := evalK G run n f110_info.keep 0 f110_info.body (retE G f110_info) (f110_info.start [.slice a0_1])
theorem f110_eq (run : Run) (n : Nat) (a0_1 : List AV) : f110 run n a0_1 =
  f110_l0 run n n a0_1 [] 0 := by kernel_rfl
theorem f110_run (ext : Run) (n : Nat) (a0_1 : List AV) : runE G ext (n + 1) 110 [.slice a0_1] = f110 (runE G ext n) n a0_1 := runE_succ f110_at f110_in

noncomputable def f86 (run : Run) (n : Nat) (a0_1 : List AV) : Option Res := evalK G run n f86_info.keep 0 f86_info.body (retE G f86_info) (f86_info.start [.slice a0_1])
theorem f86_eq (run : Run) (n : Nat) (a0_1 : List AV) : f86 run n a0_1 =
  (run 110 [.slice a0_1]).bind fun r1 =>
    bif r1.fresh then
    nilV r1.outs (consV r1.vals fun v1 vs1 =>
    nilV vs1 ((run 21 [.slice v1.toSlice]).bind fun r2 =>
    nilV r2.outs (consV r2.vals fun v2 vs2 =>
    nilV vs2 (some ⟨[.blob v2.toBlob], [], f86_fresh⟩))))
  else none := by kernel_rfl
theorem f86_run (ext : Run) (n : Nat) (a0_1 : List AV) : runE G ext (n + 1) 86 [.slice a0_1] = f86 (runE G ext n) n a0_1 := runE_succ f86_at f86_in

noncomputable def f54 (run : Run) (n : Nat) (a0_1 : Int) (a1_1 : List AV) (a2_1 : List AV) (a3_1 : Int) : Option Res := evalK G run n f54_info.keep 0 f54_info.body (retE G f54_info) (f54_info.start [.int a0_1, .slice a1_1, .slice a2_1, .int a3_1])
theorem f54_eq (run : Run) (n : Nat) (a0_1 : Int) (a1_1 : List AV) (a2_1 : List AV) (a3_1 : Int) : f54 run n a0_1 a1_1 a2_1 a3_1 =
  (run 85 [.slice a1_1]).bind fun r1 =>
    nilV r1.outs (consV r1.vals fun v1 vs1 =>
    nilV vs1 ((run 86 [.slice a2_1]).bind fun r2 =>
    nilV r2.outs (consV r2.vals fun v2 vs2 =>
    nilV vs2 (some ⟨[.agg [.int a0_1, .blob v1.toBlob, .blob v2.toBlob, .int a3_1]], [], f54_fresh⟩)))) := by kernel_rfl
theorem f54_run (ext : Run) (n : Nat) (a0_1 : Int) (a1_1 : List AV) (a2_1 : List AV) (a3_1 : Int) : runE G ext (n + 1) 54 [.int a0_1, .slice a1_1, .slice a2_1, .int a3_1] = f54 (runE G ext n) n a0_1 a1_1 a2_1 a3_1 := runE_succ f54_at f54_in

noncomputable def f53_l0 (run : Run) (n : Nat) (k0 : Nat) (x5_1 : Int) (o2_1 : Int) (o2_2 : List UInt8) (o2_3 : List UInt8) (o2_4 : Int) (o2_5 : List AV) (o3_1 : Int) (o3_2 : List UInt8) (o3_3 : List UInt8) (o3_4 : Int) (o3_5 : List AV) : Option Res :=
  iterK (evalK G run n f53_keep 0 (sub [1, 1, 0, 1, 0, 0] f53_body)) f53_t0 f53_o0 (blockK 0 (seqK (evalK G run n f53_keep 0 (sub [1, 1, 1] f53_body) (retE G f53_info)) (retE G f53_info))) k0
    ⟨[.any, .any, .ptr ⟨(.struct [(.struct [(.int .u32), (.blob 32), (.blob 32), (.int .u64)]), (.slice .str)]), 2, 1, []⟩, .ptr ⟨(.struct [(.struct [(.int .u32), (.blob 32), (.blob 32), (.int .u64)]), (.slice .str)]), 3, 1, []⟩, .any, .val (.int .i64) none (.int x5_1), .any, .any, .any, .any, .any, .any, .any, .any, .any, .any, .any, .any, .any, .any, .any, .any, .any, .any, .any, .any, .any, .any, .any, .any, .any, .any, .any, .any, .any, .any, .any, .any], [⟨0, none⟩, ⟨0, none⟩, ⟨1, some ⟨(.struct [(.struct [(.int .u32), (.blob 32), (.blob 32), (.int .u64)]), (.slice .str)]), .agg [.agg [.int o2_1, .blob o2_2, .blob o2_3, .int o2_4], .slice o2_5]⟩⟩, ⟨1, some ⟨(.struct [(.struct [(.int .u32), (.blob 32), (.blob 32), (.int .u64)]), (.slice .str)]), .agg [.agg [.int o3_1, .blob o3_2, .blob o3_3, .int o3_4], .slice o3_5]⟩⟩, ⟨0, none⟩, ⟨0, none⟩, ⟨0, none⟩, ⟨0, none⟩, ⟨0, none⟩, ⟨0, none⟩, ⟨0, none⟩, ⟨0, none⟩, ⟨0, none⟩, ⟨0, none⟩, ⟨0, none⟩, ⟨0, none⟩, ⟨0, none⟩, ⟨0, none⟩, ⟨0, none⟩, ⟨0, none⟩, ⟨0, none⟩, ⟨0, none⟩, ⟨0, none⟩, ⟨0, none⟩, ⟨0, none⟩, ⟨0, none⟩, ⟨0, none⟩, ⟨0, none⟩, ⟨0, none⟩, ⟨0, none⟩, ⟨0, none⟩, ⟨0, none⟩, ⟨0, none⟩, ⟨0, none⟩, ⟨0, none⟩, ⟨0, none⟩, ⟨0, none⟩, ⟨0, none⟩], List.replicate 38 0⟩
theorem f53_l0_eq (run : Run) (n : Nat) (k0 : Nat) (x5_1 : Int) (o2_1 : Int) (o2_2 : List UInt8) (o2_3 : List UInt8) (o2_4 : Int) (o2_5 : List AV) (o3_1 : Int) (o3_2 : List UInt8) (o3_3 : List UInt8) (o3_4 : Int) (o3_5 : List AV) : f53_l0 run n (k0 + 1) x5_1 o2_1 o2_2 o2_3 o2_4 o2_5 o3_1 o3_2 o3_3 o3_4 o3_5 =
  bif ltI x5_1 (o2_5.length : Int) then
    bif inR x5_1 o2_5.length then
    bif inR x5_1 o3_5.length then
    bif !(eqS ((nth o2_5 (Int.toNat x5_1)).toStr) ((nth o3_5 (Int.toNat x5_1)).toStr)) then
    some ⟨[.bool false], [], f53_fresh⟩
  else
    f53_l0 run n k0 (IntKind.wrap .i64 (x5_1 + 1)) o2_1 o2_2 o2_3 o2_4 o2_5 o3_1 o3_2 o3_3 o3_4 o3_5
  else none
  else none
  else
    some ⟨[.bool true], [], f53_fresh⟩ := by kernel_rfl
noncomputable def f53 (run : Run) (n : Nat) (a0_1 : Int) (a0_2 : List UInt8) (a0_3 : List UInt8) (a0_4 : Int) (a0_5 : List AV) (a1_1 : Int) (a1_2 : List UInt8) (a1_3 : List UInt8) (a1_4 : Int) (a1_5 : List AV) : Option Res := evalK G run n f53_info.keep 0 f53_info.body (retE G f53_info) (f53_info.start [.agg [.agg [.int a0_1, .blob a0_2, .blob a0_3, .int a0_4], .slice a0_5], .agg [.agg [.int a1_1, .blob a1_2, .blob a1_3, .int a1_4], .slice a1_5]])
theorem f53_eq (run : Run) (n : Nat) (a0_1 : Int) (a0_2 : List UInt8) (a0_3 : List UInt8) (a0_4 : Int) (a0_5 : List AV) (a1_1 : Int) (a1_2 : List UInt8) (a1_3 : List UInt8) (a1_4 : Int) (a1_5 : List AV) : f53 run n a0_1 a0_2 a0_3 a0_4 a0_5 a1_1 a1_2 a1_3 a1_4 a1_5 =
  bif !(eqI a0_1 a1_1 && (eqS a0_2 a1_2 && (eqS a0_3 a1_3 && (eqI a0_4 a1_4 && true)))) then
    some ⟨[.bool false], [], f53_fresh⟩
  else
    bif !(eqI (a0_5.length : Int) (a1_5.length : Int)) then
    some ⟨[.bool false], [], f53_fresh⟩
  else
    f53_l0 run n n 0 a0_1 a0_2 a0_3 a0_4 a0_5 a1_1 a1_2 a1_3 a1_4 a1_5 := by kernel_rfl
theorem f53_run (ext : Run) (n : Nat) (a0_1 : Int) (a0_2 : List UInt8) (a0_3 : List UInt8) (a0_4 : Int) (a0_5 : List AV) (a1_1 : Int) (a1_2 : List UInt8) (a1_3 : List UInt8) (a1_4 : Int) (a1_5 : List AV) : runE G ext (n + 1) 53 [.agg [.agg [.int a0_1, .blob a0_2, .blob a0_3, .int a0_4], .slice a0_5], .agg [.agg [.int a1_1, .blob a1_2, .blob a1_3, .int a1_4], .slice a1_5]] = f53 (runE G ext n) n a0_1 a0_2 a0_3 a0_4 a0_5 a1_1 a1_2 a1_3 a1_4 a1_5 := runE_succ f53_at f53_in

noncomputable def f11 (run : Run) (n : Nat) (a0_1 : Int) (a0_2 : List AV) (a0_3 : List AV) (a0_4 : Int) : Option Res := evalK G run n f11_info.keep 0 f11_info.body (retE G f11_info) (f11_info.start [.agg [.int a0_1, .slice a0_2, .slice a0_3, .int a0_4]])
theorem f11_eq (run : Run) (n : Nat) (a0_1 : Int) (a0_2 : List AV) (a0_3 : List AV) (a0_4 : Int) : f11 run n a0_1 a0_2 a0_3 a0_4 =
  bif ltI 60 (a0_2.length : Int) then
    (run 51 []).bind fun r1 =>
    nilV r1.outs (consV r1.vals fun v1 vs1 =>
    nilV vs1 (some ⟨[.bool v1.toBool], [], f11_fresh⟩))
  else
    bif ltI 60 (a0_3.length : Int) then
    (run 51 []).bind fun r2 =>
    nilV r2.outs (consV r2.vals fun v2 vs2 =>
    nilV vs2 (some ⟨[.bool v2.toBool], [], f11_fresh⟩))
  else
    (run 50 [.slice a0_3]).bind fun r3 =>
    nilV r3.outs (consV r3.vals fun v3 vs3 =>
    nilV vs3 (bif v3.toBool then
    (run 51 []).bind fun r4 =>
    nilV r4.outs (consV r4.vals fun v4 vs4 =>
    nilV vs4 (some ⟨[.bool v4.toBool], [], f11_fresh⟩))
  else
    (run 52 [.int a0_1, .slice a0_2, .slice a0_3, .int a0_4]).bind fun r5 =>
    nilV r5.outs (consV r5.vals fun v5 vs5 =>
    nilV vs5 ((run 54 [.int a0_1, .slice a0_2, .slice a0_3, .int a0_4]).bind fun r6 =>
    nilV r6.outs (consV r6.vals fun v6 vs6 =>
    nilV vs6 ((run 53 [.agg [.agg [.int (((v5.fld 0).fld 0).toInt), .blob (((v5.fld 0).fld 1).toBlob), .blob (((v5.fld 0).fld 2).toBlob), .int (((v5.fld 0).fld 3).toInt)], .slice ((v5.fld 1).toSlice)], .agg [.agg [.int ((v6.fld 0).toInt), .blob ((v6.fld 1).toBlob), .blob ((v6.fld 2).toBlob), .int ((v6.fld 3).toInt)], .slice a0_3]]).bind fun r7 =>
    nilV r7.outs (consV r7.vals fun v7 vs7 =>
    nilV vs7 (bif v7.toBool then
    (run 51 []).bind fun r8 =>
    nilV r8.outs (consV r8.vals fun v8 vs8 =>
    nilV vs8 (some ⟨[.bool v8.toBool], [], f11_fresh⟩))
  else
    some ⟨[.bool false], [], f11_fresh⟩)))))))) := by kernel_rfl
theorem f11_run (ext : Run) (n : Nat) (a0_1 : Int) (a0_2 : List AV) (a0_3 : List AV) (a0_4 : Int) : runE G ext (n + 1) 11 [.agg [.int a0_1, .slice a0_2, .slice a0_3, .int a0_4]] = f11 (runE G ext n) n a0_1 a0_2 a0_3 a0_4 := runE_succ f11_at f11_in

noncomputable def f88_l0 (run : Run) (n : Nat) (k0 : Nat) (x0_1 : List AV) (x3_1 : Int) : Option Res :=
  iterK (evalK G run n f88_keep 0 (sub [1, 1, 0, 1, 0, 0] f88_body)) f88_t0 f88_o0 (blockK 0 (seqK (evalK G run n f88_keep 0 (sub [1, 1, 1] f88_body) (retE G f88_info)) (retE G f88_info))) k0
    ⟨[.val (.slice .str) none (.slice x0_1), .any, .any, .val (.int .i64) none (.int x3_1), .any, .any, .any, .any, .any, .any, .any, .any, .any, .any, .any, .any, .any, .any, .any], [⟨0, none⟩, ⟨0, none⟩, ⟨0, none⟩, ⟨0, none⟩, ⟨0, none⟩, ⟨0, none⟩, ⟨0, none⟩, ⟨0, none⟩, ⟨0, none⟩, ⟨0, none⟩, ⟨0, none⟩, ⟨0, none⟩, ⟨0, none⟩, ⟨0, none⟩, ⟨0, none⟩, ⟨0, none⟩, ⟨0, none⟩, ⟨0, none⟩, ⟨0, none⟩], List.replicate 19 0⟩
theorem f88_l0_eq (run : Run) (n : Nat) (k0 : Nat) (x0_1 : List AV) (x3_1 : Int) : f88_l0 run n (k0 + 1) x0_1 x3_1 =
  bif ltI x3_1 (x0_1.length : Int) then
    bif inR x3_1 x0_1.length then
    bif ltI 4096 (((nth x0_1 (Int.toNat x3_1)).toStr).length : Int) then
    some ⟨[.int 4], [], f88_fresh⟩
  else
    f88_l0 run n k0 x0_1 (IntKind.wrap .i64 (x3_1 + 1))
  else none
  else
    some ⟨[.int 0], [], f88_fresh⟩ := by kernel_rfl
noncomputable def f88 (run : Run) (n : Nat) (a0_1 : List AV) : Option Res := evalK G run n f88_info.keep 0 f88_info.body (retE G f88_info) (f88_info.start [.slice a0_1])
theorem f88_eq (run : Run) (n : Nat) (a0_1 : List AV) : f88 run n a0_1 =
  bif ltI 1024 (a0_1.length : Int) then
    some ⟨[.int 4], [], f88_fresh⟩
  else
    f88_l0 run n n a0_1 0 := by kernel_rfl
theorem f88_run (ext : Run) (n : Nat) (a0_1 : List AV) : runE G ext (n + 1) 88 [.slice a0_1] = f88 (runE G ext n) n a0_1 := runE_succ f88_at f88_in

noncomputable def f56 (run : Run) (n : Nat) (a0_1 : Int) (a0_2 : List UInt8) (a0_3 : List UInt8) (a0_4 : Int) (a0_5 : List AV) (a1_1 : Int) (a2_1 : List AV) : Option Res := evalK G run n f56_info.keep 0 f56_info.body (retE G f56_info) (f56_info.start [.agg [.agg [.int a0_1, .blob a0_2, .blob a0_3, .int a0_4], .slice a0_5], .int a1_1, .slice a2_1])
theorem f56_eq (run : Run) (n : Nat) (a0_1 : Int) (a0_2 : List UInt8) (a0_3 : List UInt8) (a0_4 : Int) (a0_5 : List AV) (a1_1 : Int) (a2_1 : List AV) : f56 run n a0_1 a0_2 a0_3 a0_4 a0_5 a1_1 a2_1 =
  bif !(eqI a0_1 a1_1) then
    some ⟨[.int 8], [], f56_fresh⟩
  else
    (run 88 [.slice a0_5]).bind fun r1 =>
    nilV r1.outs (consV r1.vals fun v1 vs1 =>
    nilV vs1 (bif !(eqI v1.toInt 0) then
    some ⟨[.int v1.toInt], [], f56_fresh⟩
  else
    (run 85 [.slice a2_1]).bind fun r2 =>
    nilV r2.outs (consV r2.vals fun v2 vs2 =>
    nilV vs2 (bif !(eqS a0_2 v2.toBlob) then
    some ⟨[.int 12], [], f56_fresh⟩
  else
    (run 86 [.slice a0_5]).bind fun r3 =>
    nilV r3.outs (consV r3.vals fun v3 vs3 =>
    nilV vs3 (bif !(eqS a0_3 v3.toBlob) then
    some ⟨[.int 12], [], f56_fresh⟩
  else
    some ⟨[.int 0], [], f56_fresh⟩)))))) := by kernel_rfl
theorem f56_run (ext : Run) (n : Nat) (a0_1 : Int) (a0_2 : List UInt8) (a0_3 : List UInt8) (a0_4 : Int) (a0_5 : List AV) (a1_1 : Int) (a2_1 : List AV) : runE G ext (n + 1) 56 [.agg [.agg [.int a0_1, .blob a0_2, .blob a0_3, .int a0_4], .slice a0_5], .int a1_1, .slice a2_1] = f56 (runE G ext n) n a0_1 a0_2 a0_3 a0_4 a0_5 a1_1 a2_1 := runE_succ f56_at f56_in

noncomputable def f12 (run : Run) (n : Nat) (a0_1 : List AV) (a1_1 : Int) (a2_1 : List AV) : Option Res := evalK G run n f12_info.keep 0 f12_info.body (retE G f12_info) (f12_info.start [.agg a0_1, .int a1_1, .slice a2_1])
theorem f12_eq (run : Run) (n : Nat) (a0_1 : List AV) (a1_1 : Int) (a2_1 : List AV) : f12 run n a0_1 a1_1 a2_1 =
  bif ltI 60 (a2_1.length : Int) then
    (run 51 []).bind fun r1 =>
    nilV r1.outs (consV r1.vals fun v1 vs1 =>
    nilV vs1 (some ⟨[.bool v1.toBool], [], f12_fresh⟩))
  else
    (run 50 [.slice (((AV.fld (.agg a0_1) 0).fld 1).toSlice)]).bind fun r2 =>
    nilV r2.outs (consV r2.vals fun v2 vs2 =>
    nilV vs2 (bif v2.toBool then
    (run 51 []).bind fun r3 =>
    nilV r3.outs (consV r3.vals fun v3 vs3 =>
    nilV vs3 (some ⟨[.bool v3.toBool], [], f12_fresh⟩))
  else
    (run 50 [.slice (((AV.fld (.agg a0_1) 1).fld 1).toSlice)]).bind fun r4 =>
    nilV r4.outs (consV r4.vals fun v4 vs4 =>
    nilV vs4 (bif v4.toBool then
    (run 51 []).bind fun r5 =>
    nilV r5.outs (consV r5.vals fun v5 vs5 =>
    nilV vs5 (some ⟨[.bool v5.toBool], [], f12_fresh⟩))
  else
    (run 55 [.agg [.agg [.int ((((AV.fld (.agg a0_1) 0).fld 0).fld 0).toInt), .blob ((((AV.fld (.agg a0_1) 0).fld 0).fld 1).toBlob), .blob ((((AV.fld (.agg a0_1) 0).fld 0).fld 2).toBlob), .int ((((AV.fld (.agg a0_1) 0).fld 0).fld 3).toInt)], .slice (((AV.fld (.agg a0_1) 0).fld 1).toSlice)], .int a1_1, .slice a2_1]).bind fun r6 =>
    nilV r6.outs (consV r6.vals fun v6 vs6 =>
    nilV vs6 ((run 56 [.agg [.agg [.int ((((AV.fld (.agg a0_1) 0).fld 0).fld 0).toInt), .blob ((((AV.fld (.agg a0_1) 0).fld 0).fld 1).toBlob), .blob ((((AV.fld (.agg a0_1) 0).fld 0).fld 2).toBlob), .int ((((AV.fld (.agg a0_1) 0).fld 0).fld 3).toInt)], .slice (((AV.fld (.agg a0_1) 0).fld 1).toSlice)], .int a1_1, .slice a2_1]).bind fun r7 =>
    nilV r7.outs (consV r7.vals fun v7 vs7 =>
    nilV vs7 (bif eqI v6.toInt v7.toInt then
    (run 57 [.agg [.agg [.int ((((AV.fld (.agg a0_1) 0).fld 0).fld 0).toInt), .blob ((((AV.fld (.agg a0_1) 0).fld 0).fld 1).toBlob), .blob ((((AV.fld (.agg a0_1) 0).fld 0).fld 2).toBlob), .int ((((AV.fld (.agg a0_1) 0).fld 0).fld 3).toInt)], .slice (((AV.fld (.agg a0_1) 0).fld 1).toSlice)], .agg [.agg [.int ((((AV.fld (.agg a0_1) 1).fld 0).fld 0).toInt), .blob ((((AV.fld (.agg a0_1) 1).fld 0).fld 1).toBlob), .blob ((((AV.fld (.agg a0_1) 1).fld 0).fld 2).toBlob), .int ((((AV.fld (.agg a0_1) 1).fld 0).fld 3).toInt)], .slice (((AV.fld (.agg a0_1) 1).fld 1).toSlice)]]).bind fun r8 =>
    nilV r8.outs (consV r8.vals fun v8 vs8 =>
    nilV vs8 ((run 53 [.agg [.agg [.int ((((AV.fld (.agg a0_1) 0).fld 0).fld 0).toInt), .blob ((((AV.fld (.agg a0_1) 0).fld 0).fld 1).toBlob), .blob ((((AV.fld (.agg a0_1) 0).fld 0).fld 2).toBlob), .int ((((AV.fld (.agg a0_1) 0).fld 0).fld 3).toInt)], .slice (((AV.fld (.agg a0_1) 0).fld 1).toSlice)], .agg [.agg [.int ((((AV.fld (.agg a0_1) 1).fld 0).fld 0).toInt), .blob ((((AV.fld (.agg a0_1) 1).fld 0).fld 1).toBlob), .blob ((((AV.fld (.agg a0_1) 1).fld 0).fld 2).toBlob), .int ((((AV.fld (.agg a0_1) 1).fld 0).fld 3).toInt)], .slice (((AV.fld (.agg a0_1) 1).fld 1).toSlice)]]).bind fun r9 =>
    nilV r9.outs (consV r9.vals fun v9 vs9 =>
    nilV vs9 (bif eqO v8.toBool v9.toBool then
    (run 57 [.agg [.agg [.int ((((AV.fld (.agg a0_1) 0).fld 0).fld 0).toInt), .blob ((((AV.fld (.agg a0_1) 0).fld 0).fld 1).toBlob), .blob ((((AV.fld (.agg a0_1) 0).fld 0).fld 2).toBlob), .int ((((AV.fld (.agg a0_1) 0).fld 0).fld 3).toInt)], .slice (((AV.fld (.agg a0_1) 0).fld 1).toSlice)], .agg [.agg [.int ((((AV.fld (.agg a0_1) 0).fld 0).fld 0).toInt), .blob ((((AV.fld (.agg a0_1) 0).fld 0).fld 1).toBlob), .blob ((((AV.fld (.agg a0_1) 0).fld 0).fld 2).toBlob), .int ((((AV.fld (.agg a0_1) 0).fld 0).fld 3).toInt)], .slice (((AV.fld (.agg a0_1) 0).fld 1).toSlice)]]).bind fun r10 =>
    nilV r10.outs (consV r10.vals fun v10 vs10 =>
    nilV vs10 (bif v10.toBool then
    (run 51 []).bind fun r11 =>
    nilV r11.outs (consV r11.vals fun v11 vs11 =>
    nilV vs11 (some ⟨[.bool v11.toBool], [], f12_fresh⟩))
  else
    some ⟨[.bool false], [], f12_fresh⟩))
  else
    some ⟨[.bool false], [], f12_fresh⟩))))
  else
    some ⟨[.bool false], [], f12_fresh⟩)))))))) := by kernel_rfl
theorem f12_run (ext : Run) (n : Nat) (a0_1 : List AV) (a1_1 : Int) (a2_1 : List AV) : runE G ext (n + 1) 12 [.agg a0_1, .int a1_1, .slice a2_1] = f12 (runE G ext n) n a0_1 a1_1 a2_1 := runE_succ f12_at f12_in

end Go.Proofs.Ytcpdiahbdmcdcaa.Ev
