/- What the evaluator does with the functions, as programs over plain values: printed by gen.py, checked by the kernel. -/
import Derived.Test.YtddcooedbibehaaGreatEvFA
namespace Go.Proofs.YtddcooedbibehaaGreat.Ev
open Go Go.RowKit
set_option maxRecDepth 100000


noncomputable def f41_l0 (run : Run) (n : Nat) (k0 : Nat) (x0_1 : List AV) (x3_1 : Int) (x4_1 : Int) : Option Res :=
  iterK (evalK G run n f41_keep 0 (sub [1, 1, 0, 1, 0, 0] f41_body)) f41_t0 f41_o0 (blockK 0 (seqK (evalK G run n f41_keep 0 (sub [1, 1, 1] f41_body) (retE G f41_info)) (retE G f41_info))) k0
    ⟨[.val (.slice (.struct [(.struct [(.int .u32), (.blob 32), (.blob 32), (.int .u64)]), (.struct [(.int .i64), (.int .i64), (.slice (.blob 32))])])) none (.slice x0_1), .any, .any, .val (.int .i64) none (.int x3_1), .val (.int .i64) none (.int x4_1), .any, .any, .any, .any, .any, .any, .any, .any, .any, .any, .any, .any, .any, .any, .any, .any, .any, .any, .any, .any, .any, .any, .any, .any, .any, .any, .any, .any, .any, .any, .any, .any, .any, .any, .any], [⟨0, none⟩, ⟨0, none⟩, ⟨0, none⟩, ⟨0, none⟩, ⟨0, none⟩, ⟨0, none⟩, ⟨0, none⟩, ⟨0, none⟩, ⟨0, none⟩, ⟨0, none⟩, ⟨0, none⟩, ⟨0, none⟩, ⟨0, none⟩, ⟨0, none⟩, ⟨0, none⟩, ⟨0, none⟩, ⟨0, none⟩, ⟨0, none⟩, ⟨0, none⟩, ⟨0, none⟩, ⟨0, none⟩, ⟨0, none⟩, ⟨0, none⟩, ⟨0, none⟩, ⟨0, none⟩, ⟨0, none⟩, ⟨0, none⟩, ⟨0, none⟩, ⟨0, none⟩, ⟨0, none⟩, ⟨0, none⟩, ⟨0, none⟩, ⟨0, none⟩, ⟨0, none⟩, ⟨0, none⟩, ⟨0, none⟩, ⟨0, none⟩, ⟨0, none⟩, ⟨0, none⟩, ⟨0, none⟩], List.replicate 40 0⟩
theorem f41_l0_eq (run : Run) (n : Nat) (k0 : Nat) (x0_1 : List AV) (x3_1 : Int) (x4_1 : Int) : f41_l0 run n (k0 + 1) x0_1 x3_1 x4_1 =
  bif ltI x4_1 (x0_1.length : Int) then
    bif inR x4_1 x0_1.length then
    bif !(eqI ((((nth x0_1 (Int.toNat x4_1)).fld 1).fld 0).toInt) 0) then
    f41_l0 run n k0 x0_1 0 (IntKind.wrap .i64 (x4_1 + 1))
  else
    bif inR x4_1 x0_1.length then
    bif inR (IntKind.wrap .i64 (x4_1 - 1)) x0_1.length then
    bif !(eqI (IntKind.wrap .u64 ((((nth x0_1 (Int.toNat x4_1)).fld 0).fld 0).toInt)) (IntKind.wrap .u64 (IntKind.wrap .u64 ((((nth x0_1 (Int.toNat (IntKind.wrap .i64 (x4_1 - 1)))).fld 0).fld 0).toInt) + 1))) then
    f41_l0 run n k0 x0_1 0 (IntKind.wrap .i64 (x4_1 + 1))
  else
    f41_l0 run n k0 x0_1 (IntKind.wrap .i64 (x3_1 + 1)) (IntKind.wrap .i64 (x4_1 + 1))
  else none
  else none
  else none
  else
    some ⟨[.int x3_1], [], f41_fresh⟩ := by kernel_rfl
noncomputable def f41 (run : Run) (n : Nat) (a0_1 : List AV) : Option Res := evalK G run n f41_info.keep 0 f41_info.body (retE G f41_info) (f41_info.start [.slice a0_1])
theorem f41_eq (run : Run) (n : Nat) (a0_1 : List AV) : f41 run n a0_1 =
  f41_l0 run n n a0_1 0 1 := by kernel_rfl
theorem f41_run (ext : Run) (n : Nat) (a0_1 : List AV) : runE G ext (n + 1) 41 [.slice a0_1] = f41 (runE G ext n) n a0_1 := runE_succ f41_at f41_in

noncomputable def f10_l0 (run : Run) (n : Nat) (k0 : Nat) (x1_1 : List AV) (x2_1 : Int) (x2_2 : List UInt8) (x2_3 : List UInt8) (x2_4 : Int) (x2_5 : List UInt8) (x2_6 : Int) (x2_7 : Int) (x2_8 : Int) (x2_9 : Int) (x2_10 : Int) (x2_11 : Int) (x6_1 : Int) (o4_1 : Int) (o4_2 : Int) : Option Res :=
  iterK (evalK G run n f10_keep 0 (sub [1, 1, 1, 0, 1, 0, 0] f10_body)) f10_t0 f10_o0 (blockK 0 (seqK (evalK G run n f10_keep 0 (sub [1, 1, 1, 1] f10_body) (retE G f10_info)) (retE G f10_info))) k0
    ⟨[.any, .val (.slice (.struct [(.struct [(.int .u32), (.blob 32), (.blob 32), (.int .u64)]), (.struct [(.int .i64), (.int .i64), (.slice (.blob 32))])])) none (.slice x1_1), .val (.pat (.struct [(.struct [(.int .u32), (.blob 32), (.blob 32), (.int .u64)]), (.blob 32), (.int .i64), (.int .i64), (.int .i64), (.int .i64), (.int .i64), (.int .i64)])) none (.agg [.agg [.int x2_1, .blob x2_2, .blob x2_3, .int x2_4], .blob x2_5, .int x2_6, .int x2_7, .int x2_8, .int x2_9, .int x2_10, .int x2_11]), .any, .ptr ⟨(.struct [(.int .i64), (.int .i64)]), 4, 1, []⟩, .any, .val (.int .i64) none (.int x6_1), .any, .any, .any, .any, .any, .any, .any, .any, .any, .any, .any, .any, .any, .any, .any, .any, .any, .any, .any, .any, .any, .any, .any, .any, .any, .any, .any, .any, .any, .any, .any, .any, .any, .any, .any, .any, .any, .any, .any, .any, .any, .any, .any, .any, .any, .any, .any, .any, .any, .any, .any, .any, .any, .any, .any, .any, .any, .any, .any, .any, .any, .any, .any, .any, .any, .any, .any, .any, .any, .any, .any, .any, .any], [⟨0, none⟩, ⟨0, none⟩, ⟨0, none⟩, ⟨0, none⟩, ⟨1, some ⟨(.struct [(.int .i64), (.int .i64)]), .agg [.int o4_1, .int o4_2]⟩⟩, ⟨0, none⟩, ⟨0, none⟩, ⟨0, none⟩, ⟨0, none⟩, ⟨0, none⟩, ⟨0, none⟩, ⟨0, none⟩, ⟨0, none⟩, ⟨0, none⟩, ⟨0, none⟩, ⟨0, none⟩, ⟨0, none⟩, ⟨0, none⟩, ⟨0, none⟩, ⟨0, none⟩, ⟨0, none⟩, ⟨0, none⟩, ⟨0, none⟩, ⟨0, none⟩, ⟨0, none⟩, ⟨0, none⟩, ⟨0, none⟩, ⟨0, none⟩, ⟨0, none⟩, ⟨0, none⟩, ⟨0, none⟩, ⟨0, none⟩, ⟨0, none⟩, ⟨0, none⟩, ⟨0, none⟩, ⟨0, none⟩, ⟨0, none⟩, ⟨0, none⟩, ⟨0, none⟩, ⟨0, none⟩, ⟨0, none⟩, ⟨0, none⟩, ⟨0, none⟩, ⟨0, none⟩, ⟨0, none⟩, ⟨0, none⟩, ⟨0, none⟩, ⟨0, none⟩, ⟨0, none⟩, ⟨0, none⟩, ⟨0, none⟩, ⟨0, none⟩, ⟨0, none⟩, ⟨0, none⟩, ⟨0, none⟩, ⟨0, none⟩, ⟨0, none⟩, ⟨0, none⟩, ⟨0, none⟩, ⟨0, none⟩, ⟨0, none⟩, ⟨0, none⟩, ⟨0, none⟩, ⟨0, none⟩, ⟨0, none⟩, ⟨0, none⟩, ⟨0, none⟩, ⟨0, none⟩, ⟨0, none⟩, ⟨0, none⟩, ⟨0, none⟩, ⟨0, none⟩, ⟨0, none⟩, ⟨0, none⟩, ⟨0, none⟩, ⟨0, none⟩, ⟨0, none⟩, ⟨0, none⟩, ⟨0, none⟩, ⟨0, none⟩], List.replicate 80 0⟩
theorem f10_l0_eq (run : Run) (n : Nat) (k0 : Nat) (x1_1 : List AV) (x2_1 : Int) (x2_2 : List UInt8) (x2_3 : List UInt8) (x2_4 : Int) (x2_5 : List UInt8) (x2_6 : Int) (x2_7 : Int) (x2_8 : Int) (x2_9 : Int) (x2_10 : Int) (x2_11 : Int) (x6_1 : Int) (o4_1 : Int) (o4_2 : Int) : f10_l0 run n (k0 + 1) x1_1 x2_1 x2_2 x2_3 x2_4 x2_5 x2_6 x2_7 x2_8 x2_9 x2_10 x2_11 x6_1 o4_1 o4_2 =
  bif ltI x6_1 (x1_1.length : Int) then
    bif ltI 0 x6_1 then
    bif inR x6_1 x1_1.length then
    bif inR (IntKind.wrap .i64 (x6_1 - 1)) x1_1.length then
    bif leI ((((nth x1_1 (Int.toNat x6_1)).fld 0).fld 0).toInt) ((((nth x1_1 (Int.toNat (IntKind.wrap .i64 (x6_1 - 1)))).fld 0).fld 0).toInt) then
    some ⟨[.agg [.int 8, .int x6_1]], [], f10_fresh⟩
  else
    bif inR x6_1 x1_1.length then
    (run 39 [.agg [.int ((((nth x1_1 (Int.toNat x6_1)).fld 0).fld 0).toInt), .blob ((((nth x1_1 (Int.toNat x6_1)).fld 0).fld 1).toBlob), .blob ((((nth x1_1 (Int.toNat x6_1)).fld 0).fld 2).toBlob), .int ((((nth x1_1 (Int.toNat x6_1)).fld 0).fld 3).toInt)]]).bind fun r2 =>
    nilV r2.outs (consV r2.vals fun v2 vs2 =>
    nilV vs2 ((run 38 [.blob v2.toBlob, .blob x2_5]).bind fun r3 =>
    nilV r3.outs (consV r3.vals fun v3 vs3 =>
    nilV vs3 (bif !v3.toBool then
    some ⟨[.agg [.int 9, .int x6_1]], [], f10_fresh⟩
  else
    bif ltI 0 x6_1 then
    bif inR x6_1 x1_1.length then
    bif inR (IntKind.wrap .i64 (x6_1 - 1)) x1_1.length then
    (run 40 [.agg [.agg [.int ((((nth x1_1 (Int.toNat x6_1)).fld 0).fld 0).toInt), .blob ((((nth x1_1 (Int.toNat x6_1)).fld 0).fld 1).toBlob), .blob ((((nth x1_1 (Int.toNat x6_1)).fld 0).fld 2).toBlob), .int ((((nth x1_1 (Int.toNat x6_1)).fld 0).fld 3).toInt)], .agg [.int ((((nth x1_1 (Int.toNat x6_1)).fld 1).fld 0).toInt), .int ((((nth x1_1 (Int.toNat x6_1)).fld 1).fld 1).toInt), .slice ((((nth x1_1 (Int.toNat x6_1)).fld 1).fld 2).toSlice)]], .agg [.int ((((nth x1_1 (Int.toNat (IntKind.wrap .i64 (x6_1 - 1)))).fld 0).fld 0).toInt), .blob ((((nth x1_1 (Int.toNat (IntKind.wrap .i64 (x6_1 - 1)))).fld 0).fld 1).toBlob), .blob ((((nth x1_1 (Int.toNat (IntKind.wrap .i64 (x6_1 - 1)))).fld 0).fld 2).toBlob), .int ((((nth x1_1 (Int.toNat (IntKind.wrap .i64 (x6_1 - 1)))).fld 0).fld 3).toInt)]]).bind fun r4 =>
    nilV r4.outs (consV r4.vals fun v4 vs4 =>
    nilV vs4 (bif !v4.toBool then
    some ⟨[.agg [.int 10, .int x6_1]], [], f10_fresh⟩
  else
    f10_l0 run n k0 x1_1 x2_1 x2_2 x2_3 x2_4 x2_5 x2_6 x2_7 x2_8 x2_9 x2_10 x2_11 (IntKind.wrap .i64 (x6_1 + 1)) o4_1 o4_2))
  else none
  else none
  else
    f10_l0 run n k0 x1_1 x2_1 x2_2 x2_3 x2_4 x2_5 x2_6 x2_7 x2_8 x2_9 x2_10 x2_11 (IntKind.wrap .i64 (x6_1 + 1)) o4_1 o4_2))))
  else none
  else none
  else none
  else
    bif inR x6_1 x1_1.length then
    (run 39 [.agg [.int ((((nth x1_1 (Int.toNat x6_1)).fld 0).fld 0).toInt), .blob ((((nth x1_1 (Int.toNat x6_1)).fld 0).fld 1).toBlob), .blob ((((nth x1_1 (Int.toNat x6_1)).fld 0).fld 2).toBlob), .int ((((nth x1_1 (Int.toNat x6_1)).fld 0).fld 3).toInt)]]).bind fun r5 =>
    nilV r5.outs (consV r5.vals fun v5 vs5 =>
    nilV vs5 ((run 38 [.blob v5.toBlob, .blob x2_5]).bind fun r6 =>
    nilV r6.outs (consV r6.vals fun v6 vs6 =>
    nilV vs6 (bif !v6.toBool then
    some ⟨[.agg [.int 9, .int x6_1]], [], f10_fresh⟩
  else
    bif ltI 0 x6_1 then
    bif inR x6_1 x1_1.length then
    bif inR (IntKind.wrap .i64 (x6_1 - 1)) x1_1.length then
    (run 40 [.agg [.agg [.int ((((nth x1_1 (Int.toNat x6_1)).fld 0).fld 0).toInt), .blob ((((nth x1_1 (Int.toNat x6_1)).fld 0).fld 1).toBlob), .blob ((((nth x1_1 (Int.toNat x6_1)).fld 0).fld 2).toBlob), .int ((((nth x1_1 (Int.toNat x6_1)).fld 0).fld 3).toInt)], .agg [.int ((((nth x1_1 (Int.toNat x6_1)).fld 1).fld 0).toInt), .int ((((nth x1_1 (Int.toNat x6_1)).fld 1).fld 1).toInt), .slice ((((nth x1_1 (Int.toNat x6_1)).fld 1).fld 2).toSlice)]], .agg [.int ((((nth x1_1 (Int.toNat (IntKind.wrap .i64 (x6_1 - 1)))).fld 0).fld 0).toInt), .blob ((((nth x1_1 (Int.toNat (IntKind.wrap .i64 (x6_1 - 1)))).fld 0).fld 1).toBlob), .blob ((((nth x1_1 (Int.toNat (IntKind.wrap .i64 (x6_1 - 1)))).fld 0).fld 2).toBlob), .int ((((nth x1_1 (Int.toNat (IntKind.wrap .i64 (x6_1 - 1)))).fld 0).fld 3).toInt)]]).bind fun r7 =>
    nilV r7.outs (consV r7.vals fun v7 vs7 =>
    nilV vs7 (bif !v7.toBool then
    some ⟨[.agg [.int 10, .int x6_1]], [], f10_fresh⟩
  else
    f10_l0 run n k0 x1_1 x2_1 x2_2 x2_3 x2_4 x2_5 x2_6 x2_7 x2_8 x2_9 x2_10 x2_11 (IntKind.wrap .i64 (x6_1 + 1)) o4_1 o4_2))
  else none
  else none
  else
    f10_l0 run n k0 x1_1 x2_1 x2_2 x2_3 x2_4 x2_5 x2_6 x2_7 x2_8 x2_9 x2_10 x2_11 (IntKind.wrap .i64 (x6_1 + 1)) o4_1 o4_2))))
  else none
  else
    (run 41 [.slice x1_1]).bind fun r8 =>
    nilV r8.outs (consV r8.vals fun v8 vs8 =>
    nilV vs8 (bif ltI v8.toInt x2_7 then
    some ⟨[.agg [.int 11, .int (x1_1.length : Int)]], [], f10_fresh⟩
  else
    some ⟨[.agg [.int 0, .int 0]], [], f10_fresh⟩)) := by kernel_rfl
noncomputable def f10 (run : Run) (n : Nat) (a0_1 : Int) (a0_2 : List UInt8) (a0_3 : List UInt8) (a0_4 : Int) (a0_5 : List UInt8) (a0_6 : Int) (a0_7 : Int) (a0_8 : Int) (a0_9 : Int) (a0_10 : Int) (a0_11 : Int) (a1_1 : List AV) : Option Res := evalK G run n f10_info.keep 0 f10_info.body (retE G f10_info) (f10_info.start [.agg [.agg [.int a0_1, .blob a0_2, .blob a0_3, .int a0_4], .blob a0_5, .int a0_6, .int a0_7, .int a0_8, .int a0_9, .int a0_10, .int a0_11], .slice a1_1])
theorem f10_eq (run : Run) (n : Nat) (a0_1 : Int) (a0_2 : List UInt8) (a0_3 : List UInt8) (a0_4 : Int) (a0_5 : List UInt8) (a0_6 : Int) (a0_7 : Int) (a0_8 : Int) (a0_9 : Int) (a0_10 : Int) (a0_11 : Int) (a1_1 : List AV) : f10 run n a0_1 a0_2 a0_3 a0_4 a0_5 a0_6 a0_7 a0_8 a0_9 a0_10 a0_11 a1_1 =
  (run 37 [.agg [.int a0_1, .blob a0_2, .blob a0_3, .int a0_4], .slice a1_1]).bind fun r1 =>
    nilV r1.outs (consV r1.vals fun v1 vs1 =>
    nilV vs1 (bif !(eqI v1.toInt 0) then
    some ⟨[.agg [.int v1.toInt, .int 0]], [], f10_fresh⟩
  else
    f10_l0 run n n a1_1 a0_1 a0_2 a0_3 a0_4 a0_5 a0_6 a0_7 a0_8 a0_9 a0_10 a0_11 0 0 0)) := by kernel_rfl
theorem f10_run (ext : Run) (n : Nat) (a0_1 : Int) (a0_2 : List UInt8) (a0_3 : List UInt8) (a0_4 : Int) (a0_5 : List UInt8) (a0_6 : Int) (a0_7 : Int) (a0_8 : Int) (a0_9 : Int) (a0_10 : Int) (a0_11 : Int) (a1_1 : List AV) : runE G ext (n + 1) 10 [.agg [.agg [.int a0_1, .blob a0_2, .blob a0_3, .int a0_4], .blob a0_5, .int a0_6, .int a0_7, .int a0_8, .int a0_9, .int a0_10, .int a0_11], .slice a1_1] = f10 (runE G ext n) n a0_1 a0_2 a0_3 a0_4 a0_5 a0_6 a0_7 a0_8 a0_9 a0_10 a0_11 a1_1 := runE_succ f10_at f10_in

noncomputable def f3 (run : Run) (n : Nat) (a0_1 : Int) (a0_2 : List UInt8) (a0_3 : List UInt8) (a0_4 : Int) (a0_5 : List UInt8) (a0_6 : Int) (a0_7 : Int) (a0_8 : Int) (a0_9 : Int) (a0_10 : Int) (a0_11 : Int) (a1_1 : List AV) : Option Res := evalK G run n f3_info.keep 0 f3_info.body (retE G f3_info) (f3_info.start [.agg [.agg [.int a0_1, .blob a0_2, .blob a0_3, .int a0_4], .blob a0_5, .int a0_6, .int a0_7, .int a0_8, .int a0_9, .int a0_10, .int a0_11], .slice a1_1])
theorem f3_eq (run : Run) (n : Nat) (a0_1 : Int) (a0_2 : List UInt8) (a0_3 : List UInt8) (a0_4 : Int) (a0_5 : List UInt8) (a0_6 : Int) (a0_7 : Int) (a0_8 : Int) (a0_9 : Int) (a0_10 : Int) (a0_11 : Int) (a1_1 : List AV) : f3 run n a0_1 a0_2 a0_3 a0_4 a0_5 a0_6 a0_7 a0_8 a0_9 a0_10 a0_11 a1_1 =
  (run 8 [.slice a1_1]).bind fun r1 =>
    nilV r1.outs (consV r1.vals fun v1 vs1 =>
    nilV vs1 (bif v1.toBool then
    (run 11 []).bind fun r2 =>
    nilV r2.outs (consV r2.vals fun v2 vs2 =>
    nilV vs2 (some ⟨[.bool v2.toBool], [], f3_fresh⟩))
  else
    (run 9 [.agg [.agg [.int a0_1, .blob a0_2, .blob a0_3, .int a0_4], .blob a0_5, .int a0_6, .int a0_7, .int a0_8, .int a0_9, .int a0_10, .int a0_11], .slice a1_1]).bind fun r3 =>
    nilV r3.outs (consV r3.vals fun v3 vs3 =>
    nilV vs3 ((run 10 [.agg [.agg [.int a0_1, .blob a0_2, .blob a0_3, .int a0_4], .blob a0_5, .int a0_6, .int a0_7, .int a0_8, .int a0_9, .int a0_10, .int a0_11], .slice a1_1]).bind fun r4 =>
    nilV r4.outs (consV r4.vals fun v4 vs4 =>
    nilV vs4 (bif (eqI ((v3.fld 0).toInt) ((v4.fld 0).toInt) && (eqI ((v3.fld 1).toInt) ((v4.fld 1).toInt) && true)) then
    (run 11 []).bind fun r5 =>
    nilV r5.outs (consV r5.vals fun v5 vs5 =>
    nilV vs5 (some ⟨[.bool v5.toBool], [], f3_fresh⟩))
  else
    some ⟨[.bool false], [], f3_fresh⟩)))))) := by kernel_rfl
theorem f3_run (ext : Run) (n : Nat) (a0_1 : Int) (a0_2 : List UInt8) (a0_3 : List UInt8) (a0_4 : Int) (a0_5 : List UInt8) (a0_6 : Int) (a0_7 : Int) (a0_8 : Int) (a0_9 : Int) (a0_10 : Int) (a0_11 : Int) (a1_1 : List AV) : runE G ext (n + 1) 3 [.agg [.agg [.int a0_1, .blob a0_2, .blob a0_3, .int a0_4], .blob a0_5, .int a0_6, .int a0_7, .int a0_8, .int a0_9, .int a0_10, .int a0_11], .slice a1_1] = f3 (runE G ext n) n a0_1 a0_2 a0_3 a0_4 a0_5 a0_6 a0_7 a0_8 a0_9 a0_10 a0_11 a1_1 := runE_succ f3_at f3_in

noncomputable def f75_l0 (run : Run) (n : Nat) (k0 : Nat) (x8_1 : List AV) (x9_1 : Int) (x10_1 : Int) : Option Res :=
  iterK (evalK G run n f75_keep 0 (sub [1, 1, 0, 1, 0, 0] f75_body)) f75_t0 f75_o0 (blockK 0 (seqK (evalK G run n f75_keep 0 (sub [1, 1, 1] f75_body) (retE G f75_info)) (retE G f75_info))) k0
    ⟨[.any, .any, .any, .any, .any, .any, .any, .any, .val (.slice .str) none (.slice x8_1), .val (.int .i64) none (.int x9_1), .val (.int .i64) none (.int x10_1), .any, .any, .any, .any, .any, .any, .any], [⟨0, none⟩, ⟨0, none⟩, ⟨0, none⟩, ⟨0, none⟩, ⟨0, none⟩, ⟨0, none⟩, ⟨0, none⟩, ⟨0, none⟩, ⟨0, none⟩, ⟨0, none⟩, ⟨0, none⟩, ⟨0, none⟩, ⟨0, none⟩, ⟨0, none⟩, ⟨0, none⟩, ⟨0, none⟩, ⟨0, none⟩, ⟨0, none⟩], List.replicate 18 0⟩
theorem f75_l0_eq (run : Run) (n : Nat) (k0 : Nat) (x8_1 : List AV) (x9_1 : Int) (x10_1 : Int) : f75_l0 run n (k0 + 1) x8_1 x9_1 x10_1 =
  bif ltI x10_1 x9_1 then
    bif inR x10_1 x8_1.length then
    bif ltI 4096 (((nth x8_1 (Int.toNat x10_1)).toStr).length : Int) then
    some ⟨[.int 4], [], f75_fresh⟩
  else
    f75_l0 run n k0 x8_1 x9_1 (IntKind.wrap .i64 (x10_1 + 1))
  else none
  else
    some ⟨[.int 0], [], f75_fresh⟩ := by kernel_rfl
noncomputable def f75 (run : Run) (n : Nat) (a0_1 : List AV) : Option Res := evalK G run n f75_info.keep 0 f75_info.body (retE G f75_info) (f75_info.start [.slice a0_1])
theorem f75_eq (run : Run) (n : Nat) (a0_1 : List AV) : f75 run n a0_1 =
  bif ltI 1024 (a0_1.length : Int) then
    some ⟨[.int 4], [], f75_fresh⟩
  else
    f75_l0 run n n a0_1 (a0_1.length : Int) 0 := by kernel_rfl
theorem f75_run (ext : Run) (n : Nat) (a0_1 : List AV) : runE G ext (n + 1) 75 [.slice a0_1] = f75 (runE G ext n) n a0_1 := runE_succ f75_at f75_in

noncomputable def f126_l0 (run : Run) (n : Nat) (k0 : Nat) (x3_1 : List AV) (x6_1 : List AV) (x7_1 : Int) (x8_1 : Int) : Option Res :=
  iterK (evalK G run n f126_keep 0 (sub [1, 1, 0, 1, 0, 0] f126_body)) f126_t0 f126_o0 (blockK 0 (seqK (evalK G run n f126_keep 0 (sub [1, 1, 1] f126_body) (retE G f126_info)) (retE G f126_info))) k0
    ⟨[.any, .any, .any, .val (.slice .str) (some (3, 0)) (.slice x3_1), .any, .any, .val (.slice (.blob 32)) none (.slice x6_1), .val (.int .i64) none (.int x7_1), .val (.int .i64) none (.int x8_1), .any, .any, .any, .any, .any, .any, .any, .any, .any, .any], [⟨0, none⟩, ⟨0, none⟩, ⟨0, none⟩, ⟨0, none⟩, ⟨0, none⟩, ⟨0, none⟩, ⟨0, none⟩, ⟨0, none⟩, ⟨0, none⟩, ⟨0, none⟩, ⟨0, none⟩, ⟨0, none⟩, ⟨0, none⟩, ⟨0, none⟩, ⟨0, none⟩, ⟨0, none⟩, ⟨0, none⟩, ⟨0, none⟩, ⟨0, none⟩], List.replicate 19 0⟩
theorem f126_l0_eq (run : Run) (n : Nat) (k0 : Nat) (x3_1 : List AV) (x6_1 : List AV) (x7_1 : Int) (x8_1 : Int) : f126_l0 run n (k0 + 1) x3_1 x6_1 x7_1 x8_1 =
  bif ltI x8_1 x7_1 then
    bif inR x8_1 x6_1.length then
    (run 121 [.blob ((nth x6_1 (Int.toNat x8_1)).toBlob)]).bind fun r1 =>
    nilV r1.outs (consV r1.vals fun v1 vs1 =>
    nilV vs1 (bif Nat.ble ((x3_1.length + 1) * 16) 140737488355328 then
    f126_l0 run n k0 (x3_1 ++ [.str v1.toStr]) x6_1 x7_1 (IntKind.wrap .i64 (x8_1 + 1))
  else none))
  else none
  else
    some ⟨[.slice x3_1], [], f126_fresh⟩ := by kernel_rfl
noncomputable def f126 (run : Run) (n : Nat) (a0_1 : List AV) : Option Res := evalK G run n f126_info.keep 0 f126_info.body (retE G f126_info) (f126_info.start [.slice a0_1])
theorem f126_eq (run : Run) (n : Nat) (a0_1 : List AV) : f126 run n a0_1 =
  f126_l0 run n n [] a0_1 (a0_1.length : Int) 0 := by kernel_rfl
theorem f126_run (ext : Run) (n : Nat) (a0_1 : List AV) : runE G ext (n + 1) 126 [.slice a0_1] = f126 (runE G ext n) n a0_1 := runE_succ f126_at f126_in

noncomputable def f161_s150_l0 (run : Run) (n : Nat) (k0 : Nat) (x5_1 : List AV) (x8_1 : List AV) (x9_1 : Int) (x10_1 : Int) : Option Res :=
  iterK (evalK G run n f161_keep 0 (sub [1, 1, 0, 1, 0, 0] f161_body)) f161_t0 f161_o0 (blockK 0 (seqK (evalK G run n f161_keep 0 (sub [1, 1, 1] f161_body) (retE G f161_info)) (retE G f161_info))) k0
    ⟨[.any, .val .fn none (.fn 150), .any, .any, .any, .val (.slice (.blob 32)) (some (5, 0)) (.slice x5_1), .any, .any, .val (.slice .str) none (.slice x8_1), .val (.int .i64) none (.int x9_1), .val (.int .i64) none (.int x10_1), .any, .any, .any, .any, .any, .any, .any, .any, .any, .any, .any], [⟨0, none⟩, ⟨0, none⟩, ⟨0, none⟩, ⟨0, none⟩, ⟨0, none⟩, ⟨0, none⟩, ⟨0, none⟩, ⟨0, none⟩, ⟨0, none⟩, ⟨0, none⟩, ⟨0, none⟩, ⟨0, none⟩, ⟨0, none⟩, ⟨0, none⟩, ⟨0, none⟩, ⟨0, none⟩, ⟨0, none⟩, ⟨0, none⟩, ⟨0, none⟩, ⟨0, none⟩, ⟨0, none⟩, ⟨0, none⟩], List.replicate 22 0⟩
theorem f161_s150_l0_eq (run : Run) (n : Nat) (k0 : Nat) (x5_1 : List AV) (x8_1 : List AV) (x9_1 : Int) (x10_1 : Int) : f161_s150_l0 run n (k0 + 1) x5_1 x8_1 x9_1 x10_1 =
  bif ltI x10_1 x9_1 then
    bif inR x10_1 x8_1.length then
    (run 150 [.str ((nth x8_1 (Int.toNat x10_1)).toStr)]).bind fun r1 =>
    nilV r1.outs (consV r1.vals fun v1 vs1 =>
    nilV vs1 (bif Nat.ble ((x5_1.length + 1) * 32) 140737488355328 then
    f161_s150_l0 run n k0 (x5_1 ++ [.blob v1.toBlob]) x8_1 x9_1 (IntKind.wrap .i64 (x10_1 + 1))
  else none))
  else none
  else
    some ⟨[.slice x5_1], [], f161_fresh⟩ := by kernel_rfl
noncomputable def f161_s150 (run : Run) (n : Nat) (a0_1 : List AV) : Option Res := evalK G run n f161_info.keep 0 f161_info.body (retE G f161_info) (f161_info.start [.slice a0_1, .fn 150])
theorem f161_s150_eq (run : Run) (n : Nat) (a0_1 : List AV) : f161_s150 run n a0_1 =
  f161_s150_l0 run n n [] a0_1 (a0_1.length : Int) 0 := by kernel_rfl
theorem f161_s150_run (ext : Run) (n : Nat) (a0_1 : List AV) : runE G ext (n + 1) 161 [.slice a0_1, .fn 150] = f161_s150 (runE G ext n) n a0_1 := runE_succ f161_at f161_in

noncomputable def f145 (run : Run) (n : Nat) (a0_1 : List AV) : Option Res := evalK G run n f145_info.keep 0 f145_info.body (retE G f145_info) (f145_info.start [.slice a0_1])
theorem f145_eq (run : Run) (n : Nat) (a0_1 : List AV) : f145 run n a0_1 =
  (run 161 [.slice a0_1, .fn 150]).bind fun r1 =>
    bif r1.fresh then
    nilV r1.outs (consV r1.vals fun v1 vs1 =>
    nilV vs1 (some ⟨[.slice v1.toSlice], [], f145_fresh⟩))
  else none := by kernel_rfl
theorem f145_run (ext : Run) (n : Nat) (a0_1 : List AV) : runE G ext (n + 1) 145 [.slice a0_1] = f145 (runE G ext n) n a0_1 := runE_succ f145_at f145_in

noncomputable def f175_l0 (run : Run) (n : Nat) (k0 : Nat) (x0_1 : Int) (x3_1 : Int) : Option Res :=
  iterK (evalK G run n f175_keep 0 (sub [1, 1, 1, 0, 0, 0] f175_body)) f175_t0 f175_o0 (blockK 0 (seqK (evalK G run n f175_keep 0 (sub [1, 1, 1, 1] f175_body) (retE G f175_info)) (retE G f175_info))) k0
    ⟨[.val (.int .i64) none (.int x0_1), .any, .any, .val (.int .i64) none (.int x3_1), .any, .any, .any, .any, .any, .any, .any, .any, .any, .any], [⟨0, none⟩, ⟨0, none⟩, ⟨0, none⟩, ⟨0, none⟩, ⟨0, none⟩, ⟨0, none⟩, ⟨0, none⟩, ⟨0, none⟩, ⟨0, none⟩, ⟨0, none⟩, ⟨0, none⟩, ⟨0, none⟩, ⟨0, none⟩, ⟨0, none⟩], List.replicate 14 0⟩
theorem f175_l0_eq (run : Run) (n : Nat) (k0 : Nat) (x0_1 : Int) (x3_1 : Int) : f175_l0 run n (k0 + 1) x0_1 x3_1 =
  bif leI x3_1 (IntKind.wrap .i64 (Int.tdiv (IntKind.wrap .i64 (x0_1 - 1)) 2)) then
    f175_l0 run n k0 x0_1 (IntKind.wrap .i64 (x3_1 * 2))
  else
    some ⟨[.int x3_1], [], f175_fresh⟩ := by kernel_rfl
noncomputable def f175 (run : Run) (n : Nat) (a0_1 : Int) : Option Res := evalK G run n f175_info.keep 0 f175_info.body (retE G f175_info) (f175_info.start [.int a0_1])
theorem f175_eq (run : Run) (n : Nat) (a0_1 : Int) : f175 run n a0_1 =
  bif ltI a0_1 2 then
    some ⟨[.int 0], [], f175_fresh⟩
  else
    f175_l0 run n n a0_1 1 := by kernel_rfl
theorem f175_run (ext : Run) (n : Nat) (a0_1 : Int) : runE G ext (n + 1) 175 [.int a0_1] = f175 (runE G ext n) n a0_1 := runE_succ f175_at f175_in

noncomputable def f160 (run : Run) (n : Nat) (a0_1 : List AV) : Option Res := evalK G run n f160_info.keep 0 f160_info.body (retE G f160_info) (f160_info.start [.slice a0_1])
theorem f160_eq (run : Run) (n : Nat) (a0_1 : List AV) : f160 run n a0_1 =
  (run 175 [.int (a0_1.length : Int)]).bind fun r1 =>
    nilV r1.outs (consV r1.vals fun v1 vs1 =>
    nilV vs1 (bif boundsOk 0 v1.toInt (a0_1.length : Int) (a0_1.length : Int) && true then
    bif boundsOk v1.toInt (a0_1.length : Int) (a0_1.length : Int) (a0_1.length : Int) && true then
    some ⟨[.slice (List.drop 0 (List.take (Int.toNat v1.toInt) a0_1)), .slice (List.drop (Int.toNat v1.toInt) (List.take (Int.toNat (a0_1.length : Int)) a0_1))], [], f160_fresh⟩
  else none
  else none)) := by kernel_rfl
theorem f160_run (ext : Run) (n : Nat) (a0_1 : List AV) : runE G ext (n + 1) 160 [.slice a0_1] = f160 (runE G ext n) n a0_1 := runE_succ f160_at f160_in

noncomputable def f144 (run : Run) (n : Nat) (a0_1 : List AV) : Option Res := evalK G run n f144_info.keep 0 f144_info.body (retE G f144_info) (f144_info.start [.slice a0_1])
theorem f144_eq (run : Run) (n : Nat) (a0_1 : List AV) : f144 run n a0_1 =
  bif eqI (a0_1.length : Int) 0 then
    some ⟨[.blob [0, 0, 0, 0, 0, 0, 0, 0, 0, 0, 0, 0, 0, 0, 0, 0, 0, 0, 0, 0, 0, 0, 0, 0, 0, 0, 0, 0, 0, 0, 0, 0]], [], f144_fresh⟩
  else
    bif eqI (a0_1.length : Int) 1 then
    bif inR 0 a0_1.length then
    some ⟨[.blob ((nth a0_1 0).toBlob)], [], f144_fresh⟩
  else none
  else
    (run 160 [.slice a0_1]).bind fun r1 =>
    nilV r1.outs (consV r1.vals fun v1 vs1 =>
    consV vs1 fun v2 vs2 =>
    nilV vs2 ((run 144 [.slice v1.toSlice]).bind fun r2 =>
    nilV r2.outs (consV r2.vals fun v3 vs3 =>
    nilV vs3 ((run 144 [.slice v2.toSlice]).bind fun r3 =>
    nilV r3.outs (consV r3.vals fun v4 vs4 =>
    nilV vs4 ((run 152 [.blob v3.toBlob, .blob v4.toBlob]).bind fun r4 =>
    nilV r4.outs (consV r4.vals fun v5 vs5 =>
    nilV vs5 (some ⟨[.blob v5.toBlob], [], f144_fresh⟩)))))))) := by kernel_rfl
theorem f144_run (ext : Run) (n : Nat) (a0_1 : List AV) : runE G ext (n + 1) 144 [.slice a0_1] = f144 (runE G ext n) n a0_1 := runE_succ f144_at f144_in

noncomputable def f125 (run : Run) (n : Nat) (a0_1 : List AV) : Option Res := evalK G run n f125_info.keep 0 f125_info.body (retE G f125_info) (f125_info.start [.slice a0_1])
theorem f125_eq (run : Run) (n : Nat) (a0_1 : List AV) : f125 run n a0_1 =
  (run 145 [.slice a0_1]).bind fun r1 =>
    bif r1.fresh then
    nilV r1.outs (consV r1.vals fun v1 vs1 =>
    nilV vs1 ((run 144 [.slice v1.toSlice]).bind fun r2 =>
    nilV r2.outs (consV r2.vals fun v2 vs2 =>
    nilV vs2 ((run 133 [.int (IntKind.wrap .u64 (a0_1.length : Int)), .blob v2.toBlob]).bind fun r3 =>
    nilV r3.outs (consV r3.vals fun v3 vs3 =>
    nilV vs3 (some ⟨[.blob v3.toBlob], [], f125_fresh⟩))))))
  else none := by kernel_rfl
theorem f125_run (ext : Run) (n : Nat) (a0_1 : List AV) : runE G ext (n + 1) 125 [.slice a0_1] = f125 (runE G ext n) n a0_1 := runE_succ f125_at f125_in

noncomputable def f106 (run : Run) (n : Nat) (a0_1 : List AV) : Option Res := evalK G run n f106_info.keep 0 f106_info.body (retE G f106_info) (f106_info.start [.slice a0_1])
theorem f106_eq (run : Run) (n : Nat) (a0_1 : List AV) : f106 run n a0_1 =
  (run 126 [.slice a0_1]).bind fun r1 =>
    bif r1.fresh then
    nilV r1.outs (consV r1.vals fun v1 vs1 =>
    nilV vs1 ((run 125 [.slice v1.toSlice]).bind fun r2 =>
    nilV r2.outs (consV r2.vals fun v2 vs2 =>
    nilV vs2 (some ⟨[.blob v2.toBlob], [], f106_fresh⟩))))
  else none := by kernel_rfl
theorem f106_run (ext : Run) (n : Nat) (a0_1 : List AV) : runE G ext (n + 1) 106 [.slice a0_1] = f106 (runE G ext n) n a0_1 := runE_succ f106_at f106_in

noncomputable def f84 (run : Run) (n : Nat) (a0_1 : List UInt8) : Option Res := evalK G run n f84_info.keep 0 f84_info.body (retE G f84_info) (f84_info.start [.str a0_1])
theorem f84_eq (run : Run) (n : Nat) (a0_1 : List UInt8) : f84 run n a0_1 =
  bif Nat.ble (1 + a0_1.length) maxLen then
    some ⟨[.str ([84] ++ a0_1)], [], f84_fresh⟩
  else none := by kernel_rfl
theorem f84_run (ext : Run) (n : Nat) (a0_1 : List UInt8) : runE G ext (n + 1) 84 [.str a0_1] = f84 (runE G ext n) n a0_1 := runE_succ f84_at f84_in

noncomputable def f127_l0 (run : Run) (n : Nat) (k0 : Nat) (x3_1 : List AV) (x6_1 : List AV) (x7_1 : Int) (x8_1 : Int) : Option Res :=
  iterK (evalK G run n f127_keep 0 (sub [1, 1, 0, 1, 0, 0] f127_body)) f127_t0 f127_o0 (blockK 0 (seqK (evalK G run n f127_keep 0 (sub [1, 1, 1] f127_body) (retE G f127_info)) (retE G f127_info))) k0
    ⟨[.any, .any, .any, .val (.slice .str) (some (3, 0)) (.slice x3_1), .any, .any, .val (.slice .str) none (.slice x6_1), .val (.int .i64) none (.int x7_1), .val (.int .i64) none (.int x8_1), .any, .any, .any, .any, .any, .any, .any, .any, .any, .any], [⟨0, none⟩, ⟨0, none⟩, ⟨0, none⟩, ⟨0, none⟩, ⟨0, none⟩, ⟨0, none⟩, ⟨0, none⟩, ⟨0, none⟩, ⟨0, none⟩, ⟨0, none⟩, ⟨0, none⟩, ⟨0, none⟩, ⟨0, none⟩, ⟨0, none⟩, ⟨0, none⟩, ⟨0, none⟩, ⟨0, none⟩, ⟨0, none⟩, ⟨0, none⟩], List.replicate 19 0⟩
theorem f127_l0_eq (run : Run) (n : Nat) (k0 : Nat) (x3_1 : List AV) (x6_1 : List AV) (x7_1 : Int) (x8_1 : Int) : f127_l0 run n (k0 + 1) x3_1 x6_1 x7_1 x8_1 =
  bif ltI x8_1 x7_1 then
    bif inR x8_1 x6_1.length then
    (run 84 [.str ((nth x6_1 (Int.toNat x8_1)).toStr)]).bind fun r1 =>
    nilV r1.outs (consV r1.vals fun v1 vs1 =>
    nilV vs1 (bif Nat.ble ((x3_1.length + 1) * 16) 140737488355328 then
    f127_l0 run n k0 (x3_1 ++ [.str v1.toStr]) x6_1 x7_1 (IntKind.wrap .i64 (x8_1 + 1))
  else none))
  else none
  else
    some ⟨[.slice x3_1], [], f127_fresh⟩ := by kernel_rfl
noncomputable def f127 (run : Run) (n : Nat) (a0_1 : List AV) : Option Res := evalK G run n f127_info.keep 0 f127_info.body (retE G f127_info) (f127_info.start [.slice a0_1])
theorem f127_eq (run : Run) (n : Nat) (a0_1 : List AV) : f127 run n a0_1 =
  f127_l0 run n n [] a0_1 (a0_1.length : Int) 0 := by kernel_rfl
theorem f127_run (ext : Run) (n : Nat) (a0_1 : List AV) : runE G ext (n + 1) 127 [.slice a0_1] = f127 (runE G ext n) n a0_1 := runE_succ f127_at f127_in

noncomputable def f107 (run : Run) (n : Nat) (a0_1 : List AV) : Option Res := evalK G run n f107_info.keep 0 f107_info.body (retE G f107_info) (f107_info.start [.slice a0_1])
theorem f107_eq (run : Run) (n : Nat) (a0_1 : List AV) : f107 run n a0_1 =
  (run 127 [.slice a0_1]).bind fun r1 =>
    bif r1.fresh then
    nilV r1.outs (consV r1.vals fun v1 vs1 =>
    nilV vs1 ((run 125 [.slice v1.toSlice]).bind fun r2 =>
    nilV r2.outs (consV r2.vals fun v2 vs2 =>
    nilV vs2 (some ⟨[.blob v2.toBlob], [], f107_fresh⟩))))
  else none := by kernel_rfl
theorem f107_run (ext : Run) (n : Nat) (a0_1 : List AV) : runE G ext (n + 1) 107 [.slice a0_1] = f107 (runE G ext n) n a0_1 := runE_succ f107_at f107_in

noncomputable def f76 (run : Run) (n : Nat) (a0_1 : Int) (a1_1 : List AV) (a2_1 : List AV) (a3_1 : Int) : Option Res := evalK G run n f76_info.keep 0 f76_info.body (retE G f76_info) (f76_info.start [.int a0_1, .slice a1_1, .slice a2_1, .int a3_1])
theorem f76_eq (run : Run) (n : Nat) (a0_1 : Int) (a1_1 : List AV) (a2_1 : List AV) (a3_1 : Int) : f76 run n a0_1 a1_1 a2_1 a3_1 =
  (run 106 [.slice a1_1]).bind fun r1 =>
    nilV r1.outs (consV r1.vals fun v1 vs1 =>
    nilV vs1 ((run 107 [.slice a2_1]).bind fun r2 =>
    nilV r2.outs (consV r2.vals fun v2 vs2 =>
    nilV vs2 (bif Nat.ble ((a2_1.length) * 16) 140737488355328 then
    some ⟨[.agg [.agg [.int a0_1, .blob v1.toBlob, .blob v2.toBlob, .int a3_1], .slice a2_1]], [], f76_fresh⟩
  else none)))) := by kernel_rfl
theorem f76_run (ext : Run) (n : Nat) (a0_1 : Int) (a1_1 : List AV) (a2_1 : List AV) (a3_1 : Int) : runE G ext (n + 1) 76 [.int a0_1, .slice a1_1, .slice a2_1, .int a3_1] = f76 (runE G ext n) n a0_1 a1_1 a2_1 a3_1 := runE_succ f76_at f76_in

noncomputable def f77_l0 (run : Run) (n : Nat) (k0 : Nat) (x2_1 : Int) (o3_1 : List UInt8) (o4_1 : Int) (o4_2 : List UInt8) (o4_3 : List UInt8) (o4_4 : Int) (o6_1 : Int) (o6_2 : List UInt8) (o6_3 : List UInt8) (o6_4 : Int) : Option Res :=
  iterK (evalK G run n f77_keep 0 (sub [1, 0, 0, 0] f77_body)) f77_t0 f77_o0 (blockK 0 (seqK (evalK G run n f77_keep 0 (sub [1, 1] f77_body) (retE G f77_info)) (retE G f77_info))) k0
    ⟨[.any, .any, .val (.int .i64) none (.int x2_1), .ptr ⟨(.blob 32), 3, 1, []⟩, .ptr ⟨(.struct [(.int .u32), (.blob 32), (.blob 32), (.int .u64)]), 4, 1, []⟩, .any, .ptr ⟨(.struct [(.int .u32), (.blob 32), (.blob 32), (.int .u64)]), 6, 1, []⟩, .any, .any, .any, .any, .any, .any, .any, .any, .any, .any, .any, .any, .any, .any, .any], [⟨0, none⟩, ⟨0, none⟩, ⟨0, none⟩, ⟨1, some ⟨(.blob 32), .blob o3_1⟩⟩, ⟨1, some ⟨(.struct [(.int .u32), (.blob 32), (.blob 32), (.int .u64)]), .agg [.int o4_1, .blob o4_2, .blob o4_3, .int o4_4]⟩⟩, ⟨0, none⟩, ⟨1, some ⟨(.struct [(.int .u32), (.blob 32), (.blob 32), (.int .u64)]), .agg [.int o6_1, .blob o6_2, .blob o6_3, .int o6_4]⟩⟩, ⟨0, none⟩, ⟨0, none⟩, ⟨0, none⟩, ⟨0, none⟩, ⟨0, none⟩, ⟨0, none⟩, ⟨0, none⟩, ⟨0, none⟩, ⟨0, none⟩, ⟨0, none⟩, ⟨0, none⟩, ⟨0, none⟩, ⟨0, none⟩, ⟨0, none⟩, ⟨0, none⟩], List.replicate 22 0⟩
theorem f77_l0_eq (run : Run) (n : Nat) (k0 : Nat) (x2_1 : Int) (o3_1 : List UInt8) (o4_1 : Int) (o4_2 : List UInt8) (o4_3 : List UInt8) (o4_4 : Int) (o6_1 : Int) (o6_2 : List UInt8) (o6_3 : List UInt8) (o6_4 : Int) : f77_l0 run n (k0 + 1) x2_1 o3_1 o4_1 o4_2 o4_3 o4_4 o6_1 o6_2 o6_3 o6_4 =
  bif ltI 0 x2_1 then
    (run 65 [.agg [.int o4_1, .blob o4_2, .blob o4_3, .int o4_4]]).bind fun r1 =>
    nilV r1.outs (consV r1.vals fun v1 vs1 =>
    nilV vs1 ((run 64 [.blob v1.toBlob, .blob o3_1]).bind fun r2 =>
    nilV r2.outs (consV r2.vals fun v2 vs2 =>
    nilV vs2 (bif v2.toBool then
    some ⟨[.agg [.int o4_1, .blob o4_2, .blob o4_3, .int o4_4], .bool true], [], f77_fresh⟩
  else
    f77_l0 run n k0 (IntKind.wrap .i64 (x2_1 - 1)) o3_1 o4_1 o4_2 o4_3 (IntKind.wrap .u64 (o4_4 + 1)) o6_1 o6_2 o6_3 o6_4))))
  else
    some ⟨[.agg [.int 0, .blob (List.replicate 32 0), .blob (List.replicate 32 0), .int 0], .bool false], [], f77_fresh⟩ := by kernel_rfl
noncomputable def f77 (run : Run) (n : Nat) (a0_1 : List UInt8) (a1_1 : Int) (a1_2 : List UInt8) (a1_3 : List UInt8) (a1_4 : Int) (a2_1 : Int) : Option Res := evalK G run n f77_info.keep 0 f77_info.body (retE G f77_info) (f77_info.start [.blob a0_1, .agg [.int a1_1, .blob a1_2, .blob a1_3, .int a1_4], .int a2_1])
theorem f77_eq (run : Run) (n : Nat) (a0_1 : List UInt8) (a1_1 : Int) (a1_2 : List UInt8) (a1_3 : List UInt8) (a1_4 : Int) (a2_1 : Int) : f77 run n a0_1 a1_1 a1_2 a1_3 a1_4 a2_1 =
  f77_l0 run n n a2_1 a0_1 a1_1 a1_2 a1_3 a1_4 0 (List.replicate 32 0) (List.replicate 32 0) 0 := by kernel_rfl
theorem f77_run (ext : Run) (n : Nat) (a0_1 : List UInt8) (a1_1 : Int) (a1_2 : List UInt8) (a1_3 : List UInt8) (a1_4 : Int) (a2_1 : Int) : runE G ext (n + 1) 77 [.blob a0_1, .agg [.int a1_1, .blob a1_2, .blob a1_3, .int a1_4], .int a2_1] = f77 (runE G ext n) n a0_1 a1_1 a1_2 a1_3 a1_4 a2_1 := runE_succ f77_at f77_in

noncomputable def f42 (run : Run) (n : Nat) (a0_1 : List UInt8) (a1_1 : Int) (a2_1 : List AV) (a3_1 : List AV) (a4_1 : Int) (a5_1 : Int) : Option Res := evalK G run n f42_info.keep 0 f42_info.body (retE G f42_info) (f42_info.start [.blob a0_1, .int a1_1, .slice a2_1, .slice a3_1, .int a4_1, .int a5_1])
theorem f42_eq (run : Run) (n : Nat) (a0_1 : List UInt8) (a1_1 : Int) (a2_1 : List AV) (a3_1 : List AV) (a4_1 : Int) (a5_1 : Int) : f42 run n a0_1 a1_1 a2_1 a3_1 a4_1 a5_1 =
  (run 75 [.slice a3_1]).bind fun r1 =>
    nilV r1.outs (consV r1.vals fun v1 vs1 =>
    nilV vs1 (bif !(eqI v1.toInt 0) then
    some ⟨[.agg [.agg [.int 0, .blob (List.replicate 32 0), .blob (List.replicate 32 0), .int 0], .slice []], .int v1.toInt], [], f42_fresh⟩
  else
    (run 76 [.int (IntKind.wrap .u32 a1_1), .slice a2_1, .slice a3_1, .int a4_1]).bind fun r2 =>
    nilV r2.outs (consV r2.vals fun v2 vs2 =>
    nilV vs2 ((run 77 [.blob a0_1, .agg [.int (((v2.fld 0).fld 0).toInt), .blob (((v2.fld 0).fld 1).toBlob), .blob (((v2.fld 0).fld 2).toBlob), .int (((v2.fld 0).fld 3).toInt)], .int a5_1]).bind fun r3 =>
    nilV r3.outs (consV r3.vals fun v3 vs3 =>
    consV vs3 fun v4 vs4 =>
    nilV vs4 (bif !v4.toBool then
    some ⟨[.agg [.agg [.int 0, .blob (List.replicate 32 0), .blob (List.replicate 32 0), .int 0], .slice []], .int 9], [], f42_fresh⟩
  else
    some ⟨[.agg [.agg [.int ((v3.fld 0).toInt), .blob ((v3.fld 1).toBlob), .blob ((v3.fld 2).toBlob), .int ((v3.fld 3).toInt)], .slice ((v2.fld 1).toSlice)], .int 0], [], f42_fresh⟩)))))) := by kernel_rfl
theorem f42_run (ext : Run) (n : Nat) (a0_1 : List UInt8) (a1_1 : Int) (a2_1 : List AV) (a3_1 : List AV) (a4_1 : Int) (a5_1 : Int) : runE G ext (n + 1) 42 [.blob a0_1, .int a1_1, .slice a2_1, .slice a3_1, .int a4_1, .int a5_1] = f42 (runE G ext n) n a0_1 a1_1 a2_1 a3_1 a4_1 a5_1 := runE_succ f42_at f42_in

noncomputable def f15 (run : Run) (n : Nat) (a0_1 : List UInt8) (a1_1 : List AV) (a2_1 : Int) (a3_1 : Int) : Option Res := evalK G run n f15_info.keep 0 f15_info.body (retE G f15_info) (f15_info.start [.blob a0_1, .slice a1_1, .int a2_1, .int a3_1])
theorem f15_eq (run : Run) (n : Nat) (a0_1 : List UInt8) (a1_1 : List AV) (a2_1 : Int) (a3_1 : Int) : f15 run n a0_1 a1_1 a2_1 a3_1 =
  (run 42 [.blob a0_1, .int 0, .slice [], .slice a1_1, .int a2_1, .int a3_1]).bind fun r1 =>
    nilV r1.outs (consV r1.vals fun v1 vs1 =>
    consV vs1 fun v2 vs2 =>
    nilV vs2 (some ⟨[.agg [.agg [.int (((v1.fld 0).fld 0).toInt), .blob (((v1.fld 0).fld 1).toBlob), .blob (((v1.fld 0).fld 2).toBlob), .int (((v1.fld 0).fld 3).toInt)], .slice ((v1.fld 1).toSlice)], .int v2.toInt], [], f15_fresh⟩)) := by kernel_rfl
theorem f15_run (ext : Run) (n : Nat) (a0_1 : List UInt8) (a1_1 : List AV) (a2_1 : Int) (a3_1 : Int) : runE G ext (n + 1) 15 [.blob a0_1, .slice a1_1, .int a2_1, .int a3_1] = f15 (runE G ext n) n a0_1 a1_1 a2_1 a3_1 := runE_succ f15_at f15_in

noncomputable def f87 (run : Run) (n : Nat) (a0_1 : Int) (a0_2 : List UInt8) (a0_3 : List UInt8) (a0_4 : Int) (a0_5 : List AV) : Option Res := evalK G run n f87_info.keep 0 f87_info.body (retE G f87_info) (f87_info.start [.agg [.agg [.int a0_1, .blob a0_2, .blob a0_3, .int a0_4], .slice a0_5]])
theorem f87_eq (run : Run) (n : Nat) (a0_1 : Int) (a0_2 : List UInt8) (a0_3 : List UInt8) (a0_4 : Int) (a0_5 : List AV) : f87 run n a0_1 a0_2 a0_3 a0_4 a0_5 =
  (run 65 [.agg [.int a0_1, .blob a0_2, .blob a0_3, .int a0_4]]).bind fun r1 =>
    nilV r1.outs (consV r1.vals fun v1 vs1 =>
    nilV vs1 (some ⟨[.blob v1.toBlob], [], f87_fresh⟩)) := by kernel_rfl
theorem f87_run (ext : Run) (n : Nat) (a0_1 : Int) (a0_2 : List UInt8) (a0_3 : List UInt8) (a0_4 : Int) (a0_5 : List AV) : runE G ext (n + 1) 87 [.agg [.agg [.int a0_1, .blob a0_2, .blob a0_3, .int a0_4], .slice a0_5]] = f87 (runE G ext n) n a0_1 a0_2 a0_3 a0_4 a0_5 := runE_succ f87_at f87_in

noncomputable def f88 (run : Run) (n : Nat) (a0_1 : List UInt8) : Option Res := evalK G run n f88_info.keep 0 f88_info.body (retE G f88_info) (f88_info.start [.blob a0_1])
theorem f88_eq (run : Run) (n : Nat) (a0_1 : List UInt8) : f88 run n a0_1 =
  some ⟨[.slice [.blob a0_1]], [], f88_fresh⟩ := by kernel_rfl
theorem f88_run (ext : Run) (n : Nat) (a0_1 : List UInt8) : runE G ext (n + 1) 88 [.blob a0_1] = f88 (runE G ext n) n a0_1 := runE_succ f88_at f88_in

noncomputable def f114_l0 (run : Run) (n : Nat) (k0 : Nat) (x6_1 : Int) (x7_1 : Int) (x21_1 : Int) (x22_1 : Int) (o2_1 : List AV) (o4_1 : List AV) (o5_1 : List AV) : Option Res :=
  iterK (evalK G run n f114_keep 0 (sub [1, 1, 1, 1, 1, 0, 1, 0, 0] f114_body)) f114_t0 f114_o0 (blockK 0 (seqK (evalK G run n f114_keep 0 (sub [1, 1, 1, 1, 1, 1] f114_body) (retE G f114_info)) (retE G f114_info))) k0
    ⟨[.any, .any, .ptr ⟨(.arr 4 (.int .u64)), 2, 1, []⟩, .any, .ptr ⟨(.arr 4 (.int .u64)), 4, 1, []⟩, .ptr ⟨(.arr 4 (.int .u64)), 5, 1, []⟩, .val (.int .i64) none (.int x6_1), .val (.int .u64) none (.int x7_1), .any, .any, .any, .any, .any, .any, .any, .any, .any, .any, .any, .any, .any, .val (.int .i64) none (.int x21_1), .val (.int .i64) none (.int x22_1), .any, .any, .any, .any, .any, .any, .any, .any, .any, .any, .any, .any, .any, .any, .any, .any, .any, .any, .any, .any, .any, .any, .any, .any, .any, .any, .any, .any, .any, .any, .any, .any, .any, .any, .any, .any], [⟨0, none⟩, ⟨0, none⟩, ⟨1, some ⟨(.arr 4 (.int .u64)), .agg o2_1⟩⟩, ⟨0, none⟩, ⟨1, some ⟨(.arr 4 (.int .u64)), .agg o4_1⟩⟩, ⟨1, some ⟨(.arr 4 (.int .u64)), .agg o5_1⟩⟩, ⟨0, none⟩, ⟨0, none⟩, ⟨0, none⟩, ⟨0, none⟩, ⟨0, none⟩, ⟨0, none⟩, ⟨0, none⟩, ⟨0, none⟩, ⟨0, none⟩, ⟨0, none⟩, ⟨0, none⟩, ⟨0, none⟩, ⟨0, none⟩, ⟨0, none⟩, ⟨0, none⟩, ⟨0, none⟩, ⟨0, none⟩, ⟨0, none⟩, ⟨0, none⟩, ⟨0, none⟩, ⟨0, none⟩, ⟨0, none⟩, ⟨0, none⟩, ⟨0, none⟩, ⟨0, none⟩, ⟨0, none⟩, ⟨0, none⟩, ⟨0, none⟩, ⟨0, none⟩, ⟨0, none⟩, ⟨0, none⟩, ⟨0, none⟩, ⟨0, none⟩, ⟨0, none⟩, ⟨0, none⟩, ⟨0, none⟩, ⟨0, none⟩, ⟨0, none⟩, ⟨0, none⟩, ⟨0, none⟩, ⟨0, none⟩, ⟨0, none⟩, ⟨0, none⟩, ⟨0, none⟩, ⟨0, none⟩, ⟨0, none⟩, ⟨0, none⟩, ⟨0, none⟩, ⟨0, none⟩, ⟨0, none⟩, ⟨0, none⟩, ⟨0, none⟩, ⟨0, none⟩], List.replicate 59 0⟩
theorem f114_l0_eq (run : Run) (n : Nat) (k0 : Nat) (x6_1 : Int) (x7_1 : Int) (x21_1 : Int) (x22_1 : Int) (o2_1 : List AV) (o4_1 : List AV) (o5_1 : List AV) : f114_l0 run n (k0 + 1) x6_1 x7_1 x21_1 x22_1 o2_1 o4_1 o5_1 =
  bif ltI x22_1 x21_1 then
    bif inR (IntKind.wrap .i64 (x22_1 + x6_1)) 4 then
    bif leI 0 x7_1 then
    bif inR x22_1 4 then
    bif ltI 0 x7_1 then
    bif ltI (IntKind.wrap .i64 (IntKind.wrap .i64 (x22_1 + x6_1) + 1)) 4 then
    bif inR x22_1 4 then
    bif inR (IntKind.wrap .i64 (IntKind.wrap .i64 (x22_1 + x6_1) + 1)) 4 then
    bif leI 0 (IntKind.wrap .u64 (64 - x7_1)) then
    bif inR x22_1 4 then
    f114_l0 run n k0 x6_1 x7_1 x21_1 (IntKind.wrap .i64 (x22_1 + 1)) o2_1 o4_1 ((o5_1.set (Int.toNat x22_1) (.int (Int.fdiv ((AV.fld (.agg o2_1) (Int.toNat (IntKind.wrap .i64 (x22_1 + x6_1)))).toInt) (2 ^ (min (Int.toNat x7_1) 64))))).set (Int.toNat x22_1) (.int (IntKind.wrap .u64 (BitVec.toNat (BitVec.ofInt 64 ((AV.fld (.agg (o5_1.set (Int.toNat x22_1) (.int (Int.fdiv ((AV.fld (.agg o2_1) (Int.toNat (IntKind.wrap .i64 (x22_1 + x6_1)))).toInt) (2 ^ (min (Int.toNat x7_1) 64)))))) (Int.toNat x22_1)).toInt) ||| BitVec.ofInt 64 (IntKind.wrap .u64 ((AV.fld (.agg o2_1) (Int.toNat (IntKind.wrap .i64 (IntKind.wrap .i64 (x22_1 + x6_1) + 1)))).toInt * 2 ^ (min (Int.toNat (IntKind.wrap .u64 (64 - x7_1))) 64))))))))
  else none
  else none
  else none
  else none
  else
    f114_l0 run n k0 x6_1 x7_1 x21_1 (IntKind.wrap .i64 (x22_1 + 1)) o2_1 o4_1 (o5_1.set (Int.toNat x22_1) (.int (Int.fdiv ((AV.fld (.agg o2_1) (Int.toNat (IntKind.wrap .i64 (x22_1 + x6_1)))).toInt) (2 ^ (min (Int.toNat x7_1) 64)))))
  else
    f114_l0 run n k0 x6_1 x7_1 x21_1 (IntKind.wrap .i64 (x22_1 + 1)) o2_1 o4_1 (o5_1.set (Int.toNat x22_1) (.int (Int.fdiv ((AV.fld (.agg o2_1) (Int.toNat (IntKind.wrap .i64 (x22_1 + x6_1)))).toInt) (2 ^ (min (Int.toNat x7_1) 64)))))
  else none
  else none
  else none
  else
    some ⟨[.agg o5_1], [], f114_fresh⟩ := by kernel_rfl
noncomputable def f114 (run : Run) (n : Nat) (a0_1 : List AV) (a1_1 : Int) : Option Res := evalK G run n f114_info.keep 0 f114_info.body (retE G f114_info) (f114_info.start [.agg a0_1, .int a1_1])
theorem f114_eq (run : Run) (n : Nat) (a0_1 : List AV) (a1_1 : Int) : f114 run n a0_1 a1_1 =
  bif leI a1_1 0 then
    some ⟨[.agg a0_1], [], f114_fresh⟩
  else
    bif leI 256 a1_1 then
    some ⟨[.agg [.int 0, .int 0, .int 0, .int 0]], [], f114_fresh⟩
  else
    f114_l0 run n n (IntKind.wrap .i64 (Int.tdiv a1_1 64)) (IntKind.wrap .u64 (Int.tmod a1_1 64)) (IntKind.wrap .i64 (4 - IntKind.wrap .i64 (Int.tdiv a1_1 64))) 0 a0_1 (List.replicate 4 (.int 0)) (List.replicate 4 (.int 0)) := by kernel_rfl
theorem f114_run (ext : Run) (n : Nat) (a0_1 : List AV) (a1_1 : Int) : runE G ext (n + 1) 114 [.agg a0_1, .int a1_1] = f114 (runE G ext n) n a0_1 a1_1 := runE_succ f114_at f114_in

noncomputable def f90_l0 (run : Run) (n : Nat) (k0 : Nat) (x7_1 : Int) (x13_1 : Int) (o5_1 : List AV) (o6_1 : List AV) : Option Res :=
  iterK (evalK G run n f90_keep 0 (sub [1, 1, 1, 0, 1, 0, 0] f90_body)) f90_t0 f90_o0 (blockK 0 (seqK (evalK G run n f90_keep 0 (sub [1, 1, 1, 1] f90_body) (retE G f90_info)) (retE G f90_info))) k0
    ⟨[.any, .any, .any, .any, .any, .ptr ⟨(.arr 4 (.int .u64)), 5, 1, []⟩, .ptr ⟨(.arr 4 (.int .u64)), 6, 1, []⟩, .val (.int .i64) none (.int x7_1), .any, .any, .any, .any, .any, .val (.int .i64) none (.int x13_1), .any, .any, .any, .any, .any, .any, .any, .any, .any, .any, .any], [⟨0, none⟩, ⟨0, none⟩, ⟨0, none⟩, ⟨0, none⟩, ⟨0, none⟩, ⟨1, some ⟨(.arr 4 (.int .u64)), .agg o5_1⟩⟩, ⟨1, some ⟨(.arr 4 (.int .u64)), .agg o6_1⟩⟩, ⟨0, none⟩, ⟨0, none⟩, ⟨0, none⟩, ⟨0, none⟩, ⟨0, none⟩, ⟨0, none⟩, ⟨0, none⟩, ⟨0, none⟩, ⟨0, none⟩, ⟨0, none⟩, ⟨0, none⟩, ⟨0, none⟩, ⟨0, none⟩, ⟨0, none⟩, ⟨0, none⟩, ⟨0, none⟩, ⟨0, none⟩, ⟨0, none⟩], List.replicate 25 0⟩
theorem f90_l0_eq (run : Run) (n : Nat) (k0 : Nat) (x7_1 : Int) (x13_1 : Int) (o5_1 : List AV) (o6_1 : List AV) : f90_l0 run n (k0 + 1) x7_1 x13_1 o5_1 o6_1 =
  bif ltI x13_1 256 then
    (run 114 [.agg o6_1, .int x13_1]).bind fun r3 =>
    nilV r3.outs (consV r3.vals fun v3 vs3 =>
    nilV vs3 ((run 93 [.agg o5_1, .agg v3.toAgg]).bind fun r4 =>
    nilV r4.outs (consV r4.vals fun v4 vs4 =>
    nilV vs4 (bif ltI 0 v4.toInt then
    some ⟨[.int x7_1], [], f90_fresh⟩
  else
    f90_l0 run n k0 x13_1 (IntKind.wrap .i64 (x13_1 + 1)) o5_1 o6_1))))
  else
    some ⟨[.int x7_1], [], f90_fresh⟩ := by kernel_rfl
noncomputable def f90 (run : Run) (n : Nat) (a0_1 : List UInt8) (a1_1 : List UInt8) : Option Res := evalK G run n f90_info.keep 0 f90_info.body (retE G f90_info) (f90_info.start [.blob a0_1, .blob a1_1])
theorem f90_eq (run : Run) (n : Nat) (a0_1 : List UInt8) (a1_1 : List UInt8) : f90 run n a0_1 a1_1 =
  (run 94 [.blob a0_1]).bind fun r1 =>
    nilV r1.outs (consV r1.vals fun v1 vs1 =>
    nilV vs1 ((run 94 [.blob a1_1]).bind fun r2 =>
    nilV r2.outs (consV r2.vals fun v2 vs2 =>
    nilV vs2 (f90_l0 run n n (-1) 0 v1.toAgg v2.toAgg)))) := by kernel_rfl
theorem f90_run (ext : Run) (n : Nat) (a0_1 : List UInt8) (a1_1 : List UInt8) : runE G ext (n + 1) 90 [.blob a0_1, .blob a1_1] = f90 (runE G ext n) n a0_1 a1_1 := runE_succ f90_at f90_in

noncomputable def f89_l2 (run : Run) (n : Nat) (_k0 : Nat) (k2 : Nat) (m3 : Nat) (x48_1 : Int) (x49_1 : Int) (o4_3 : List UInt8) (o8_3 : List UInt8) (o22_3 : List AV) : Option Res :=
  iterK (evalK G run n f89_keep 2 (sub [1, 1, 1, 1, 1, 1, 1, 0, 1, 0, 0] f89_body)) f89_t2 f89_o2 (blockK 2 (seqK (evalK G run n f89_keep 0 (sub [1, 1, 1, 1, 1, 1, 1, 1] f89_body) (retE G f89_info)) (retE G f89_info))) k2
    ⟨[.any, .any, .any, .any, .ptr ⟨(.blob 32), 4, 1, []⟩, .any, .any, .ref ⟨(.arr m3 (.blob 32)), 22, 1, []⟩ 0 m3, .ptr ⟨(.blob 32), 8, 1, []⟩, .any, .any, .any, .any, .any, .any, .any, .any, .any, .any, .any, .any, .any, .any, .any, .any, .any, .any, .any, .any, .any, .any, .any, .any, .any, .any, .any, .any, .any, .any, .any, .any, .any, .any, .any, .any, .any, .any, .any, .val (.int .i64) none (.int x48_1), .val (.int .i64) none (.int x49_1), .any, .any, .any, .any, .any, .any, .any, .any, .any, .any, .any, .any, .any, .any], [⟨0, none⟩, ⟨0, none⟩, ⟨0, none⟩, ⟨0, none⟩, ⟨1, some ⟨(.blob 32), .blob o4_3⟩⟩, ⟨0, none⟩, ⟨0, none⟩, ⟨0, none⟩, ⟨1, some ⟨(.blob 32), .blob o8_3⟩⟩, ⟨0, none⟩, ⟨0, none⟩, ⟨0, none⟩, ⟨0, none⟩, ⟨0, none⟩, ⟨0, none⟩, ⟨0, none⟩, ⟨0, none⟩, ⟨0, none⟩, ⟨0, none⟩, ⟨0, none⟩, ⟨0, none⟩, ⟨0, none⟩, ⟨1, some ⟨(.arr m3 (.blob 32)), .agg o22_3⟩⟩, ⟨0, none⟩, ⟨0, none⟩, ⟨0, none⟩, ⟨0, none⟩, ⟨0, none⟩, ⟨0, none⟩, ⟨0, none⟩, ⟨0, none⟩, ⟨0, none⟩, ⟨0, none⟩, ⟨0, none⟩, ⟨0, none⟩, ⟨0, none⟩, ⟨0, none⟩, ⟨0, none⟩, ⟨0, none⟩, ⟨0, none⟩, ⟨0, none⟩, ⟨0, none⟩, ⟨0, none⟩, ⟨0, none⟩, ⟨0, none⟩, ⟨0, none⟩, ⟨0, none⟩, ⟨0, none⟩, ⟨0, none⟩, ⟨0, none⟩, ⟨0, none⟩, ⟨0, none⟩, ⟨0, none⟩, ⟨0, none⟩, ⟨0, none⟩, ⟨0, none⟩, ⟨0, none⟩, ⟨0, none⟩, ⟨0, none⟩, ⟨0, none⟩, ⟨0, none⟩, ⟨0, none⟩, ⟨0, none⟩, ⟨0, none⟩], List.replicate 64 0⟩
noncomputable def f89_l0 (run : Run) (n : Nat) (k0 : Nat) (x0_1 : List AV) (x2_1 : Int) (m1 : Nat) (x30_1 : Int) (x31_1 : Int) (o4_1 : List UInt8) (o8_1 : List UInt8) (o22_1 : List AV) : Option Res :=
  iterK (evalK G run n f89_keep 0 (sub [1, 1, 1, 1, 1, 0, 1, 0, 0] f89_body)) f89_t0 f89_o0 (blockK 0 (seqK (evalK G run n f89_keep 0 (sub [1, 1, 1, 1, 1, 1] f89_body) (retE G f89_info)) (retE G f89_info))) k0
    ⟨[.val (.slice (.blob 32)) none (.slice x0_1), .any, .val (.int .i64) none (.int x2_1), .any, .ptr ⟨(.blob 32), 4, 1, []⟩, .any, .any, .ref ⟨(.arr m1 (.blob 32)), 22, 1, []⟩ 0 m1, .ptr ⟨(.blob 32), 8, 1, []⟩, .any, .any, .any, .any, .any, .any, .any, .any, .any, .any, .any, .any, .any, .any, .any, .any, .any, .any, .any, .any, .any, .val (.int .i64) none (.int x30_1), .val (.int .i64) none (.int x31_1), .any, .any, .any, .any, .any, .any, .any, .any, .any, .any, .any, .any, .any, .any, .any, .any, .any, .any, .any, .any, .any, .any, .any, .any, .any, .any, .any, .any, .any, .any, .any, .any], [⟨0, none⟩, ⟨0, none⟩, ⟨0, none⟩, ⟨0, none⟩, ⟨1, some ⟨(.blob 32), .blob o4_1⟩⟩, ⟨0, none⟩, ⟨0, none⟩, ⟨0, none⟩, ⟨1, some ⟨(.blob 32), .blob o8_1⟩⟩, ⟨0, none⟩, ⟨0, none⟩, ⟨0, none⟩, ⟨0, none⟩, ⟨0, none⟩, ⟨0, none⟩, ⟨0, none⟩, ⟨0, none⟩, ⟨0, none⟩, ⟨0, none⟩, ⟨0, none⟩, ⟨0, none⟩, ⟨0, none⟩, ⟨1, some ⟨(.arr m1 (.blob 32)), .agg o22_1⟩⟩, ⟨0, none⟩, ⟨0, none⟩, ⟨0, none⟩, ⟨0, none⟩, ⟨0, none⟩, ⟨0, none⟩, ⟨0, none⟩, ⟨0, none⟩, ⟨0, none⟩, ⟨0, none⟩, ⟨0, none⟩, ⟨0, none⟩, ⟨0, none⟩, ⟨0, none⟩, ⟨0, none⟩, ⟨0, none⟩, ⟨0, none⟩, ⟨0, none⟩, ⟨0, none⟩, ⟨0, none⟩, ⟨0, none⟩, ⟨0, none⟩, ⟨0, none⟩, ⟨0, none⟩, ⟨0, none⟩, ⟨0, none⟩, ⟨0, none⟩, ⟨0, none⟩, ⟨0, none⟩, ⟨0, none⟩, ⟨0, none⟩, ⟨0, none⟩, ⟨0, none⟩, ⟨0, none⟩, ⟨0, none⟩, ⟨0, none⟩, ⟨0, none⟩, ⟨0, none⟩, ⟨0, none⟩, ⟨0, none⟩, ⟨0, none⟩], List.replicate 64 0⟩
theorem f89_l2_eq (run : Run) (n : Nat) (k0 : Nat) (k2 : Nat) (m3 : Nat) (x48_1 : Int) (x49_1 : Int) (o4_3 : List UInt8) (o8_3 : List UInt8) (o22_3 : List AV) : f89_l2 run n k0 (k2 + 1) m3 x48_1 x49_1 o4_3 o8_3 o22_3 =
  bif ltI x49_1 x48_1 then
    bif inR x49_1 m3 then
    f89_l2 run n k0 k2 m3 x48_1 (IntKind.wrap .i64 (x49_1 + 1)) o4_3 o8_3 (o22_3.set (0 + (Int.toNat x49_1)) (.blob o4_3))
  else none
  else
    bif inR (IntKind.wrap .i64 ((m3 : Int) - 1)) m3 then
    some ⟨[.slice (List.drop 0 (List.take m3 (o22_3.set (0 + (Int.toNat (IntKind.wrap .i64 ((m3 : Int) - 1)))) (.blob o8_3))))], [], f89_fresh⟩
  else none := by kernel_rfl
theorem f89_l0_eq (run : Run) (n : Nat) (k0 : Nat) (x0_1 : List AV) (x2_1 : Int) (m1 : Nat) (x30_1 : Int) (x31_1 : Int) (o4_1 : List UInt8) (o8_1 : List UInt8) (o22_1 : List AV) : f89_l0 run n (k0 + 1) x0_1 x2_1 m1 x30_1 x31_1 o4_1 o8_1 o22_1 =
  bif ltI x31_1 x30_1 then
    bif inR x31_1 m1 then
    f89_l0 run n k0 x0_1 x2_1 m1 x30_1 (IntKind.wrap .i64 (x31_1 + 1)) o4_1 o8_1 (o22_1.set (0 + (Int.toNat x31_1)) (.blob o8_1))
  else none
  else
    bif boundsOk 0 (x0_1.length : Int) (x0_1.length : Int) (x0_1.length : Int) && true then
    f89_l2 run n k0 n m1 (IntKind.wrap .i64 (x2_1 + 1)) 0 o4_1 o8_1 (splice o22_1 0 (List.take m1 (List.drop 0 (List.take (Int.toNat (x0_1.length : Int)) x0_1))))
  else none := by kernel_rfl
noncomputable def f89 (run : Run) (n : Nat) (a0_1 : List AV) (a1_1 : List UInt8) (a2_1 : Int) : Option Res := evalK G run n f89_info.keep 0 f89_info.body (retE G f89_info) (f89_info.start [.slice a0_1, .blob a1_1, .int a2_1])
theorem f89_eq (run : Run) (n : Nat) (a0_1 : List AV) (a1_1 : List UInt8) (a2_1 : Int) : f89 run n a0_1 a1_1 a2_1 =
  bif eqI (a0_1.length : Int) 0 then
    some ⟨[.slice []], [], f89_fresh⟩
  else
    bif eqI (mx2 (a0_1.length : Int) (IntKind.wrap .i64 (mn2 (mx2 a2_1 0) 255 + 2))) (mx2 (a0_1.length : Int) (IntKind.wrap .i64 (mn2 (mx2 a2_1 0) 255 + 2))) && leI 0 (mx2 (a0_1.length : Int) (IntKind.wrap .i64 (mn2 (mx2 a2_1 0) 255 + 2))) && Nat.ble (Int.toNat (mx2 (a0_1.length : Int) (IntKind.wrap .i64 (mn2 (mx2 a2_1 0) 255 + 2))) * 32) 140737488355328 then
    bif inR (IntKind.wrap .i64 ((a0_1.length : Int) - 1)) a0_1.length then
    f89_l0 run n n a0_1 (mn2 (mx2 a2_1 0) 255) (Int.toNat (mx2 (a0_1.length : Int) (IntKind.wrap .i64 (mn2 (mx2 a2_1 0) 255 + 2)))) (Int.toNat (mx2 (a0_1.length : Int) (IntKind.wrap .i64 (mn2 (mx2 a2_1 0) 255 + 2))) : Int) 0 a1_1 ((nth a0_1 (Int.toNat (IntKind.wrap .i64 ((a0_1.length : Int) - 1)))).toBlob) (List.replicate (Int.toNat (mx2 (a0_1.length : Int) (IntKind.wrap .i64 (mn2 (mx2 a2_1 0) 255 + 2)))) (.blob (List.replicate 32 0)))
  else none
  else none := by kernel_rfl
theorem f89_run (ext : Run) (n : Nat) (a0_1 : List AV) (a1_1 : List UInt8) (a2_1 : Int) : runE G ext (n + 1) 89 [.slice a0_1, .blob a1_1, .int a2_1] = f89 (runE G ext n) n a0_1 a1_1 a2_1 := runE_succ f89_at f89_in

noncomputable def f57 (run : Run) (n : Nat) (a0_1 : List UInt8) (a1_1 : List AV) (a2_1 : Int) (a2_2 : List UInt8) (a2_3 : List UInt8) (a2_4 : Int) (a2_5 : List AV) (a3_1 : Int) : Option Res := evalK G run n f57_info.keep 0 f57_info.body (retE G f57_info) (f57_info.start [.blob a0_1, .slice a1_1, .agg [.agg [.int a2_1, .blob a2_2, .blob a2_3, .int a2_4], .slice a2_5], .int a3_1])
theorem f57_eq (run : Run) (n : Nat) (a0_1 : List UInt8) (a1_1 : List AV) (a2_1 : Int) (a2_2 : List UInt8) (a2_3 : List UInt8) (a2_4 : Int) (a2_5 : List AV) (a3_1 : Int) : f57 run n a0_1 a1_1 a2_1 a2_2 a2_3 a2_4 a2_5 a3_1 =
  (run 87 [.agg [.agg [.int a2_1, .blob a2_2, .blob a2_3, .int a2_4], .slice a2_5]]).bind fun r1 =>
    nilV r1.outs (consV r1.vals fun v1 vs1 =>
    nilV vs1 (bif eqI a3_1 0 then
    (run 88 [.blob v1.toBlob]).bind fun r2 =>
    bif r2.fresh then
    nilV r2.outs (consV r2.vals fun v2 vs2 =>
    nilV vs2 (some ⟨[.slice v2.toSlice], [], f57_fresh⟩))
  else none
  else
    (run 90 [.blob v1.toBlob, .blob a0_1]).bind fun r3 =>
    nilV r3.outs (consV r3.vals fun v3 vs3 =>
    nilV vs3 ((run 89 [.slice a1_1, .blob v1.toBlob, .int v3.toInt]).bind fun r4 =>
    nilV r4.outs (consV r4.vals fun v4 vs4 =>
    nilV vs4 (some ⟨[.slice v4.toSlice], [], f57_fresh⟩)))))) := by kernel_rfl
theorem f57_run (ext : Run) (n : Nat) (a0_1 : List UInt8) (a1_1 : List AV) (a2_1 : Int) (a2_2 : List UInt8) (a2_3 : List UInt8) (a2_4 : Int) (a2_5 : List AV) (a3_1 : Int) : runE G ext (n + 1) 57 [.blob a0_1, .slice a1_1, .agg [.agg [.int a2_1, .blob a2_2, .blob a2_3, .int a2_4], .slice a2_5], .int a3_1] = f57 (runE G ext n) n a0_1 a1_1 a2_1 a2_2 a2_3 a2_4 a2_5 a3_1 := runE_succ f57_at f57_in

noncomputable def f46_l0 (run : Run) (n : Nat) (k0 : Nat) (x5_1 : List AV) (x9_1 : List AV) (x10_1 : Int) (x11_1 : Int) (o2_1 : List UInt8) : Option Res :=
  iterK (evalK G run n f46_keep 0 (sub [1, 1, 0, 1, 0, 0] f46_body)) f46_t0 f46_o0 (blockK 0 (seqK (evalK G run n f46_keep 0 (sub [1, 1, 1] f46_body) (retE G f46_info)) (retE G f46_info))) k0
    ⟨[.any, .any, .ptr ⟨(.blob 32), 2, 1, []⟩, .any, .any, .val (.slice (.slice (.blob 32))) (some (5, 0)) (.slice x5_1), .any, .any, .any, .val (.slice (.struct [(.struct [(.int .u32), (.blob 32), (.blob 32), (.int .u64)]), (.slice .str)])) none (.slice x9_1), .val (.int .i64) none (.int x10_1), .val (.int .i64) none (.int x11_1), .any, .any, .any, .any, .any, .any, .any, .any, .any, .any, .any, .any, .any, .any, .any, .any, .any], [⟨0, none⟩, ⟨0, none⟩, ⟨1, some ⟨(.blob 32), .blob o2_1⟩⟩, ⟨0, none⟩, ⟨0, none⟩, ⟨0, none⟩, ⟨0, none⟩, ⟨0, none⟩, ⟨0, none⟩, ⟨0, none⟩, ⟨0, none⟩, ⟨0, none⟩, ⟨0, none⟩, ⟨0, none⟩, ⟨0, none⟩, ⟨0, none⟩, ⟨0, none⟩, ⟨0, none⟩, ⟨0, none⟩, ⟨0, none⟩, ⟨0, none⟩, ⟨0, none⟩, ⟨0, none⟩, ⟨0, none⟩, ⟨0, none⟩, ⟨0, none⟩, ⟨0, none⟩, ⟨0, none⟩, ⟨0, none⟩], List.replicate 29 0⟩
theorem f46_l0_eq (run : Run) (n : Nat) (k0 : Nat) (x5_1 : List AV) (x9_1 : List AV) (x10_1 : Int) (x11_1 : Int) (o2_1 : List UInt8) : f46_l0 run n (k0 + 1) x5_1 x9_1 x10_1 x11_1 o2_1 =
  bif ltI x11_1 x10_1 then
    bif inR x11_1 x9_1.length then
    bif inR x11_1 x5_1.length then
    (run 57 [.blob o2_1, .slice ((nth x5_1 (Int.toNat x11_1)).toSlice), .agg [.agg [.int ((((nth x9_1 (Int.toNat x11_1)).fld 0).fld 0).toInt), .blob ((((nth x9_1 (Int.toNat x11_1)).fld 0).fld 1).toBlob), .blob ((((nth x9_1 (Int.toNat x11_1)).fld 0).fld 2).toBlob), .int ((((nth x9_1 (Int.toNat x11_1)).fld 0).fld 3).toInt)], .slice (((nth x9_1 (Int.toNat x11_1)).fld 1).toSlice)], .int x11_1]).bind fun r1 =>
    nilV r1.outs (consV r1.vals fun v1 vs1 =>
    nilV vs1 (bif Nat.ble ((x5_1.length + 1) * 24) 140737488355328 then
    f46_l0 run n k0 (x5_1 ++ [.slice v1.toSlice]) x9_1 x10_1 (IntKind.wrap .i64 (x11_1 + 1)) o2_1
  else none))
  else none
  else none
  else
    some ⟨[.slice x5_1], [], f46_fresh⟩ := by kernel_rfl
noncomputable def f46 (run : Run) (n : Nat) (a0_1 : List UInt8) (a1_1 : List AV) : Option Res := evalK G run n f46_info.keep 0 f46_info.body (retE G f46_info) (f46_info.start [.blob a0_1, .slice a1_1])
theorem f46_eq (run : Run) (n : Nat) (a0_1 : List UInt8) (a1_1 : List AV) : f46 run n a0_1 a1_1 =
  f46_l0 run n n [.slice []] a1_1 (a1_1.length : Int) 0 a0_1 := by kernel_rfl
theorem f46_run (ext : Run) (n : Nat) (a0_1 : List UInt8) (a1_1 : List AV) : runE G ext (n + 1) 46 [.blob a0_1, .slice a1_1] = f46 (runE G ext n) n a0_1 a1_1 := runE_succ f46_at f46_in

noncomputable def f17 (run : Run) (n : Nat) (a0_1 : List UInt8) (a1_1 : List AV) (a2_1 : List AV) (a3_1 : Int) (a4_1 : Int) : Option Res := evalK G run n f17_info.keep 0 f17_info.body (retE G f17_info) (f17_info.start [.blob a0_1, .slice a1_1, .slice a2_1, .int a3_1, .int a4_1])
theorem f17_eq (run : Run) (n : Nat) (a0_1 : List UInt8) (a1_1 : List AV) (a2_1 : List AV) (a3_1 : Int) (a4_1 : Int) : f17 run n a0_1 a1_1 a2_1 a3_1 a4_1 =
  bif eqI (a1_1.length : Int) 0 then
    some ⟨[.agg [.agg [.int 0, .blob (List.replicate 32 0), .blob (List.replicate 32 0), .int 0], .slice []], .int 6], [], f17_fresh⟩
  else
    bif leI 1024 (a1_1.length : Int) then
    some ⟨[.agg [.agg [.int 0, .blob (List.replicate 32 0), .blob (List.replicate 32 0), .int 0], .slice []], .int 4], [], f17_fresh⟩
  else
    (run 46 [.blob a0_1, .slice a1_1]).bind fun r1 =>
    bif r1.fresh then
    nilV r1.outs (consV r1.vals fun v1 vs1 =>
    nilV vs1 (bif inR (a1_1.length : Int) v1.toSlice.length then
    (run 42 [.blob a0_1, .int (a1_1.length : Int), .slice ((nth v1.toSlice (Int.toNat (a1_1.length : Int))).toSlice), .slice a2_1, .int a3_1, .int a4_1]).bind fun r2 =>
    nilV r2.outs (consV r2.vals fun v2 vs2 =>
    consV vs2 fun v3 vs3 =>
    nilV vs3 (some ⟨[.agg [.agg [.int (((v2.fld 0).fld 0).toInt), .blob (((v2.fld 0).fld 1).toBlob), .blob (((v2.fld 0).fld 2).toBlob), .int (((v2.fld 0).fld 3).toInt)], .slice ((v2.fld 1).toSlice)], .int v3.toInt], [], f17_fresh⟩))
  else none))
  else none := by kernel_rfl
theorem f17_run (ext : Run) (n : Nat) (a0_1 : List UInt8) (a1_1 : List AV) (a2_1 : List AV) (a3_1 : Int) (a4_1 : Int) : runE G ext (n + 1) 17 [.blob a0_1, .slice a1_1, .slice a2_1, .int a3_1, .int a4_1] = f17 (runE G ext n) n a0_1 a1_1 a2_1 a3_1 a4_1 := runE_succ f17_at f17_in

noncomputable def f14_l0 (run : Run) (n : Nat) (k0 : Nat) (x2_1 : Int) (o1_1 : List UInt8) : Option Res :=
  iterK (evalK G run n f14_keep 0 (sub [1, 1, 0, 1, 0, 0] f14_body)) f14_t0 f14_o0 (blockK 0 (seqK (evalK G run n f14_keep 0 (sub [1, 1, 1] f14_body) (retE G f14_info)) (retE G f14_info))) k0
    ⟨[.any, .ptr ⟨(.blob 32), 1, 1, []⟩, .val (.int .i64) none (.int x2_1), .any, .any, .any, .any, .any, .any, .any, .any, .any, .any, .any, .any, .any, .any, .any, .any, .any, .any, .any, .any, .any, .any, .any, .any, .any, .any, .any, .any, .any, .any, .any, .any, .any, .any, .any, .any, .any, .any, .any, .any, .any, .any, .any, .any, .any, .any, .any], [⟨0, none⟩, ⟨1, some ⟨(.blob 32), .blob o1_1⟩⟩, ⟨0, none⟩, ⟨0, none⟩, ⟨0, none⟩, ⟨0, none⟩, ⟨0, none⟩, ⟨0, none⟩, ⟨0, none⟩, ⟨0, none⟩, ⟨0, none⟩, ⟨0, none⟩, ⟨0, none⟩, ⟨0, none⟩, ⟨0, none⟩, ⟨0, none⟩, ⟨0, none⟩, ⟨0, none⟩, ⟨0, none⟩, ⟨0, none⟩, ⟨0, none⟩, ⟨0, none⟩, ⟨0, none⟩, ⟨0, none⟩, ⟨0, none⟩, ⟨0, none⟩, ⟨0, none⟩, ⟨0, none⟩, ⟨0, none⟩, ⟨0, none⟩, ⟨0, none⟩, ⟨0, none⟩, ⟨0, none⟩, ⟨0, none⟩, ⟨0, none⟩, ⟨0, none⟩, ⟨0, none⟩, ⟨0, none⟩, ⟨0, none⟩, ⟨0, none⟩, ⟨0, none⟩, ⟨0, none⟩, ⟨0, none⟩, ⟨0, none⟩, ⟨0, none⟩, ⟨0, none⟩, ⟨0, none⟩, ⟨0, none⟩, ⟨0, none⟩, ⟨0, none⟩], List.replicate 50 0⟩
theorem f14_l0_eq (run : Run) (n : Nat) (k0 : Nat) (x2_1 : Int) (o1_1 : List UInt8) : f14_l0 run n (k0 + 1) x2_1 o1_1 =
  bif ltI x2_1 32 then
    bif inR x2_1 32 then
    f14_l0 run n k0 (IntKind.wrap .i64 (x2_1 + 1)) (o1_1.set (Int.toNat x2_1) (UInt8.ofNat (Int.toNat 255)))
  else none
  else
    (run 15 [.blob o1_1, .slice [.str [97]], .int 7, .int 1]).bind fun r1 =>
    nilV r1.outs (consV r1.vals fun v1 vs1 =>
    consV vs1 fun v2 vs2 =>
    nilV vs2 ((run 17 [.blob o1_1, .slice [.agg [.agg [.int (((v1.fld 0).fld 0).toInt), .blob (((v1.fld 0).fld 1).toBlob), .blob (((v1.fld 0).fld 2).toBlob), .int (((v1.fld 0).fld 3).toInt)], .slice ((v1.fld 1).toSlice)]], .slice [], .int 9, .int 1]).bind fun r2 =>
    nilV r2.outs (consV r2.vals fun v3 vs3 =>
    consV vs3 fun v4 vs4 =>
    nilV vs4 (bif eqI v2.toInt 0 then
    bif eqI (((v1.fld 0).fld 3).toInt) 7 then
    bif eqI v4.toInt 0 then
    bif eqI (((v3.fld 0).fld 0).toInt) 1 then
    some ⟨[.bool (eqI (((v3.fld 0).fld 3).toInt) 9)], [], f14_fresh⟩
  else
    some ⟨[.bool false], [], f14_fresh⟩
  else
    some ⟨[.bool false], [], f14_fresh⟩
  else
    some ⟨[.bool false], [], f14_fresh⟩
  else
    some ⟨[.bool false], [], f14_fresh⟩)))) := by kernel_rfl
noncomputable def f14 (run : Run) (n : Nat) : Option Res := evalK G run n f14_info.keep 0 f14_info.body (retE G f14_info) (f14_info.start [])
theorem f14_eq (run : Run) (n : Nat) : f14 run n  =
  f14_l0 run n n 0 (List.replicate 32 0) := by kernel_rfl
theorem f14_run (ext : Run) (n : Nat) : runE G ext (n + 1) 14 [] = f14 (runE G ext n) n  := runE_succ f14_at f14_in

noncomputable def f13_l0 (run : Run) (n : Nat) (k0 : Nat) (x0_1 : List AV) (x3_1 : Int) (x4_1 : Int) : Option Res :=
  iterK (evalK G run n f13_keep 0 (sub [1, 1, 0, 1, 0, 0] f13_body)) f13_t0 f13_o0 (blockK 0 (seqK (evalK G run n f13_keep 0 (sub [1, 1, 1] f13_body) (retE G f13_info)) (retE G f13_info))) k0
    ⟨[.val (.slice .str) none (.slice x0_1), .any, .any, .val (.int .i64) none (.int x3_1), .val (.int .i64) none (.int x4_1), .any, .any, .any, .any, .any, .any, .any, .any, .any, .any, .any, .any, .any, .any, .any, .any, .any, .any, .any, .any, .any, .any, .any, .any, .any, .any, .any, .any, .any, .any, .any, .any, .any, .any, .any, .any], [⟨0, none⟩, ⟨0, none⟩, ⟨0, none⟩, ⟨0, none⟩, ⟨0, none⟩, ⟨0, none⟩, ⟨0, none⟩, ⟨0, none⟩, ⟨0, none⟩, ⟨0, none⟩, ⟨0, none⟩, ⟨0, none⟩, ⟨0, none⟩, ⟨0, none⟩, ⟨0, none⟩, ⟨0, none⟩, ⟨0, none⟩, ⟨0, none⟩, ⟨0, none⟩, ⟨0, none⟩, ⟨0, none⟩, ⟨0, none⟩, ⟨0, none⟩, ⟨0, none⟩, ⟨0, none⟩, ⟨0, none⟩, ⟨0, none⟩, ⟨0, none⟩, ⟨0, none⟩, ⟨0, none⟩, ⟨0, none⟩, ⟨0, none⟩, ⟨0, none⟩, ⟨0, none⟩, ⟨0, none⟩, ⟨0, none⟩, ⟨0, none⟩, ⟨0, none⟩, ⟨0, none⟩, ⟨0, none⟩, ⟨0, none⟩], List.replicate 41 0⟩
theorem f13_l0_eq (run : Run) (n : Nat) (k0 : Nat) (x0_1 : List AV) (x3_1 : Int) (x4_1 : Int) : f13_l0 run n (k0 + 1) x0_1 x3_1 x4_1 =
  bif ltI x4_1 (x0_1.length : Int) then
    bif ltI x4_1 1100 then
    bif inR x4_1 x0_1.length then
    f13_l0 run n k0 x0_1 (mn2 (IntKind.wrap .i64 (IntKind.wrap .i64 (x3_1 + 1) + (((nth x0_1 (Int.toNat x4_1)).toStr).length : Int))) 1048576) (IntKind.wrap .i64 (x4_1 + 1))
  else none
  else
    bif ltI 60 (x0_1.length : Int) then
    bif leI (x0_1.length : Int) 1024 then
    some ⟨[.bool true], [], f13_fresh⟩
  else
    bif ltI 1050 (x0_1.length : Int) then
    some ⟨[.bool true], [], f13_fresh⟩
  else
    some ⟨[.bool (ltI 6000 x3_1)], [], f13_fresh⟩
  else
    bif ltI 1050 (x0_1.length : Int) then
    some ⟨[.bool true], [], f13_fresh⟩
  else
    some ⟨[.bool (ltI 6000 x3_1)], [], f13_fresh⟩
  else
    bif ltI 60 (x0_1.length : Int) then
    bif leI (x0_1.length : Int) 1024 then
    some ⟨[.bool true], [], f13_fresh⟩
  else
    bif ltI 1050 (x0_1.length : Int) then
    some ⟨[.bool true], [], f13_fresh⟩
  else
    some ⟨[.bool (ltI 6000 x3_1)], [], f13_fresh⟩
  else
    bif ltI 1050 (x0_1.length : Int) then
    some ⟨[.bool true], [], f13_fresh⟩
  else
    some ⟨[.bool (ltI 6000 x3_1)], [], f13_fresh⟩ := by kernel_rfl
noncomputable def f13 (run : Run) (n : Nat) (a0_1 : List AV) : Option Res := evalK G run n f13_info.keep 0 f13_info.body (retE G f13_info) (f13_info.start [.slice a0_1])
theorem f13_eq (run : Run) (n : Nat) (a0_1 : List AV) : f13 run n a0_1 =
  f13_l0 run n n a0_1 0 0 := by kernel_rfl
theorem f13_run (ext : Run) (n : Nat) (a0_1 : List AV) : runE G ext (n + 1) 13 [.slice a0_1] = f13 (runE G ext n) n a0_1 := runE_succ f13_at f13_in

noncomputable def f12_l0 (run : Run) (n : Nat) (k0 : Nat) (x0_1 : List AV) (x3_1 : Int) (x4_1 : Int) : Option Res :=
  iterK (evalK G run n f12_keep 0 (sub [1, 1, 0, 1, 0, 0] f12_body)) f12_t0 f12_o0 (blockK 0 (seqK (evalK G run n f12_keep 0 (sub [1, 1, 1] f12_body) (retE G f12_info)) (retE G f12_info))) k0
    ⟨[.val (.slice (.struct [(.struct [(.int .u32), (.blob 32), (.blob 32), (.int .u64)]), (.slice .str)])) none (.slice x0_1), .any, .any, .val (.int .i64) none (.int x3_1), .val (.int .i64) none (.int x4_1), .any, .any, .any, .any, .any, .any, .any, .any, .any, .any, .any, .any, .any, .any, .any, .any, .any, .any, .any, .any, .any, .any, .any, .any, .any, .any, .any, .any, .any, .any, .any], [⟨0, none⟩, ⟨0, none⟩, ⟨0, none⟩, ⟨0, none⟩, ⟨0, none⟩, ⟨0, none⟩, ⟨0, none⟩, ⟨0, none⟩, ⟨0, none⟩, ⟨0, none⟩, ⟨0, none⟩, ⟨0, none⟩, ⟨0, none⟩, ⟨0, none⟩, ⟨0, none⟩, ⟨0, none⟩, ⟨0, none⟩, ⟨0, none⟩, ⟨0, none⟩, ⟨0, none⟩, ⟨0, none⟩, ⟨0, none⟩, ⟨0, none⟩, ⟨0, none⟩, ⟨0, none⟩, ⟨0, none⟩, ⟨0, none⟩, ⟨0, none⟩, ⟨0, none⟩, ⟨0, none⟩, ⟨0, none⟩, ⟨0, none⟩, ⟨0, none⟩, ⟨0, none⟩, ⟨0, none⟩, ⟨0, none⟩], List.replicate 36 0⟩
theorem f12_l0_eq (run : Run) (n : Nat) (k0 : Nat) (x0_1 : List AV) (x3_1 : Int) (x4_1 : Int) : f12_l0 run n (k0 + 1) x0_1 x3_1 x4_1 =
  bif ltI x4_1 (x0_1.length : Int) then
    bif ltI x4_1 30 then
    bif inR x4_1 x0_1.length then
    (run 13 [.slice (((nth x0_1 (Int.toNat x4_1)).fld 1).toSlice)]).bind fun r1 =>
    nilV r1.outs (consV r1.vals fun v1 vs1 =>
    nilV vs1 (bif v1.toBool then
    some ⟨[.bool true], [], f12_fresh⟩
  else
    bif inR x4_1 x0_1.length then
    f12_l0 run n k0 x0_1 (IntKind.wrap .i64 (x3_1 + ((((nth x0_1 (Int.toNat x4_1)).fld 1).toSlice).length : Int))) (IntKind.wrap .i64 (x4_1 + 1))
  else none))
  else none
  else
    bif ltI 24 (x0_1.length : Int) then
    some ⟨[.bool true], [], f12_fresh⟩
  else
    some ⟨[.bool (ltI 100 x3_1)], [], f12_fresh⟩
  else
    bif ltI 24 (x0_1.length : Int) then
    some ⟨[.bool true], [], f12_fresh⟩
  else
    some ⟨[.bool (ltI 100 x3_1)], [], f12_fresh⟩ := by kernel_rfl
noncomputable def f12 (run : Run) (n : Nat) (a0_1 : List AV) : Option Res := evalK G run n f12_info.keep 0 f12_info.body (retE G f12_info) (f12_info.start [.slice a0_1])
theorem f12_eq (run : Run) (n : Nat) (a0_1 : List AV) : f12 run n a0_1 =
  f12_l0 run n n a0_1 0 0 := by kernel_rfl
theorem f12_run (ext : Run) (n : Nat) (a0_1 : List AV) : runE G ext (n + 1) 12 [.slice a0_1] = f12 (runE G ext n) n a0_1 := runE_succ f12_at f12_in

noncomputable def f43_l0 (run : Run) (n : Nat) (k0 : Nat) (x0_1 : List AV) (x3_1 : Int) : Option Res :=
  iterK (evalK G run n f43_keep 0 (sub [1, 1, 0, 1, 0, 0] f43_body)) f43_t0 f43_o0 (blockK 0 (seqK (evalK G run n f43_keep 0 (sub [1, 1, 1] f43_body) (retE G f43_info)) (retE G f43_info))) k0
    ⟨[.val (.slice .str) none (.slice x0_1), .any, .any, .val (.int .i64) none (.int x3_1), .any, .any, .any, .any, .any, .any, .any, .any, .any, .any, .any, .any, .any, .any, .any], [⟨0, none⟩, ⟨0, none⟩, ⟨0, none⟩, ⟨0, none⟩, ⟨0, none⟩, ⟨0, none⟩, ⟨0, none⟩, ⟨0, none⟩, ⟨0, none⟩, ⟨0, none⟩, ⟨0, none⟩, ⟨0, none⟩, ⟨0, none⟩, ⟨0, none⟩, ⟨0, none⟩, ⟨0, none⟩, ⟨0, none⟩, ⟨0, none⟩, ⟨0, none⟩], List.replicate 19 0⟩
theorem f43_l0_eq (run : Run) (n : Nat) (k0 : Nat) (x0_1 : List AV) (x3_1 : Int) : f43_l0 run n (k0 + 1) x0_1 x3_1 =
  bif ltI x3_1 (x0_1.length : Int) then
    bif inR x3_1 x0_1.length then
    bif ltI 4096 (((nth x0_1 (Int.toNat x3_1)).toStr).length : Int) then
    some ⟨[.int 4], [], f43_fresh⟩
  else
    f43_l0 run n k0 x0_1 (IntKind.wrap .i64 (x3_1 + 1))
  else none
  else
    some ⟨[.int 0], [], f43_fresh⟩ := by kernel_rfl
noncomputable def f43 (run : Run) (n : Nat) (a0_1 : List AV) : Option Res := evalK G run n f43_info.keep 0 f43_info.body (retE G f43_info) (f43_info.start [.slice a0_1])
theorem f43_eq (run : Run) (n : Nat) (a0_1 : List AV) : f43 run n a0_1 =
  bif ltI 1024 (a0_1.length : Int) then
    some ⟨[.int 4], [], f43_fresh⟩
  else
    f43_l0 run n n a0_1 0 := by kernel_rfl
theorem f43_run (ext : Run) (n : Nat) (a0_1 : List AV) : runE G ext (n + 1) 43 [.slice a0_1] = f43 (runE G ext n) n a0_1 := runE_succ f43_at f43_in

noncomputable def f109_l0 (run : Run) (n : Nat) (k0 : Nat) (x0_1 : List AV) (x3_1 : List AV) (x4_1 : Int) : Option Res :=
  iterK (evalK G run n f109_keep 0 (sub [1, 1, 0, 1, 0, 0] f109_body)) f109_t0 f109_o0 (blockK 0 (seqK (evalK G run n f109_keep 0 (sub [1, 1, 1] f109_body) (retE G f109_info)) (retE G f109_info))) k0
    ⟨[.val (.slice (.blob 32)) none (.slice x0_1), .any, .any, .val (.slice .str) (some (3, 0)) (.slice x3_1), .val (.int .i64) none (.int x4_1), .any, .any, .any, .any, .any, .any, .any, .any, .any, .any, .any, .any, .any, .any, .any], [⟨0, none⟩, ⟨0, none⟩, ⟨0, none⟩, ⟨0, none⟩, ⟨0, none⟩, ⟨0, none⟩, ⟨0, none⟩, ⟨0, none⟩, ⟨0, none⟩, ⟨0, none⟩, ⟨0, none⟩, ⟨0, none⟩, ⟨0, none⟩, ⟨0, none⟩, ⟨0, none⟩, ⟨0, none⟩, ⟨0, none⟩, ⟨0, none⟩, ⟨0, none⟩, ⟨0, none⟩], List.replicate 20 0⟩
theorem f109_l0_eq (run : Run) (n : Nat) (k0 : Nat) (x0_1 : List AV) (x3_1 : List AV) (x4_1 : Int) : f109_l0 run n (k0 + 1) x0_1 x3_1 x4_1 =
  bif ltI x4_1 (x0_1.length : Int) then
    bif inR x4_1 x0_1.length then
    (run 105 [.blob ((nth x0_1 (Int.toNat x4_1)).toBlob)]).bind fun r1 =>
    nilV r1.outs (consV r1.vals fun v1 vs1 =>
    nilV vs1 (bif Nat.ble ((x3_1.length + 1) * 16) 140737488355328 then
    f109_l0 run n k0 x0_1 (x3_1 ++ [.str v1.toStr]) (IntKind.wrap .i64 (x4_1 + 1))
  else none))
  else none
  else
    some ⟨[.slice x3_1], [], f109_fresh⟩ := by kernel_rfl
noncomputable def f109 (run : Run) (n : Nat) (a0_1 : List AV) : Option Res := evalK G run n f109_info.keep 0 f109_info.body (retE G f109_info) (f109_info.start [.slice a0_1])
theorem f109_eq (run : Run) (n : Nat) (a0_1 : List AV) : f109 run n a0_1 =
  f109_l0 run n n a0_1 [] 0 := by kernel_rfl
theorem f109_run (ext : Run) (n : Nat) (a0_1 : List AV) : runE G ext (n + 1) 109 [.slice a0_1] = f109 (runE G ext n) n a0_1 := runE_succ f109_at f109_in

noncomputable def f130_l0 (run : Run) (n : Nat) (k0 : Nat) (x0_1 : List AV) (x3_1 : List AV) (x4_1 : Int) : Option Res :=
  iterK (evalK G run n f130_keep 0 (sub [1, 1, 0, 1, 0, 0] f130_body)) f130_t0 f130_o0 (blockK 0 (seqK (evalK G run n f130_keep 0 (sub [1, 1, 1] f130_body) (retE G f130_info)) (retE G f130_info))) k0
    ⟨[.val (.slice .str) none (.slice x0_1), .any, .any, .val (.slice (.blob 32)) (some (3, 0)) (.slice x3_1), .val (.int .i64) none (.int x4_1), .any, .any, .any, .any, .any, .any, .any, .any, .any, .any, .any, .any, .any, .any, .any], [⟨0, none⟩, ⟨0, none⟩, ⟨0, none⟩, ⟨0, none⟩, ⟨0, none⟩, ⟨0, none⟩, ⟨0, none⟩, ⟨0, none⟩, ⟨0, none⟩, ⟨0, none⟩, ⟨0, none⟩, ⟨0, none⟩, ⟨0, none⟩, ⟨0, none⟩, ⟨0, none⟩, ⟨0, none⟩, ⟨0, none⟩, ⟨0, none⟩, ⟨0, none⟩, ⟨0, none⟩], List.replicate 20 0⟩
theorem f130_l0_eq (run : Run) (n : Nat) (k0 : Nat) (x0_1 : List AV) (x3_1 : List AV) (x4_1 : Int) : f130_l0 run n (k0 + 1) x0_1 x3_1 x4_1 =
  bif ltI x4_1 (x0_1.length : Int) then
    bif inR x4_1 x0_1.length then
    (run 136 [.str ((nth x0_1 (Int.toNat x4_1)).toStr)]).bind fun r1 =>
    nilV r1.outs (consV r1.vals fun v1 vs1 =>
    nilV vs1 (bif Nat.ble ((x3_1.length + 1) * 32) 140737488355328 then
    f130_l0 run n k0 x0_1 (x3_1 ++ [.blob v1.toBlob]) (IntKind.wrap .i64 (x4_1 + 1))
  else none))
  else none
  else
    some ⟨[.slice x3_1], [], f130_fresh⟩ := by kernel_rfl
noncomputable def f130 (run : Run) (n : Nat) (a0_1 : List AV) : Option Res := evalK G run n f130_info.keep 0 f130_info.body (retE G f130_info) (f130_info.start [.slice a0_1])
theorem f130_eq (run : Run) (n : Nat) (a0_1 : List AV) : f130 run n a0_1 =
  f130_l0 run n n a0_1 [] 0 := by kernel_rfl
theorem f130_run (ext : Run) (n : Nat) (a0_1 : List AV) : runE G ext (n + 1) 130 [.slice a0_1] = f130 (runE G ext n) n a0_1 := runE_succ f130_at f130_in

noncomputable def f129 (run : Run) (n : Nat) (a0_1 : List AV) : Option Res := evalK G run n f129_info.keep 0 f129_info.body (retE G f129_info) (f129_info.start [.slice a0_1])
theorem f129_eq (run : Run) (n : Nat) (a0_1 : List AV) : f129 run n a0_1 =
  bif eqI (a0_1.length : Int) 0 then
    some ⟨[.blob [0, 0, 0, 0, 0, 0, 0, 0, 0, 0, 0, 0, 0, 0, 0, 0, 0, 0, 0, 0, 0, 0, 0, 0, 0, 0, 0, 0, 0, 0, 0, 0]], [], f129_fresh⟩
  else
    bif eqI (a0_1.length : Int) 1 then
    bif inR 0 a0_1.length then
    some ⟨[.blob ((nth a0_1 0).toBlob)], [], f129_fresh⟩
  else none
  else
    (run 147 [.int (a0_1.length : Int)]).bind fun r1 =>
    nilV r1.outs (consV r1.vals fun v1 vs1 =>
    nilV vs1 (bif boundsOk 0 v1.toInt (a0_1.length : Int) (a0_1.length : Int) && true then
    (run 129 [.slice (List.drop 0 (List.take (Int.toNat v1.toInt) a0_1))]).bind fun r2 =>
    nilV r2.outs (consV r2.vals fun v2 vs2 =>
    nilV vs2 (bif boundsOk v1.toInt (a0_1.length : Int) (a0_1.length : Int) (a0_1.length : Int) && true then
    (run 129 [.slice (List.drop (Int.toNat v1.toInt) (List.take (Int.toNat (a0_1.length : Int)) a0_1))]).bind fun r3 =>
    nilV r3.outs (consV r3.vals fun v3 vs3 =>
    nilV vs3 ((run 148 [.blob v2.toBlob, .blob v3.toBlob]).bind fun r4 =>
    nilV r4.outs (consV r4.vals fun v4 vs4 =>
    nilV vs4 (some ⟨[.blob v4.toBlob], [], f129_fresh⟩))))
  else none))
  else none)) := by kernel_rfl
theorem f129_run (ext : Run) (n : Nat) (a0_1 : List AV) : runE G ext (n + 1) 129 [.slice a0_1] = f129 (runE G ext n) n a0_1 := runE_succ f129_at f129_in

noncomputable def f108 (run : Run) (n : Nat) (a0_1 : List AV) : Option Res := evalK G run n f108_info.keep 0 f108_info.body (retE G f108_info) (f108_info.start [.slice a0_1])
theorem f108_eq (run : Run) (n : Nat) (a0_1 : List AV) : f108 run n a0_1 =
  (run 130 [.slice a0_1]).bind fun r1 =>
    bif r1.fresh then
    nilV r1.outs (consV r1.vals fun v1 vs1 =>
    nilV vs1 ((run 129 [.slice v1.toSlice]).bind fun r2 =>
    nilV r2.outs (consV r2.vals fun v2 vs2 =>
    nilV vs2 ((run 128 [.int (IntKind.wrap .u64 (a0_1.length : Int)), .blob v2.toBlob]).bind fun r3 =>
    nilV r3.outs (consV r3.vals fun v3 vs3 =>
    nilV vs3 (some ⟨[.blob v3.toBlob], [], f108_fresh⟩))))))
  else none := by kernel_rfl
theorem f108_run (ext : Run) (n : Nat) (a0_1 : List AV) : runE G ext (n + 1) 108 [.slice a0_1] = f108 (runE G ext n) n a0_1 := runE_succ f108_at f108_in

noncomputable def f78 (run : Run) (n : Nat) (a0_1 : List AV) : Option Res := evalK G run n f78_info.keep 0 f78_info.body (retE G f78_info) (f78_info.start [.slice a0_1])
theorem f78_eq (run : Run) (n : Nat) (a0_1 : List AV) : f78 run n a0_1 =
  (run 109 [.slice a0_1]).bind fun r1 =>
    bif r1.fresh then
    nilV r1.outs (consV r1.vals fun v1 vs1 =>
    nilV vs1 ((run 108 [.slice v1.toSlice]).bind fun r2 =>
    nilV r2.outs (consV r2.vals fun v2 vs2 =>
    nilV vs2 (some ⟨[.blob v2.toBlob], [], f78_fresh⟩))))
  else none := by kernel_rfl
theorem f78_run (ext : Run) (n : Nat) (a0_1 : List AV) : runE G ext (n + 1) 78 [.slice a0_1] = f78 (runE G ext n) n a0_1 := runE_succ f78_at f78_in

noncomputable def f110_l0 (run : Run) (n : Nat) (k0 : Nat) (x0_1 : List AV) (x3_1 : List AV) (x4_1 : Int) : Option Res :=
  iterK (evalK G run n f110_keep 0 (sub [1, 1, 0, 1, 0, 0] f110_body)) f110_t0 f110_o0 (blockK 0 (seqK (evalK G run n f110_keep 0 (sub [1, 1, 1] f110_body) (retE G f110_info)) (retE G f110_info))) k0
    ⟨[.val (.slice .str) none (.slice x0_1), .any, .any, .val (.slice .str) (some (3, 0)) (.slice x3_1), .val (.int .i64) none (.int x4_1), .any, .any, .any, .any, .any, .any, .any, .any, .any, .any, .any, .any, .any, .any, .any], [⟨0, none⟩, ⟨0, none⟩, ⟨0, none⟩, ⟨0, none⟩, ⟨0, none⟩, ⟨0, none⟩, ⟨0, none⟩, ⟨0, none⟩, ⟨0, none⟩, ⟨0, none⟩, ⟨0, none⟩, ⟨0, none⟩, ⟨0, none⟩, ⟨0, none⟩, ⟨0, none⟩, ⟨0, none⟩, ⟨0, none⟩, ⟨0, none⟩, ⟨0, none⟩, ⟨0, none⟩], List.replicate 20 0⟩
theorem f110_l0_eq (run : Run) (n : Nat) (k0 : Nat) (x0_1 : List AV) (x3_1 : List AV) (x4_1 : Int) : f110_l0 run n (k0 + 1) x0_1 x3_1 x4_1 =
  bif ltI x4_1 (x0_1.length : Int) then
    bif inR x4_1 x0_1.length then
    bif Nat.ble (1 + ((nth x0_1 (Int.toNat x4_1)).toStr).length) maxLen then
    bif Nat.ble ((x3_1.length + 1) * 16) 140737488355328 then
    f110_l0 run n k0 x0_1 (x3_1 ++ [.str ([84] ++ ((nth x0_1 (Int.toNat x4_1)).toStr))]) (IntKind.wrap .i64 (x4_1 + 1))
  else none
  else none
  else none
  else
    some ⟨[.slice x3_1], [], f110_fresh⟩ := by kernel_rfl
noncomputable def f110 (run : Run) (n : Nat) (a0_1 : List AV) : Option Res := evalK G run n f110_info.keep 0 f110_info.body (retE G f110_info) (f110_info.start [.slice a0_1])
theorem f110_eq (run : Run) (n : Nat) (a0_1 : List AV) : f110 run n a0_1 =
  f110_l0 run n n a0_1 [] 0 := by kernel_rfl
theorem f110_run (ext : Run) (n : Nat) (a0_1 : List AV) : runE G ext (n + 1) 110 [.slice a0_1] = f110 (runE G ext n) n a0_1 := runE_succ f110_at f110_in

noncomputable def f79 (run : Run) (n : Nat) (a0_1 : List AV) : Option Res := evalK G run n f79_info.keep 0 f79_info.body (retE G f79_info) (f79_info.start [.slice a0_1])
theorem f79_eq (run : Run) (n : Nat) (a0_1 : List AV) : f79 run n a0_1 =
  (run 110 [.slice a0_1]).bind fun r1 =>
    bif r1.fresh then
    nilV r1.outs (consV r1.vals fun v1 vs1 =>
    nilV vs1 ((run 108 [.slice v1.toSlice]).bind fun r2 =>
    nilV r2.outs (consV r2.vals fun v2 vs2 =>
    nilV vs2 (some ⟨[.blob v2.toBlob], [], f79_fresh⟩))))
  else none := by kernel_rfl
theorem f79_run (ext : Run) (n : Nat) (a0_1 : List AV) : runE G ext (n + 1) 79 [.slice a0_1] = f79 (runE G ext n) n a0_1 := runE_succ f79_at f79_in

noncomputable def f45 (run : Run) (n : Nat) (a0_1 : Int) (a1_1 : List AV) (a2_1 : List AV) (a3_1 : Int) : Option Res := evalK G run n f45_info.keep 0 f45_info.body (retE G f45_info) (f45_info.start [.int a0_1, .slice a1_1, .slice a2_1, .int a3_1])
theorem f45_eq (run : Run) (n : Nat) (a0_1 : Int) (a1_1 : List AV) (a2_1 : List AV) (a3_1 : Int) : f45 run n a0_1 a1_1 a2_1 a3_1 =
  (run 78 [.slice a1_1]).bind fun r1 =>
    nilV r1.outs (consV r1.vals fun v1 vs1 =>
    nilV vs1 ((run 79 [.slice a2_1]).bind fun r2 =>
    nilV r2.outs (consV r2.vals fun v2 vs2 =>
    nilV vs2 (some ⟨[.agg [.int a0_1, .blob v1.toBlob, .blob v2.toBlob, .int a3_1]], [], f45_fresh⟩)))) := by kernel_rfl
theorem f45_run (ext : Run) (n : Nat) (a0_1 : Int) (a1_1 : List AV) (a2_1 : List AV) (a3_1 : Int) : runE G ext (n + 1) 45 [.int a0_1, .slice a1_1, .slice a2_1, .int a3_1] = f45 (runE G ext n) n a0_1 a1_1 a2_1 a3_1 := runE_succ f45_at f45_in

noncomputable def f44_l0 (run : Run) (n : Nat) (k0 : Nat) (x2_1 : Int) (x8_1 : Int) (o3_1 : List UInt8) (o4_1 : Int) (o4_2 : List UInt8) (o4_3 : List UInt8) (o4_4 : Int) (o6_1 : Int) (o6_2 : List UInt8) (o6_3 : List UInt8) (o6_4 : Int) : Option Res :=
  iterK (evalK G run n f44_keep 0 (sub [1, 0, 1, 0, 0] f44_body)) f44_t0 f44_o0 (blockK 0 (seqK (evalK G run n f44_keep 0 (sub [1, 1] f44_body) (retE G f44_info)) (retE G f44_info))) k0
    ⟨[.any, .any, .val (.int .i64) none (.int x2_1), .ptr ⟨(.blob 32), 3, 1, []⟩, .ptr ⟨(.struct [(.int .u32), (.blob 32), (.blob 32), (.int .u64)]), 4, 1, []⟩, .any, .ptr ⟨(.struct [(.int .u32), (.blob 32), (.blob 32), (.int .u64)]), 6, 1, []⟩, .any, .val (.int .i64) none (.int x8_1), .any, .any, .any, .any, .any, .any, .any, .any, .any, .any, .any, .any, .any, .any, .any], [⟨0, none⟩, ⟨0, none⟩, ⟨0, none⟩, ⟨1, some ⟨(.blob 32), .blob o3_1⟩⟩, ⟨1, some ⟨(.struct [(.int .u32), (.blob 32), (.blob 32), (.int .u64)]), .agg [.int o4_1, .blob o4_2, .blob o4_3, .int o4_4]⟩⟩, ⟨0, none⟩, ⟨1, some ⟨(.struct [(.int .u32), (.blob 32), (.blob 32), (.int .u64)]), .agg [.int o6_1, .blob o6_2, .blob o6_3, .int o6_4]⟩⟩, ⟨0, none⟩, ⟨0, none⟩, ⟨0, none⟩, ⟨0, none⟩, ⟨0, none⟩, ⟨0, none⟩, ⟨0, none⟩, ⟨0, none⟩, ⟨0, none⟩, ⟨0, none⟩, ⟨0, none⟩, ⟨0, none⟩, ⟨0, none⟩, ⟨0, none⟩, ⟨0, none⟩, ⟨0, none⟩, ⟨0, none⟩], List.replicate 24 0⟩
theorem f44_l0_eq (run : Run) (n : Nat) (k0 : Nat) (x2_1 : Int) (x8_1 : Int) (o3_1 : List UInt8) (o4_1 : Int) (o4_2 : List UInt8) (o4_3 : List UInt8) (o4_4 : Int) (o6_1 : Int) (o6_2 : List UInt8) (o6_3 : List UInt8) (o6_4 : Int) : f44_l0 run n (k0 + 1) x2_1 x8_1 o3_1 o4_1 o4_2 o4_3 o4_4 o6_1 o6_2 o6_3 o6_4 =
  bif ltI x8_1 x2_1 then
    (run 39 [.agg [.int o4_1, .blob o4_2, .blob o4_3, .int o4_4]]).bind fun r1 =>
    nilV r1.outs (consV r1.vals fun v1 vs1 =>
    nilV vs1 ((run 38 [.blob v1.toBlob, .blob o3_1]).bind fun r2 =>
    nilV r2.outs (consV r2.vals fun v2 vs2 =>
    nilV vs2 (bif v2.toBool then
    some ⟨[.agg [.int o4_1, .blob o4_2, .blob o4_3, .int o4_4], .bool true], [], f44_fresh⟩
  else
    f44_l0 run n k0 x2_1 (IntKind.wrap .i64 (x8_1 + 1)) o3_1 o4_1 o4_2 o4_3 (IntKind.wrap .u64 (o4_4 + 1)) o6_1 o6_2 o6_3 o6_4))))
  else
    some ⟨[.agg [.int 0, .blob (List.replicate 32 0), .blob (List.replicate 32 0), .int 0], .bool false], [], f44_fresh⟩ := by kernel_rfl
noncomputable def f44 (run : Run) (n : Nat) (a0_1 : List UInt8) (a1_1 : Int) (a1_2 : List UInt8) (a1_3 : List UInt8) (a1_4 : Int) (a2_1 : Int) : Option Res := evalK G run n f44_info.keep 0 f44_info.body (retE G f44_info) (f44_info.start [.blob a0_1, .agg [.int a1_1, .blob a1_2, .blob a1_3, .int a1_4], .int a2_1])
theorem f44_eq (run : Run) (n : Nat) (a0_1 : List UInt8) (a1_1 : Int) (a1_2 : List UInt8) (a1_3 : List UInt8) (a1_4 : Int) (a2_1 : Int) : f44 run n a0_1 a1_1 a1_2 a1_3 a1_4 a2_1 =
  f44_l0 run n n a2_1 0 a0_1 a1_1 a1_2 a1_3 a1_4 0 (List.replicate 32 0) (List.replicate 32 0) 0 := by kernel_rfl
theorem f44_run (ext : Run) (n : Nat) (a0_1 : List UInt8) (a1_1 : Int) (a1_2 : List UInt8) (a1_3 : List UInt8) (a1_4 : Int) (a2_1 : Int) : runE G ext (n + 1) 44 [.blob a0_1, .agg [.int a1_1, .blob a1_2, .blob a1_3, .int a1_4], .int a2_1] = f44 (runE G ext n) n a0_1 a1_1 a1_2 a1_3 a1_4 a2_1 := runE_succ f44_at f44_in

noncomputable def f16 (run : Run) (n : Nat) (a0_1 : List UInt8) (a1_1 : List AV) (a2_1 : Int) (a3_1 : Int) : Option Res := evalK G run n f16_info.keep 0 f16_info.body (retE G f16_info) (f16_info.start [.blob a0_1, .slice a1_1, .int a2_1, .int a3_1])
theorem f16_eq (run : Run) (n : Nat) (a0_1 : List UInt8) (a1_1 : List AV) (a2_1 : Int) (a3_1 : Int) : f16 run n a0_1 a1_1 a2_1 a3_1 =
  (run 43 [.slice a1_1]).bind fun r1 =>
    nilV r1.outs (consV r1.vals fun v1 vs1 =>
    nilV vs1 (bif !(eqI v1.toInt 0) then
    some ⟨[.agg [.agg [.int 0, .blob (List.replicate 32 0), .blob (List.replicate 32 0), .int 0], .slice []], .int v1.toInt], [], f16_fresh⟩
  else
    (run 45 [.int 0, .slice [], .slice a1_1, .int a2_1]).bind fun r2 =>
    nilV r2.outs (consV r2.vals fun v2 vs2 =>
    nilV vs2 ((run 44 [.blob a0_1, .agg [.int ((v2.fld 0).toInt), .blob ((v2.fld 1).toBlob), .blob ((v2.fld 2).toBlob), .int ((v2.fld 3).toInt)], .int a3_1]).bind fun r3 =>
    nilV r3.outs (consV r3.vals fun v3 vs3 =>
    consV vs3 fun v4 vs4 =>
    nilV vs4 (bif !v4.toBool then
    some ⟨[.agg [.agg [.int 0, .blob (List.replicate 32 0), .blob (List.replicate 32 0), .int 0], .slice []], .int 9], [], f16_fresh⟩
  else
    some ⟨[.agg [.agg [.int ((v3.fld 0).toInt), .blob ((v3.fld 1).toBlob), .blob ((v3.fld 2).toBlob), .int ((v3.fld 3).toInt)], .slice a1_1], .int 0], [], f16_fresh⟩)))))) := by kernel_rfl
theorem f16_run (ext : Run) (n : Nat) (a0_1 : List UInt8) (a1_1 : List AV) (a2_1 : Int) (a3_1 : Int) : runE G ext (n + 1) 16 [.blob a0_1, .slice a1_1, .int a2_1, .int a3_1] = f16 (runE G ext n) n a0_1 a1_1 a2_1 a3_1 := runE_succ f16_at f16_in

noncomputable def f47_l0 (run : Run) (n : Nat) (k0 : Nat) (x0_1 : List AV) (x3_1 : List AV) (x4_1 : Int) : Option Res :=
  iterK (evalK G run n f47_keep 0 (sub [1, 1, 0, 1, 0, 0] f47_body)) f47_t0 f47_o0 (blockK 0 (seqK (evalK G run n f47_keep 0 (sub [1, 1, 1] f47_body) (retE G f47_info)) (retE G f47_info))) k0
    ⟨[.val (.slice (.struct [(.struct [(.int .u32), (.blob 32), (.blob 32), (.int .u64)]), (.slice .str)])) none (.slice x0_1), .any, .any, .val (.slice (.blob 32)) (some (3, 0)) (.slice x3_1), .val (.int .i64) none (.int x4_1), .any, .any, .any, .any, .any, .any, .any, .any, .any, .any, .any, .any, .any, .any, .any, .any], [⟨0, none⟩, ⟨0, none⟩, ⟨0, none⟩, ⟨0, none⟩, ⟨0, none⟩, ⟨0, none⟩, ⟨0, none⟩, ⟨0, none⟩, ⟨0, none⟩, ⟨0, none⟩, ⟨0, none⟩, ⟨0, none⟩, ⟨0, none⟩, ⟨0, none⟩, ⟨0, none⟩, ⟨0, none⟩, ⟨0, none⟩, ⟨0, none⟩, ⟨0, none⟩, ⟨0, none⟩, ⟨0, none⟩], List.replicate 21 0⟩
theorem f47_l0_eq (run : Run) (n : Nat) (k0 : Nat) (x0_1 : List AV) (x3_1 : List AV) (x4_1 : Int) : f47_l0 run n (k0 + 1) x0_1 x3_1 x4_1 =
  bif ltI x4_1 (x0_1.length : Int) then
    bif inR x4_1 x0_1.length then
    (run 39 [.agg [.int ((((nth x0_1 (Int.toNat x4_1)).fld 0).fld 0).toInt), .blob ((((nth x0_1 (Int.toNat x4_1)).fld 0).fld 1).toBlob), .blob ((((nth x0_1 (Int.toNat x4_1)).fld 0).fld 2).toBlob), .int ((((nth x0_1 (Int.toNat x4_1)).fld 0).fld 3).toInt)]]).bind fun r1 =>
    nilV r1.outs (consV r1.vals fun v1 vs1 =>
    nilV vs1 (bif Nat.ble ((x3_1.length + 1) * 32) 140737488355328 then
    f47_l0 run n k0 x0_1 (x3_1 ++ [.blob v1.toBlob]) (IntKind.wrap .i64 (x4_1 + 1))
  else none))
  else none
  else
    some ⟨[.slice x3_1], [], f47_fresh⟩ := by kernel_rfl
noncomputable def f47 (run : Run) (n : Nat) (a0_1 : List AV) : Option Res := evalK G run n f47_info.keep 0 f47_info.body (retE G f47_info) (f47_info.start [.slice a0_1])
theorem f47_eq (run : Run) (n : Nat) (a0_1 : List AV) : f47 run n a0_1 =
  f47_l0 run n n a0_1 [] 0 := by kernel_rfl
theorem f47_run (ext : Run) (n : Nat) (a0_1 : List AV) : runE G ext (n + 1) 47 [.slice a0_1] = f47 (runE G ext n) n a0_1 := runE_succ f47_at f47_in

end Go.Proofs.YtddcooedbibehaaGreat.Ev
