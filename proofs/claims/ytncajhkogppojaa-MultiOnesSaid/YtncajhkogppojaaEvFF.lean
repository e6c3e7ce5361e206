/- What the evaluator does with the functions, as programs over plain values: printed by gen.py, checked by the kernel. -/
import Derived.Test.YtncajhkogppojaaEvFA
namespace Go.Proofs.Ytncajhkogppojaa.Ev
open Go Go.RowKit
set_option maxRecDepth 100000


noncomputable def f6_l0 (run : Run) (n : Nat) (k0 : Nat) (x3_1 : Int) (x3_2 : List UInt8) (x3_3 : List UInt8) (x3_4 : Int) (x3_5 : List UInt8) (x3_6 : Int) (x3_7 : Int) (x3_8 : Int) (x3_9 : Int) (x3_10 : Int) (x3_11 : Int) (x7_1 : List AV) (x12_1 : Int) : Option Res :=
  iterK (evalK G run n f6_keep 0 (sub [1, 1, 1, 1, 1, 1, 0, 1, 0, 0] f6_body)) f6_t0 f6_o0 (blockK 0 (seqK (evalK G run n f6_keep 0 (sub [1, 1, 1, 1, 1, 1, 1] f6_body) (retE G f6_info)) (retE G f6_info))) k0
    ⟨[.any, .any, .any, .val (.pat (.struct [(.struct [(.int .u32), (.blob 32), (.blob 32), (.int .u64)]), (.blob 32), (.int .i64), (.int .i64), (.int .i64), (.int .i64), (.int .i64), (.int .i64)])) none (.agg [.agg [.int x3_1, .blob x3_2, .blob x3_3, .int x3_4], .blob x3_5, .int x3_6, .int x3_7, .int x3_8, .int x3_9, .int x3_10, .int x3_11]), .any, .any, .any, .val (.slice (.struct [(.struct [(.int .u32), (.blob 32), (.blob 32), (.int .u64)]), (.struct [(.int .i64), (.int .i64), (.slice (.blob 32))])])) none (.slice x7_1), .any, .any, .any, .any, .val (.int .i64) none (.int x12_1), .any, .any, .any, .any, .any, .any, .any, .any, .any, .any, .any, .any, .any, .any, .any, .any, .any, .any, .any, .any, .any, .any, .any, .any, .any, .any, .any, .any, .any, .any, .any, .any, .any, .any, .any, .any, .any, .any, .any, .any, .any, .any, .any, .any, .any, .any, .any, .any, .any, .any, .any, .any, .any, .any, .any, .any, .any, .any, .any, .any, .any, .any, .any, .any, .any, .any, .any, .any, .any, .any, .any, .any, .any, .any, .any, .any, .any, .any, .any, .any, .any, .any, .any, .any, .any, .any, .any, .any, .any, .any, .any, .any, .any, .any, .any, .any, .any, .any, .any, .any, .any, .any, .any, .any, .any, .any, .any, .any, .any, .any, .any, .any, .any, .any, .any, .any, .any, .any, .any, .any, .any, .any, .any, .any, .any, .any, .any, .any, .any, .any, .any, .any, .any, .any, .any, .any, .any], [⟨0, none⟩, ⟨0, none⟩, ⟨0, none⟩, ⟨0, none⟩, ⟨0, none⟩, ⟨0, none⟩, ⟨0, none⟩, ⟨0, none⟩, ⟨0, none⟩, ⟨0, none⟩, ⟨0, none⟩, ⟨0, none⟩, ⟨0, none⟩, ⟨0, none⟩, ⟨0, none⟩, ⟨0, none⟩, ⟨0, none⟩, ⟨0, none⟩, ⟨0, none⟩, ⟨0, none⟩, ⟨0, none⟩, ⟨0, none⟩, ⟨0, none⟩, ⟨0, none⟩, ⟨0, none⟩, ⟨0, none⟩, ⟨0, none⟩, ⟨0, none⟩, ⟨0, none⟩, ⟨0, none⟩, ⟨0, none⟩, ⟨0, none⟩, ⟨0, none⟩, ⟨0, none⟩, ⟨0, none⟩, ⟨0, none⟩, ⟨0, none⟩, ⟨0, none⟩, ⟨0, none⟩, ⟨0, none⟩, ⟨0, none⟩, ⟨0, none⟩, ⟨0, none⟩, ⟨0, none⟩, ⟨0, none⟩, ⟨0, none⟩, ⟨0, none⟩, ⟨0, none⟩, ⟨0, none⟩, ⟨0, none⟩, ⟨0, none⟩, ⟨0, none⟩, ⟨0, none⟩, ⟨0, none⟩, ⟨0, none⟩, ⟨0, none⟩, ⟨0, none⟩, ⟨0, none⟩, ⟨0, none⟩, ⟨0, none⟩, ⟨0, none⟩, ⟨0, none⟩, ⟨0, none⟩, ⟨0, none⟩, ⟨0, none⟩, ⟨0, none⟩, ⟨0, none⟩, ⟨0, none⟩, ⟨0, none⟩, ⟨0, none⟩, ⟨0, none⟩, ⟨0, none⟩, ⟨0, none⟩, ⟨0, none⟩, ⟨0, none⟩, ⟨0, none⟩, ⟨0, none⟩, ⟨0, none⟩, ⟨0, none⟩, ⟨0, none⟩, ⟨0, none⟩, ⟨0, none⟩, ⟨0, none⟩, ⟨0, none⟩, ⟨0, none⟩, ⟨0, none⟩, ⟨0, none⟩, ⟨0, none⟩, ⟨0, none⟩, ⟨0, none⟩, ⟨0, none⟩, ⟨0, none⟩, ⟨0, none⟩, ⟨0, none⟩, ⟨0, none⟩, ⟨0, none⟩, ⟨0, none⟩, ⟨0, none⟩, ⟨0, none⟩, ⟨0, none⟩, ⟨0, none⟩, ⟨0, none⟩, ⟨0, none⟩, ⟨0, none⟩, ⟨0, none⟩, ⟨0, none⟩, ⟨0, none⟩, ⟨0, none⟩, ⟨0, none⟩, ⟨0, none⟩, ⟨0, none⟩, ⟨0, none⟩, ⟨0, none⟩, ⟨0, none⟩, ⟨0, none⟩, ⟨0, none⟩, ⟨0, none⟩, ⟨0, none⟩, ⟨0, none⟩, ⟨0, none⟩, ⟨0, none⟩, ⟨0, none⟩, ⟨0, none⟩, ⟨0, none⟩, ⟨0, none⟩, ⟨0, none⟩, ⟨0, none⟩, ⟨0, none⟩, ⟨0, none⟩, ⟨0, none⟩, ⟨0, none⟩, ⟨0, none⟩, ⟨0, none⟩, ⟨0, none⟩, ⟨0, none⟩, ⟨0, none⟩, ⟨0, none⟩, ⟨0, none⟩, ⟨0, none⟩, ⟨0, none⟩, ⟨0, none⟩, ⟨0, none⟩, ⟨0, none⟩, ⟨0, none⟩, ⟨0, none⟩, ⟨0, none⟩, ⟨0, none⟩, ⟨0, none⟩, ⟨0, none⟩, ⟨0, none⟩], List.replicate 150 0⟩
theorem f6_l0_eq (run : Run) (n : Nat) (k0 : Nat) (x3_1 : Int) (x3_2 : List UInt8) (x3_3 : List UInt8) (x3_4 : Int) (x3_5 : List UInt8) (x3_6 : Int) (x3_7 : Int) (x3_8 : Int) (x3_9 : Int) (x3_10 : Int) (x3_11 : Int) (x7_1 : List AV) (x12_1 : Int) : f6_l0 run n (k0 + 1) x3_1 x3_2 x3_3 x3_4 x3_5 x3_6 x3_7 x3_8 x3_9 x3_10 x3_11 x7_1 x12_1 =
  bif ltI x12_1 (x7_1.length : Int) then
    bif inR x12_1 x7_1.length then
    (run 36 [.agg [.int ((((nth x7_1 (Int.toNat x12_1)).fld 0).fld 0).toInt), .blob ((((nth x7_1 (Int.toNat x12_1)).fld 0).fld 1).toBlob), .blob ((((nth x7_1 (Int.toNat x12_1)).fld 0).fld 2).toBlob), .int ((((nth x7_1 (Int.toNat x12_1)).fld 0).fld 3).toInt)]]).bind fun r10 =>
    nilV r10.outs (consV r10.vals fun v12 vs12 =>
    nilV vs12 ((run 35 [.blob v12.toBlob, .blob x3_5]).bind fun r11 =>
    nilV r11.outs (consV r11.vals fun v13 vs13 =>
    nilV vs13 (bif !v13.toBool then
    some ⟨[.bool false], [], f6_fresh⟩
  else
    bif ltI 0 x12_1 then
    bif inR x12_1 x7_1.length then
    bif inR (IntKind.wrap .i64 (x12_1 - 1)) x7_1.length then
    (run 37 [.agg [.int ((((nth x7_1 (Int.toNat x12_1)).fld 0).fld 0).toInt), .blob ((((nth x7_1 (Int.toNat x12_1)).fld 0).fld 1).toBlob), .blob ((((nth x7_1 (Int.toNat x12_1)).fld 0).fld 2).toBlob), .int ((((nth x7_1 (Int.toNat x12_1)).fld 0).fld 3).toInt)], .agg [.int ((((nth x7_1 (Int.toNat (IntKind.wrap .i64 (x12_1 - 1)))).fld 0).fld 0).toInt), .blob ((((nth x7_1 (Int.toNat (IntKind.wrap .i64 (x12_1 - 1)))).fld 0).fld 1).toBlob), .blob ((((nth x7_1 (Int.toNat (IntKind.wrap .i64 (x12_1 - 1)))).fld 0).fld 2).toBlob), .int ((((nth x7_1 (Int.toNat (IntKind.wrap .i64 (x12_1 - 1)))).fld 0).fld 3).toInt)]]).bind fun r12 =>
    nilV r12.outs (consV r12.vals fun v14 vs14 =>
    nilV vs14 (bif !v14.toBool then
    some ⟨[.bool false], [], f6_fresh⟩
  else
    bif inR x12_1 x7_1.length then
    bif inR (IntKind.wrap .i64 (x12_1 - 1)) x7_1.length then
    (run 38 [.agg [.agg [.int ((((nth x7_1 (Int.toNat x12_1)).fld 0).fld 0).toInt), .blob ((((nth x7_1 (Int.toNat x12_1)).fld 0).fld 1).toBlob), .blob ((((nth x7_1 (Int.toNat x12_1)).fld 0).fld 2).toBlob), .int ((((nth x7_1 (Int.toNat x12_1)).fld 0).fld 3).toInt)], .agg [.int ((((nth x7_1 (Int.toNat x12_1)).fld 1).fld 0).toInt), .int ((((nth x7_1 (Int.toNat x12_1)).fld 1).fld 1).toInt), .slice ((((nth x7_1 (Int.toNat x12_1)).fld 1).fld 2).toSlice)]], .agg [.int ((((nth x7_1 (Int.toNat (IntKind.wrap .i64 (x12_1 - 1)))).fld 0).fld 0).toInt), .blob ((((nth x7_1 (Int.toNat (IntKind.wrap .i64 (x12_1 - 1)))).fld 0).fld 1).toBlob), .blob ((((nth x7_1 (Int.toNat (IntKind.wrap .i64 (x12_1 - 1)))).fld 0).fld 2).toBlob), .int ((((nth x7_1 (Int.toNat (IntKind.wrap .i64 (x12_1 - 1)))).fld 0).fld 3).toInt)]]).bind fun r13 =>
    nilV r13.outs (consV r13.vals fun v15 vs15 =>
    nilV vs15 (bif !v15.toBool then
    some ⟨[.bool false], [], f6_fresh⟩
  else
    f6_l0 run n k0 x3_1 x3_2 x3_3 x3_4 x3_5 x3_6 x3_7 x3_8 x3_9 x3_10 x3_11 x7_1 (IntKind.wrap .i64 (x12_1 + 1))))
  else none
  else none))
  else none
  else none
  else
    f6_l0 run n k0 x3_1 x3_2 x3_3 x3_4 x3_5 x3_6 x3_7 x3_8 x3_9 x3_10 x3_11 x7_1 (IntKind.wrap .i64 (x12_1 + 1))))))
  else none
  else
    (run 31 []).bind fun r14 =>
    nilV r14.outs (consV r14.vals fun v16 vs16 =>
    nilV vs16 (some ⟨[.bool v16.toBool], [], f6_fresh⟩)) := by kernel_rfl
noncomputable def f6 (run : Run) (n : Nat) (a0_1 : Int) (a0_2 : List UInt8) (a0_3 : List UInt8) (a0_4 : Int) (a0_5 : List UInt8) (a0_6 : Int) (a0_7 : Int) (a0_8 : Int) (a0_9 : Int) (a0_10 : Int) (a0_11 : Int) (a1_1 : List AV) (a2_1 : Int) (a2_2 : List AV) (a2_3 : Int) (a2_4 : Int) (a2_5 : List AV) (a2_6 : Int) (a2_7 : List UInt8) (a2_8 : Int) (a2_9 : Int) (a2_10 : List AV) : Option Res := evalK G run n f6_info.keep 0 f6_info.body (retE G f6_info) (f6_info.start [.agg [.agg [.int a0_1, .blob a0_2, .blob a0_3, .int a0_4], .blob a0_5, .int a0_6, .int a0_7, .int a0_8, .int a0_9, .int a0_10, .int a0_11], .slice a1_1, .agg [.int a2_1, .slice a2_2, .agg [.int a2_3, .int a2_4, .slice a2_5], .int a2_6, .str a2_7, .agg [.int a2_8, .int a2_9, .slice a2_10]]])
theorem f6_eq (run : Run) (n : Nat) (a0_1 : Int) (a0_2 : List UInt8) (a0_3 : List UInt8) (a0_4 : Int) (a0_5 : List UInt8) (a0_6 : Int) (a0_7 : Int) (a0_8 : Int) (a0_9 : Int) (a0_10 : Int) (a0_11 : Int) (a1_1 : List AV) (a2_1 : Int) (a2_2 : List AV) (a2_3 : Int) (a2_4 : Int) (a2_5 : List AV) (a2_6 : Int) (a2_7 : List UInt8) (a2_8 : Int) (a2_9 : Int) (a2_10 : List AV) : f6 run n a0_1 a0_2 a0_3 a0_4 a0_5 a0_6 a0_7 a0_8 a0_9 a0_10 a0_11 a1_1 a2_1 a2_2 a2_3 a2_4 a2_5 a2_6 a2_7 a2_8 a2_9 a2_10 =
  (run 28 [.slice a1_1, .agg [.int a2_1, .slice a2_2, .agg [.int a2_3, .int a2_4, .slice a2_5], .int a2_6, .str a2_7, .agg [.int a2_8, .int a2_9, .slice a2_10]]]).bind fun r1 =>
    nilV r1.outs (consV r1.vals fun v1 vs1 =>
    nilV vs1 (bif v1.toBool then
    (run 31 []).bind fun r2 =>
    nilV r2.outs (consV r2.vals fun v2 vs2 =>
    nilV vs2 (some ⟨[.bool v2.toBool], [], f6_fresh⟩))
  else
    (run 29 [.agg [.agg [.int a0_1, .blob a0_2, .blob a0_3, .int a0_4], .blob a0_5, .int a0_6, .int a0_7, .int a0_8, .int a0_9, .int a0_10, .int a0_11], .slice a1_1]).bind fun r3 =>
    nilV r3.outs (consV r3.vals fun v3 vs3 =>
    nilV vs3 (bif !(eqI ((v3.fld 0).toInt) 0) then
    (run 31 []).bind fun r4 =>
    nilV r4.outs (consV r4.vals fun v4 vs4 =>
    nilV vs4 (some ⟨[.bool v4.toBool], [], f6_fresh⟩))
  else
    (run 30 [.blob a0_5, .slice a1_1, .agg [.int a2_1, .slice a2_2, .agg [.int a2_3, .int a2_4, .slice a2_5], .int a2_6, .str a2_7, .agg [.int a2_8, .int a2_9, .slice a2_10]]]).bind fun r5 =>
    nilV r5.outs (consV r5.vals fun v5 vs5 =>
    nilV vs5 (bif !(eqI v5.toInt 0) then
    (run 31 []).bind fun r6 =>
    nilV r6.outs (consV r6.vals fun v6 vs6 =>
    nilV vs6 (some ⟨[.bool v6.toBool], [], f6_fresh⟩))
  else
    (run 32 [.blob a0_5, .slice a1_1, .agg [.int a2_1, .slice a2_2, .agg [.int a2_3, .int a2_4, .slice a2_5], .int a2_6, .str a2_7, .agg [.int a2_8, .int a2_9, .slice a2_10]]]).bind fun r7 =>
    nilV r7.outs (consV r7.vals fun v7 vs7 =>
    consV vs7 fun v8 vs8 =>
    nilV vs8 ((run 33 [.slice a1_1, .agg [.int a2_1, .slice a2_2, .agg [.int a2_3, .int a2_4, .slice a2_5], .int a2_6, .str a2_7, .agg [.int a2_8, .int a2_9, .slice a2_10]]]).bind fun r8 =>
    nilV r8.outs (consV r8.vals fun v9 vs9 =>
    nilV vs9 ((run 34 [.slice a1_1, .agg [.int a2_1, .slice a2_2, .agg [.int a2_3, .int a2_4, .slice a2_5], .int a2_6, .str a2_7, .agg [.int a2_8, .int a2_9, .slice a2_10]]]).bind fun r9 =>
    nilV r9.outs (consV r9.vals fun v10 vs10 =>
    consV vs10 fun v11 vs11 =>
    nilV vs11 (bif !(eqI v8.toInt 0) then
    some ⟨[.bool false], [], f6_fresh⟩
  else
    bif !v11.toBool then
    some ⟨[.bool false], [], f6_fresh⟩
  else
    bif ltI v9.toInt 0 then
    some ⟨[.bool false], [], f6_fresh⟩
  else
    bif leI (v7.toSlice.length : Int) v9.toInt then
    some ⟨[.bool false], [], f6_fresh⟩
  else
    bif inR v9.toInt v7.toSlice.length then
    bif !(eqI ((((nth v7.toSlice (Int.toNat v9.toInt)).fld 0).fld 0).toInt) ((v10.fld 0).toInt) && (eqS ((((nth v7.toSlice (Int.toNat v9.toInt)).fld 0).fld 1).toBlob) ((v10.fld 1).toBlob) && (eqS ((((nth v7.toSlice (Int.toNat v9.toInt)).fld 0).fld 2).toBlob) ((v10.fld 2).toBlob) && (eqI ((((nth v7.toSlice (Int.toNat v9.toInt)).fld 0).fld 3).toInt) ((v10.fld 3).toInt) && true)))) then
    some ⟨[.bool false], [], f6_fresh⟩
  else
    bif inR 0 v7.toSlice.length then
    bif !(eqI ((((nth v7.toSlice 0).fld 0).fld 0).toInt) a0_1 && (eqS ((((nth v7.toSlice 0).fld 0).fld 1).toBlob) a0_2 && (eqS ((((nth v7.toSlice 0).fld 0).fld 2).toBlob) a0_3 && (eqI ((((nth v7.toSlice 0).fld 0).fld 3).toInt) a0_4 && true)))) then
    some ⟨[.bool false], [], f6_fresh⟩
  else
    bif inR (IntKind.wrap .i64 ((v7.toSlice.length : Int) - 1)) v7.toSlice.length then
    bif inR (IntKind.wrap .i64 ((a1_1.length : Int) - 1)) a1_1.length then
    bif !(eqI ((((nth v7.toSlice (Int.toNat (IntKind.wrap .i64 ((v7.toSlice.length : Int) - 1)))).fld 0).fld 0).toInt) ((((nth a1_1 (Int.toNat (IntKind.wrap .i64 ((a1_1.length : Int) - 1)))).fld 0).fld 0).toInt) && (eqS ((((nth v7.toSlice (Int.toNat (IntKind.wrap .i64 ((v7.toSlice.length : Int) - 1)))).fld 0).fld 1).toBlob) ((((nth a1_1 (Int.toNat (IntKind.wrap .i64 ((a1_1.length : Int) - 1)))).fld 0).fld 1).toBlob) && (eqS ((((nth v7.toSlice (Int.toNat (IntKind.wrap .i64 ((v7.toSlice.length : Int) - 1)))).fld 0).fld 2).toBlob) ((((nth a1_1 (Int.toNat (IntKind.wrap .i64 ((a1_1.length : Int) - 1)))).fld 0).fld 2).toBlob) && (eqI ((((nth v7.toSlice (Int.toNat (IntKind.wrap .i64 ((v7.toSlice.length : Int) - 1)))).fld 0).fld 3).toInt) ((((nth a1_1 (Int.toNat (IntKind.wrap .i64 ((a1_1.length : Int) - 1)))).fld 0).fld 3).toInt) && true)))) then
    some ⟨[.bool false], [], f6_fresh⟩
  else
    f6_l0 run n n a0_1 a0_2 a0_3 a0_4 a0_5 a0_6 a0_7 a0_8 a0_9 a0_10 a0_11 v7.toSlice 0
  else none
  else none
  else none
  else none)))))))))))) := by kernel_rfl
theorem f6_run (ext : Run) (n : Nat) (a0_1 : Int) (a0_2 : List UInt8) (a0_3 : List UInt8) (a0_4 : Int) (a0_5 : List UInt8) (a0_6 : Int) (a0_7 : Int) (a0_8 : Int) (a0_9 : Int) (a0_10 : Int) (a0_11 : Int) (a1_1 : List AV) (a2_1 : Int) (a2_2 : List AV) (a2_3 : Int) (a2_4 : Int) (a2_5 : List AV) (a2_6 : Int) (a2_7 : List UInt8) (a2_8 : Int) (a2_9 : Int) (a2_10 : List AV) : runE G ext (n + 1) 6 [.agg [.agg [.int a0_1, .blob a0_2, .blob a0_3, .int a0_4], .blob a0_5, .int a0_6, .int a0_7, .int a0_8, .int a0_9, .int a0_10, .int a0_11], .slice a1_1, .agg [.int a2_1, .slice a2_2, .agg [.int a2_3, .int a2_4, .slice a2_5], .int a2_6, .str a2_7, .agg [.int a2_8, .int a2_9, .slice a2_10]]] = f6 (runE G ext n) n a0_1 a0_2 a0_3 a0_4 a0_5 a0_6 a0_7 a0_8 a0_9 a0_10 a0_11 a1_1 a2_1 a2_2 a2_3 a2_4 a2_5 a2_6 a2_7 a2_8 a2_9 a2_10 := runE_succ f6_at f6_in

noncomputable def f80_l0 (run : Run) (n : Nat) (k0 : Nat) (x1_1 : Int) (x6_1 : Int) (x7_1 : Bool) (x10_1 : List AV) (x11_1 : Int) (x12_1 : Int) : Option Res :=
  iterK (evalK G run n f80_keep 0 (sub [1, 1, 0, 1, 0, 0] f80_body)) f80_t0 f80_o0 (blockK 0 (seqK (evalK G run n f80_keep 0 (sub [1, 1, 1] f80_body) (retE G f80_info)) (retE G f80_info))) k0
    ⟨[.any, .val (.int .i64) none (.int x1_1), .any, .any, .any, .any, .val (.int .i64) none (.int x6_1), .val .bool none (.bool x7_1), .any, .any, .val (.slice (.int .i64)) none (.slice x10_1), .val (.int .i64) none (.int x11_1), .val (.int .i64) none (.int x12_1), .any, .any, .any, .any, .any, .any, .any, .any, .any, .any, .any, .any, .any, .any, .any, .any, .any, .any, .any], [⟨0, none⟩, ⟨0, none⟩, ⟨0, none⟩, ⟨0, none⟩, ⟨0, none⟩, ⟨0, none⟩, ⟨0, none⟩, ⟨0, none⟩, ⟨0, none⟩, ⟨0, none⟩, ⟨0, none⟩, ⟨0, none⟩, ⟨0, none⟩, ⟨0, none⟩, ⟨0, none⟩, ⟨0, none⟩, ⟨0, none⟩, ⟨0, none⟩, ⟨0, none⟩, ⟨0, none⟩, ⟨0, none⟩, ⟨0, none⟩, ⟨0, none⟩, ⟨0, none⟩, ⟨0, none⟩, ⟨0, none⟩, ⟨0, none⟩, ⟨0, none⟩, ⟨0, none⟩, ⟨0, none⟩, ⟨0, none⟩, ⟨0, none⟩], List.replicate 32 0⟩
theorem f80_l0_eq (run : Run) (n : Nat) (k0 : Nat) (x1_1 : Int) (x6_1 : Int) (x7_1 : Bool) (x10_1 : List AV) (x11_1 : Int) (x12_1 : Int) : f80_l0 run n (k0 + 1) x1_1 x6_1 x7_1 x10_1 x11_1 x12_1 =
  bif ltI x12_1 x11_1 then
    bif inR x12_1 x10_1.length then
    bif leI x1_1 ((nth x10_1 (Int.toNat x12_1)).toInt) then
    bif !x7_1 then
    f80_l0 run n k0 x1_1 ((nth x10_1 (Int.toNat x12_1)).toInt) true x10_1 x11_1 (IntKind.wrap .i64 (x12_1 + 1))
  else
    bif ltI ((nth x10_1 (Int.toNat x12_1)).toInt) x6_1 then
    f80_l0 run n k0 x1_1 ((nth x10_1 (Int.toNat x12_1)).toInt) true x10_1 x11_1 (IntKind.wrap .i64 (x12_1 + 1))
  else
    f80_l0 run n k0 x1_1 x6_1 x7_1 x10_1 x11_1 (IntKind.wrap .i64 (x12_1 + 1))
  else
    f80_l0 run n k0 x1_1 x6_1 x7_1 x10_1 x11_1 (IntKind.wrap .i64 (x12_1 + 1))
  else none
  else
    some ⟨[.int x6_1, .bool x7_1], [], f80_fresh⟩ := by kernel_rfl
noncomputable def f80 (run : Run) (n : Nat) (a0_1 : List AV) (a1_1 : Int) : Option Res := evalK G run n f80_info.keep 0 f80_info.body (retE G f80_info) (f80_info.start [.slice a0_1, .int a1_1])
theorem f80_eq (run : Run) (n : Nat) (a0_1 : List AV) (a1_1 : Int) : f80 run n a0_1 a1_1 =
  f80_l0 run n n a1_1 0 false a0_1 (a0_1.length : Int) 0 := by kernel_rfl
theorem f80_run (ext : Run) (n : Nat) (a0_1 : List AV) (a1_1 : Int) : runE G ext (n + 1) 80 [.slice a0_1, .int a1_1] = f80 (runE G ext n) n a0_1 a1_1 := runE_succ f80_at f80_in

noncomputable def f40_l0 (run : Run) (n : Nat) (k0 : Nat) (x0_1 : List AV) (x1_1 : Int) (x2_1 : Int) (x7_1 : List AV) : Option Res :=
  iterK (evalK G run n f40_keep 0 (sub [1, 1, 1, 0, 0, 0] f40_body)) f40_t0 f40_o0 (blockK 0 (seqK (evalK G run n f40_keep 0 (sub [1, 1, 1, 1] f40_body) (retE G f40_info)) (retE G f40_info))) k0
    ⟨[.val (.slice (.int .i64)) none (.slice x0_1), .val (.int .i64) none (.int x1_1), .val (.int .i64) none (.int x2_1), .any, .any, .any, .any, .val (.slice (.int .i64)) (some (7, 0)) (.slice x7_1), .any, .any, .any, .any, .any, .any, .any, .any, .any, .any, .any, .any, .any, .any, .any, .any, .any, .any, .any, .any, .any, .any, .any, .any, .any, .any, .any, .any, .any, .any, .any, .any, .any, .any, .any, .any], [⟨0, none⟩, ⟨0, none⟩, ⟨0, none⟩, ⟨0, none⟩, ⟨0, none⟩, ⟨0, none⟩, ⟨0, none⟩, ⟨0, none⟩, ⟨0, none⟩, ⟨0, none⟩, ⟨0, none⟩, ⟨0, none⟩, ⟨0, none⟩, ⟨0, none⟩, ⟨0, none⟩, ⟨0, none⟩, ⟨0, none⟩, ⟨0, none⟩, ⟨0, none⟩, ⟨0, none⟩, ⟨0, none⟩, ⟨0, none⟩, ⟨0, none⟩, ⟨0, none⟩, ⟨0, none⟩, ⟨0, none⟩, ⟨0, none⟩, ⟨0, none⟩, ⟨0, none⟩, ⟨0, none⟩, ⟨0, none⟩, ⟨0, none⟩, ⟨0, none⟩, ⟨0, none⟩, ⟨0, none⟩, ⟨0, none⟩, ⟨0, none⟩, ⟨0, none⟩, ⟨0, none⟩, ⟨0, none⟩, ⟨0, none⟩, ⟨0, none⟩, ⟨0, none⟩, ⟨0, none⟩], List.replicate 44 0⟩
theorem f40_l0_eq (run : Run) (n : Nat) (k0 : Nat) (x0_1 : List AV) (x1_1 : Int) (x2_1 : Int) (x7_1 : List AV) : f40_l0 run n (k0 + 1) x0_1 x1_1 x2_1 x7_1 =
  bif ltI x2_1 x1_1 then
    (run 27 [.slice x0_1, .int x1_1]).bind fun r1 =>
    bif r1.fresh then
    nilV r1.outs (consV r1.vals fun v1 vs1 =>
    nilV vs1 ((run 80 [.slice v1.toSlice, .int x2_1]).bind fun r2 =>
    nilV r2.outs (consV r2.vals fun v2 vs2 =>
    consV vs2 fun v3 vs3 =>
    nilV vs3 (bif !v3.toBool then
    some ⟨[.slice []], [], f40_fresh⟩
  else
    bif Nat.ble ((x7_1.length + 1) * 8) 140737488355328 then
    f40_l0 run n k0 x0_1 v2.toInt x2_1 (x7_1 ++ [.int v2.toInt])
  else none))))
  else none
  else
    some ⟨[.slice x7_1], [], f40_fresh⟩ := by kernel_rfl
noncomputable def f40 (run : Run) (n : Nat) (a0_1 : List AV) (a1_1 : Int) (a2_1 : Int) : Option Res := evalK G run n f40_info.keep 0 f40_info.body (retE G f40_info) (f40_info.start [.slice a0_1, .int a1_1, .int a2_1])
theorem f40_eq (run : Run) (n : Nat) (a0_1 : List AV) (a1_1 : Int) (a2_1 : Int) : f40 run n a0_1 a1_1 a2_1 =
  bif ltI a2_1 0 then
    some ⟨[.slice []], [], f40_fresh⟩
  else
    bif ltI a1_1 a2_1 then
    some ⟨[.slice []], [], f40_fresh⟩
  else
    bif leI (a0_1.length : Int) a1_1 then
    some ⟨[.slice []], [], f40_fresh⟩
  else
    f40_l0 run n n a0_1 a1_1 a2_1 [.int a1_1] := by kernel_rfl
theorem f40_run (ext : Run) (n : Nat) (a0_1 : List AV) (a1_1 : Int) (a2_1 : Int) : runE G ext (n + 1) 40 [.slice a0_1, .int a1_1, .int a2_1] = f40 (runE G ext n) n a0_1 a1_1 a2_1 := runE_succ f40_at f40_in

noncomputable def f41_l0 (run : Run) (n : Nat) (k0 : Nat) (x2_1 : Int) (x11_1 : List AV) (x12_1 : Int) (x13_1 : Int) : Option Res :=
  iterK (evalK G run n f41_keep 0 (sub [1, 0, 1, 0, 0] f41_body)) f41_t0 f41_o0 (blockK 0 (seqK (evalK G run n f41_keep 0 (sub [1, 1] f41_body) (retE G f41_info)) (retE G f41_info))) k0
    ⟨[.any, .any, .val (.int .i64) none (.int x2_1), .any, .any, .any, .any, .any, .any, .any, .any, .val (.slice (.int .i64)) (some (11, 0)) (.slice x11_1), .val (.int .i64) none (.int x12_1), .val (.int .i64) none (.int x13_1), .any, .any, .any, .any, .any, .any, .any, .any, .any], [⟨0, none⟩, ⟨0, none⟩, ⟨0, none⟩, ⟨0, none⟩, ⟨0, none⟩, ⟨0, none⟩, ⟨0, none⟩, ⟨0, none⟩, ⟨0, none⟩, ⟨0, none⟩, ⟨0, none⟩, ⟨0, none⟩, ⟨0, none⟩, ⟨0, none⟩, ⟨0, none⟩, ⟨0, none⟩, ⟨0, none⟩, ⟨0, none⟩, ⟨0, none⟩, ⟨0, none⟩, ⟨0, none⟩, ⟨0, none⟩, ⟨0, none⟩], List.replicate 23 0⟩
theorem f41_l0_eq (run : Run) (n : Nat) (k0 : Nat) (x2_1 : Int) (x11_1 : List AV) (x12_1 : Int) (x13_1 : Int) : f41_l0 run n (k0 + 1) x2_1 x11_1 x12_1 x13_1 =
  bif ltI x13_1 x12_1 then
    bif inR x13_1 x11_1.length then
    bif eqI ((nth x11_1 (Int.toNat x13_1)).toInt) x2_1 then
    some ⟨[.int x13_1], [], f41_fresh⟩
  else
    f41_l0 run n k0 x2_1 x11_1 x12_1 (IntKind.wrap .i64 (x13_1 + 1))
  else none
  else
    some ⟨[.int (-1)], [], f41_fresh⟩ := by kernel_rfl
noncomputable def f41 (run : Run) (n : Nat) (a0_1 : List AV) (a1_1 : Int) (a2_1 : Int) : Option Res := evalK G run n f41_info.keep 0 f41_info.body (retE G f41_info) (f41_info.start [.slice a0_1, .int a1_1, .int a2_1])
theorem f41_eq (run : Run) (n : Nat) (a0_1 : List AV) (a1_1 : Int) (a2_1 : Int) : f41 run n a0_1 a1_1 a2_1 =
  (run 27 [.slice a0_1, .int a1_1]).bind fun r1 =>
    bif r1.fresh then
    nilV r1.outs (consV r1.vals fun v1 vs1 =>
    nilV vs1 (f41_l0 run n n a2_1 v1.toSlice (v1.toSlice.length : Int) 0))
  else none := by kernel_rfl
theorem f41_run (ext : Run) (n : Nat) (a0_1 : List AV) (a1_1 : Int) (a2_1 : Int) : runE G ext (n + 1) 41 [.slice a0_1, .int a1_1, .int a2_1] = f41 (runE G ext n) n a0_1 a1_1 a2_1 := runE_succ f41_at f41_in

noncomputable def f39 (run : Run) (n : Nat) : Option Res := evalK G run n f39_info.keep 0 f39_info.body (retE G f39_info) (f39_info.start [])
theorem f39_eq (run : Run) (n : Nat) : f39 run n  =
  (run 40 [.slice [.int 256, .int 0, .int 2, .int 0], .int 3, .int 1]).bind fun r1 =>
    bif r1.fresh then
    nilV r1.outs (consV r1.vals fun v1 vs1 =>
    nilV vs1 ((run 64 [.slice v1.toSlice, .slice [.int 3, .int 2, .int 1]]).bind fun r2 =>
    nilV r2.outs (consV r2.vals fun v2 vs2 =>
    nilV vs2 (bif v2.toBool then
    (run 41 [.slice [.int 256, .int 0, .int 2, .int 0], .int 3, .int 2]).bind fun r3 =>
    nilV r3.outs (consV r3.vals fun v3 vs3 =>
    nilV vs3 (some ⟨[.bool (eqI v3.toInt 0)], [], f39_fresh⟩))
  else
    some ⟨[.bool false], [], f39_fresh⟩))))
  else none := by kernel_rfl
theorem f39_run (ext : Run) (n : Nat) : runE G ext (n + 1) 39 [] = f39 (runE G ext n) n  := runE_succ f39_at f39_in

noncomputable def f7_l4 (run : Run) (n : Nat) (k0 : Nat) (k2 : Nat) (k4 : Nat) (x1_3 : List AV) (x5_3 : List AV) (x6_3 : List AV) (x7_3 : List AV) (x8_3 : Int) (x9_2 : Int) (x10_1 : List AV) (x11_1 : Int) : Option Res :=
  iterK (evalK G run n f7_keep 4 (sub [1, 1, 1, 0, 1, 0, 0, 1, 0, 0, 1, 0, 0, 1, 0, 0, 1, 1, 1, 0, 0] f7_body)) f7_t4 f7_o4 (blockK 4 (blockK 3 (seqK (evalK G run n f7_keep 2 (sub [1, 1, 1, 0, 1, 0, 0, 1, 0, 0, 1, 0, 0, 1, 1] f7_body) (seqK (fun t => iterK (evalK G run n f7_keep 2 (sub [1, 1, 1, 0, 1, 0, 0, 1, 0, 0, 1, 0, 0] f7_body)) f7_t2 f7_o2 (blockK 2 (blockK 1 (seqK (evalK G run n f7_keep 0 (sub [1, 1, 1, 0, 1, 0, 0, 1, 1] f7_body) (seqK (fun t => iterK (evalK G run n f7_keep 0 (sub [1, 1, 1, 0, 1, 0, 0] f7_body)) f7_t0 f7_o0 (blockK 0 (seqK (evalK G run n f7_keep 0 (sub [1, 1, 1, 1] f7_body) (retE G f7_info)) (retE G f7_info))) k0 (t.clear f7_t0 f7_o0)) (blockK 0 (seqK (evalK G run n f7_keep 0 (sub [1, 1, 1, 1] f7_body) (retE G f7_info)) (retE G f7_info))))) (seqK (fun t => iterK (evalK G run n f7_keep 0 (sub [1, 1, 1, 0, 1, 0, 0] f7_body)) f7_t0 f7_o0 (blockK 0 (seqK (evalK G run n f7_keep 0 (sub [1, 1, 1, 1] f7_body) (retE G f7_info)) (retE G f7_info))) k0 (t.clear f7_t0 f7_o0)) (blockK 0 (seqK (evalK G run n f7_keep 0 (sub [1, 1, 1, 1] f7_body) (retE G f7_info)) (retE G f7_info))))))) k2 (t.clear f7_t2 f7_o2)) (blockK 2 (blockK 1 (seqK (evalK G run n f7_keep 0 (sub [1, 1, 1, 0, 1, 0, 0, 1, 1] f7_body) (seqK (fun t => iterK (evalK G run n f7_keep 0 (sub [1, 1, 1, 0, 1, 0, 0] f7_body)) f7_t0 f7_o0 (blockK 0 (seqK (evalK G run n f7_keep 0 (sub [1, 1, 1, 1] f7_body) (retE G f7_info)) (retE G f7_info))) k0 (t.clear f7_t0 f7_o0)) (blockK 0 (seqK (evalK G run n f7_keep 0 (sub [1, 1, 1, 1] f7_body) (retE G f7_info)) (retE G f7_info))))) (seqK (fun t => iterK (evalK G run n f7_keep 0 (sub [1, 1, 1, 0, 1, 0, 0] f7_body)) f7_t0 f7_o0 (blockK 0 (seqK (evalK G run n f7_keep 0 (sub [1, 1, 1, 1] f7_body) (retE G f7_info)) (retE G f7_info))) k0 (t.clear f7_t0 f7_o0)) (blockK 0 (seqK (evalK G run n f7_keep 0 (sub [1, 1, 1, 1] f7_body) (retE G f7_info)) (retE G f7_info))))))))) (seqK (fun t => iterK (evalK G run n f7_keep 2 (sub [1, 1, 1, 0, 1, 0, 0, 1, 0, 0, 1, 0, 0] f7_body)) f7_t2 f7_o2 (blockK 2 (blockK 1 (seqK (evalK G run n f7_keep 0 (sub [1, 1, 1, 0, 1, 0, 0, 1, 1] f7_body) (seqK (fun t => iterK (evalK G run n f7_keep 0 (sub [1, 1, 1, 0, 1, 0, 0] f7_body)) f7_t0 f7_o0 (blockK 0 (seqK (evalK G run n f7_keep 0 (sub [1, 1, 1, 1] f7_body) (retE G f7_info)) (retE G f7_info))) k0 (t.clear f7_t0 f7_o0)) (blockK 0 (seqK (evalK G run n f7_keep 0 (sub [1, 1, 1, 1] f7_body) (retE G f7_info)) (retE G f7_info))))) (seqK (fun t => iterK (evalK G run n f7_keep 0 (sub [1, 1, 1, 0, 1, 0, 0] f7_body)) f7_t0 f7_o0 (blockK 0 (seqK (evalK G run n f7_keep 0 (sub [1, 1, 1, 1] f7_body) (retE G f7_info)) (retE G f7_info))) k0 (t.clear f7_t0 f7_o0)) (blockK 0 (seqK (evalK G run n f7_keep 0 (sub [1, 1, 1, 1] f7_body) (retE G f7_info)) (retE G f7_info))))))) k2 (t.clear f7_t2 f7_o2)) (blockK 2 (blockK 1 (seqK (evalK G run n f7_keep 0 (sub [1, 1, 1, 0, 1, 0, 0, 1, 1] f7_body) (seqK (fun t => iterK (evalK G run n f7_keep 0 (sub [1, 1, 1, 0, 1, 0, 0] f7_body)) f7_t0 f7_o0 (blockK 0 (seqK (evalK G run n f7_keep 0 (sub [1, 1, 1, 1] f7_body) (retE G f7_info)) (retE G f7_info))) k0 (t.clear f7_t0 f7_o0)) (blockK 0 (seqK (evalK G run n f7_keep 0 (sub [1, 1, 1, 1] f7_body) (retE G f7_info)) (retE G f7_info))))) (seqK (fun t => iterK (evalK G run n f7_keep 0 (sub [1, 1, 1, 0, 1, 0, 0] f7_body)) f7_t0 f7_o0 (blockK 0 (seqK (evalK G run n f7_keep 0 (sub [1, 1, 1, 1] f7_body) (retE G f7_info)) (retE G f7_info))) k0 (t.clear f7_t0 f7_o0)) (blockK 0 (seqK (evalK G run n f7_keep 0 (sub [1, 1, 1, 1] f7_body) (retE G f7_info)) (retE G f7_info))))))))))) k4
    ⟨[.any, .val (.slice (.struct [(.struct [(.int .u32), (.blob 32), (.blob 32), (.int .u64)]), (.slice .str)])) none (.slice x1_3), .any, .any, .any, .val (.slice (.blob 32)) (some (5, 0)) (.slice x5_3), .val (.slice (.int .i64)) (some (6, 0)) (.slice x6_3), .val (.slice (.slice (.blob 32))) (some (7, 0)) (.slice x7_3), .val (.int .i64) none (.int x8_3), .val (.int .i64) none (.int x9_2), .val (.slice (.int .i64)) (some (10, 0)) (.slice x10_1), .val (.int .i64) none (.int x11_1), .any, .any, .any, .any, .any, .any, .any, .any, .any, .any, .any, .any, .any, .any, .any, .any, .any, .any, .any, .any, .any, .any, .any, .any, .any, .any, .any, .any, .any, .any, .any, .any, .any, .any, .any, .any, .any, .any, .any, .any, .any, .any, .any, .any, .any, .any, .any, .any, .any, .any, .any, .any, .any, .any, .any, .any, .any, .any, .any, .any, .any, .any, .any, .any, .any, .any, .any, .any, .any, .any, .any, .any, .any, .any, .any, .any, .any, .any, .any, .any, .any, .any, .any, .any, .any, .any, .any, .any, .any, .any, .any, .any, .any, .any, .any, .any, .any, .any, .any, .any, .any, .any, .any, .any, .any, .any, .any, .any, .any, .any, .any, .any, .any, .any, .any, .any, .any, .any, .any, .any, .any, .any, .any, .any, .any, .any, .any, .any, .any, .any, .any, .any, .any, .any], [⟨0, none⟩, ⟨0, none⟩, ⟨0, none⟩, ⟨0, none⟩, ⟨0, none⟩, ⟨0, none⟩, ⟨0, none⟩, ⟨0, none⟩, ⟨0, none⟩, ⟨0, none⟩, ⟨0, none⟩, ⟨0, none⟩, ⟨0, none⟩, ⟨0, none⟩, ⟨0, none⟩, ⟨0, none⟩, ⟨0, none⟩, ⟨0, none⟩, ⟨0, none⟩, ⟨0, none⟩, ⟨0, none⟩, ⟨0, none⟩, ⟨0, none⟩, ⟨0, none⟩, ⟨0, none⟩, ⟨0, none⟩, ⟨0, none⟩, ⟨0, none⟩, ⟨0, none⟩, ⟨0, none⟩, ⟨0, none⟩, ⟨0, none⟩, ⟨0, none⟩, ⟨0, none⟩, ⟨0, none⟩, ⟨0, none⟩, ⟨0, none⟩, ⟨0, none⟩, ⟨0, none⟩, ⟨0, none⟩, ⟨0, none⟩, ⟨0, none⟩, ⟨0, none⟩, ⟨0, none⟩, ⟨0, none⟩, ⟨0, none⟩, ⟨0, none⟩, ⟨0, none⟩, ⟨0, none⟩, ⟨0, none⟩, ⟨0, none⟩, ⟨0, none⟩, ⟨0, none⟩, ⟨0, none⟩, ⟨0, none⟩, ⟨0, none⟩, ⟨0, none⟩, ⟨0, none⟩, ⟨0, none⟩, ⟨0, none⟩, ⟨0, none⟩, ⟨0, none⟩, ⟨0, none⟩, ⟨0, none⟩, ⟨0, none⟩, ⟨0, none⟩, ⟨0, none⟩, ⟨0, none⟩, ⟨0, none⟩, ⟨0, none⟩, ⟨0, none⟩, ⟨0, none⟩, ⟨0, none⟩, ⟨0, none⟩, ⟨0, none⟩, ⟨0, none⟩, ⟨0, none⟩, ⟨0, none⟩, ⟨0, none⟩, ⟨0, none⟩, ⟨0, none⟩, ⟨0, none⟩, ⟨0, none⟩, ⟨0, none⟩, ⟨0, none⟩, ⟨0, none⟩, ⟨0, none⟩, ⟨0, none⟩, ⟨0, none⟩, ⟨0, none⟩, ⟨0, none⟩, ⟨0, none⟩, ⟨0, none⟩, ⟨0, none⟩, ⟨0, none⟩, ⟨0, none⟩, ⟨0, none⟩, ⟨0, none⟩, ⟨0, none⟩, ⟨0, none⟩, ⟨0, none⟩, ⟨0, none⟩, ⟨0, none⟩, ⟨0, none⟩, ⟨0, none⟩, ⟨0, none⟩, ⟨0, none⟩, ⟨0, none⟩, ⟨0, none⟩, ⟨0, none⟩, ⟨0, none⟩, ⟨0, none⟩, ⟨0, none⟩, ⟨0, none⟩, ⟨0, none⟩, ⟨0, none⟩, ⟨0, none⟩, ⟨0, none⟩, ⟨0, none⟩, ⟨0, none⟩, ⟨0, none⟩, ⟨0, none⟩, ⟨0, none⟩, ⟨0, none⟩, ⟨0, none⟩, ⟨0, none⟩, ⟨0, none⟩, ⟨0, none⟩, ⟨0, none⟩, ⟨0, none⟩, ⟨0, none⟩, ⟨0, none⟩, ⟨0, none⟩, ⟨0, none⟩, ⟨0, none⟩, ⟨0, none⟩, ⟨0, none⟩, ⟨0, none⟩, ⟨0, none⟩, ⟨0, none⟩, ⟨0, none⟩, ⟨0, none⟩, ⟨0, none⟩, ⟨0, none⟩, ⟨0, none⟩, ⟨0, none⟩], List.replicate 146 0⟩
noncomputable def f7_l2 (run : Run) (n : Nat) (k0 : Nat) (k2 : Nat) (x1_2 : List AV) (x5_2 : List AV) (x6_2 : List AV) (x7_2 : List AV) (x8_2 : Int) (x9_1 : Int) : Option Res :=
  iterK (evalK G run n f7_keep 2 (sub [1, 1, 1, 0, 1, 0, 0, 1, 0, 0, 1, 0, 0] f7_body)) f7_t2 f7_o2 (blockK 2 (blockK 1 (seqK (evalK G run n f7_keep 0 (sub [1, 1, 1, 0, 1, 0, 0, 1, 1] f7_body) (seqK (fun t => iterK (evalK G run n f7_keep 0 (sub [1, 1, 1, 0, 1, 0, 0] f7_body)) f7_t0 f7_o0 (blockK 0 (seqK (evalK G run n f7_keep 0 (sub [1, 1, 1, 1] f7_body) (retE G f7_info)) (retE G f7_info))) k0 (t.clear f7_t0 f7_o0)) (blockK 0 (seqK (evalK G run n f7_keep 0 (sub [1, 1, 1, 1] f7_body) (retE G f7_info)) (retE G f7_info))))) (seqK (fun t => iterK (evalK G run n f7_keep 0 (sub [1, 1, 1, 0, 1, 0, 0] f7_body)) f7_t0 f7_o0 (blockK 0 (seqK (evalK G run n f7_keep 0 (sub [1, 1, 1, 1] f7_body) (retE G f7_info)) (retE G f7_info))) k0 (t.clear f7_t0 f7_o0)) (blockK 0 (seqK (evalK G run n f7_keep 0 (sub [1, 1, 1, 1] f7_body) (retE G f7_info)) (retE G f7_info))))))) k2
    ⟨[.any, .val (.slice (.struct [(.struct [(.int .u32), (.blob 32), (.blob 32), (.int .u64)]), (.slice .str)])) none (.slice x1_2), .any, .any, .any, .val (.slice (.blob 32)) (some (5, 0)) (.slice x5_2), .val (.slice (.int .i64)) (some (6, 0)) (.slice x6_2), .val (.slice (.slice (.blob 32))) (some (7, 0)) (.slice x7_2), .val (.int .i64) none (.int x8_2), .val (.int .i64) none (.int x9_1), .any, .any, .any, .any, .any, .any, .any, .any, .any, .any, .any, .any, .any, .any, .any, .any, .any, .any, .any, .any, .any, .any, .any, .any, .any, .any, .any, .any, .any, .any, .any, .any, .any, .any, .any, .any, .any, .any, .any, .any, .any, .any, .any, .any, .any, .any, .any, .any, .any, .any, .any, .any, .any, .any, .any, .any, .any, .any, .any, .any, .any, .any, .any, .any, .any, .any, .any, .any, .any, .any, .any, .any, .any, .any, .any, .any, .any, .any, .any, .any, .any, .any, .any, .any, .any, .any, .any, .any, .any, .any, .any, .any, .any, .any, .any, .any, .any, .any, .any, .any, .any, .any, .any, .any, .any, .any, .any, .any, .any, .any, .any, .any, .any, .any, .any, .any, .any, .any, .any, .any, .any, .any, .any, .any, .any, .any, .any, .any, .any, .any, .any, .any, .any, .any, .any, .any], [⟨0, none⟩, ⟨0, none⟩, ⟨0, none⟩, ⟨0, none⟩, ⟨0, none⟩, ⟨0, none⟩, ⟨0, none⟩, ⟨0, none⟩, ⟨0, none⟩, ⟨0, none⟩, ⟨0, none⟩, ⟨0, none⟩, ⟨0, none⟩, ⟨0, none⟩, ⟨0, none⟩, ⟨0, none⟩, ⟨0, none⟩, ⟨0, none⟩, ⟨0, none⟩, ⟨0, none⟩, ⟨0, none⟩, ⟨0, none⟩, ⟨0, none⟩, ⟨0, none⟩, ⟨0, none⟩, ⟨0, none⟩, ⟨0, none⟩, ⟨0, none⟩, ⟨0, none⟩, ⟨0, none⟩, ⟨0, none⟩, ⟨0, none⟩, ⟨0, none⟩, ⟨0, none⟩, ⟨0, none⟩, ⟨0, none⟩, ⟨0, none⟩, ⟨0, none⟩, ⟨0, none⟩, ⟨0, none⟩, ⟨0, none⟩, ⟨0, none⟩, ⟨0, none⟩, ⟨0, none⟩, ⟨0, none⟩, ⟨0, none⟩, ⟨0, none⟩, ⟨0, none⟩, ⟨0, none⟩, ⟨0, none⟩, ⟨0, none⟩, ⟨0, none⟩, ⟨0, none⟩, ⟨0, none⟩, ⟨0, none⟩, ⟨0, none⟩, ⟨0, none⟩, ⟨0, none⟩, ⟨0, none⟩, ⟨0, none⟩, ⟨0, none⟩, ⟨0, none⟩, ⟨0, none⟩, ⟨0, none⟩, ⟨0, none⟩, ⟨0, none⟩, ⟨0, none⟩, ⟨0, none⟩, ⟨0, none⟩, ⟨0, none⟩, ⟨0, none⟩, ⟨0, none⟩, ⟨0, none⟩, ⟨0, none⟩, ⟨0, none⟩, ⟨0, none⟩, ⟨0, none⟩, ⟨0, none⟩, ⟨0, none⟩, ⟨0, none⟩, ⟨0, none⟩, ⟨0, none⟩, ⟨0, none⟩, ⟨0, none⟩, ⟨0, none⟩, ⟨0, none⟩, ⟨0, none⟩, ⟨0, none⟩, ⟨0, none⟩, ⟨0, none⟩, ⟨0, none⟩, ⟨0, none⟩, ⟨0, none⟩, ⟨0, none⟩, ⟨0, none⟩, ⟨0, none⟩, ⟨0, none⟩, ⟨0, none⟩, ⟨0, none⟩, ⟨0, none⟩, ⟨0, none⟩, ⟨0, none⟩, ⟨0, none⟩, ⟨0, none⟩, ⟨0, none⟩, ⟨0, none⟩, ⟨0, none⟩, ⟨0, none⟩, ⟨0, none⟩, ⟨0, none⟩, ⟨0, none⟩, ⟨0, none⟩, ⟨0, none⟩, ⟨0, none⟩, ⟨0, none⟩, ⟨0, none⟩, ⟨0, none⟩, ⟨0, none⟩, ⟨0, none⟩, ⟨0, none⟩, ⟨0, none⟩, ⟨0, none⟩, ⟨0, none⟩, ⟨0, none⟩, ⟨0, none⟩, ⟨0, none⟩, ⟨0, none⟩, ⟨0, none⟩, ⟨0, none⟩, ⟨0, none⟩, ⟨0, none⟩, ⟨0, none⟩, ⟨0, none⟩, ⟨0, none⟩, ⟨0, none⟩, ⟨0, none⟩, ⟨0, none⟩, ⟨0, none⟩, ⟨0, none⟩, ⟨0, none⟩, ⟨0, none⟩, ⟨0, none⟩, ⟨0, none⟩, ⟨0, none⟩, ⟨0, none⟩, ⟨0, none⟩], List.replicate 146 0⟩
noncomputable def f7_l0 (run : Run) (n : Nat) (k0 : Nat) (x1_1 : List AV) (x5_1 : List AV) (x6_1 : List AV) (x7_1 : List AV) (x8_1 : Int) : Option Res :=
  iterK (evalK G run n f7_keep 0 (sub [1, 1, 1, 0, 1, 0, 0] f7_body)) f7_t0 f7_o0 (blockK 0 (seqK (evalK G run n f7_keep 0 (sub [1, 1, 1, 1] f7_body) (retE G f7_info)) (retE G f7_info))) k0
    ⟨[.any, .val (.slice (.struct [(.struct [(.int .u32), (.blob 32), (.blob 32), (.int .u64)]), (.slice .str)])) none (.slice x1_1), .any, .any, .any, .val (.slice (.blob 32)) (some (5, 0)) (.slice x5_1), .val (.slice (.int .i64)) (some (6, 0)) (.slice x6_1), .val (.slice (.slice (.blob 32))) (some (7, 0)) (.slice x7_1), .val (.int .i64) none (.int x8_1), .any, .any, .any, .any, .any, .any, .any, .any, .any, .any, .any, .any, .any, .any, .any, .any, .any, .any, .any, .any, .any, .any, .any, .any, .any, .any, .any, .any, .any, .any, .any, .any, .any, .any, .any, .any, .any, .any, .any, .any, .any, .any, .any, .any, .any, .any, .any, .any, .any, .any, .any, .any, .any, .any, .any, .any, .any, .any, .any, .any, .any, .any, .any, .any, .any, .any, .any, .any, .any, .any, .any, .any, .any, .any, .any, .any, .any, .any, .any, .any, .any, .any, .any, .any, .any, .any, .any, .any, .any, .any, .any, .any, .any, .any, .any, .any, .any, .any, .any, .any, .any, .any, .any, .any, .any, .any, .any, .any, .any, .any, .any, .any, .any, .any, .any, .any, .any, .any, .any, .any, .any, .any, .any, .any, .any, .any, .any, .any, .any, .any, .any, .any, .any, .any, .any, .any, .any], [⟨0, none⟩, ⟨0, none⟩, ⟨0, none⟩, ⟨0, none⟩, ⟨0, none⟩, ⟨0, none⟩, ⟨0, none⟩, ⟨0, none⟩, ⟨0, none⟩, ⟨0, none⟩, ⟨0, none⟩, ⟨0, none⟩, ⟨0, none⟩, ⟨0, none⟩, ⟨0, none⟩, ⟨0, none⟩, ⟨0, none⟩, ⟨0, none⟩, ⟨0, none⟩, ⟨0, none⟩, ⟨0, none⟩, ⟨0, none⟩, ⟨0, none⟩, ⟨0, none⟩, ⟨0, none⟩, ⟨0, none⟩, ⟨0, none⟩, ⟨0, none⟩, ⟨0, none⟩, ⟨0, none⟩, ⟨0, none⟩, ⟨0, none⟩, ⟨0, none⟩, ⟨0, none⟩, ⟨0, none⟩, ⟨0, none⟩, ⟨0, none⟩, ⟨0, none⟩, ⟨0, none⟩, ⟨0, none⟩, ⟨0, none⟩, ⟨0, none⟩, ⟨0, none⟩, ⟨0, none⟩, ⟨0, none⟩, ⟨0, none⟩, ⟨0, none⟩, ⟨0, none⟩, ⟨0, none⟩, ⟨0, none⟩, ⟨0, none⟩, ⟨0, none⟩, ⟨0, none⟩, ⟨0, none⟩, ⟨0, none⟩, ⟨0, none⟩, ⟨0, none⟩, ⟨0, none⟩, ⟨0, none⟩, ⟨0, none⟩, ⟨0, none⟩, ⟨0, none⟩, ⟨0, none⟩, ⟨0, none⟩, ⟨0, none⟩, ⟨0, none⟩, ⟨0, none⟩, ⟨0, none⟩, ⟨0, none⟩, ⟨0, none⟩, ⟨0, none⟩, ⟨0, none⟩, ⟨0, none⟩, ⟨0, none⟩, ⟨0, none⟩, ⟨0, none⟩, ⟨0, none⟩, ⟨0, none⟩, ⟨0, none⟩, ⟨0, none⟩, ⟨0, none⟩, ⟨0, none⟩, ⟨0, none⟩, ⟨0, none⟩, ⟨0, none⟩, ⟨0, none⟩, ⟨0, none⟩, ⟨0, none⟩, ⟨0, none⟩, ⟨0, none⟩, ⟨0, none⟩, ⟨0, none⟩, ⟨0, none⟩, ⟨0, none⟩, ⟨0, none⟩, ⟨0, none⟩, ⟨0, none⟩, ⟨0, none⟩, ⟨0, none⟩, ⟨0, none⟩, ⟨0, none⟩, ⟨0, none⟩, ⟨0, none⟩, ⟨0, none⟩, ⟨0, none⟩, ⟨0, none⟩, ⟨0, none⟩, ⟨0, none⟩, ⟨0, none⟩, ⟨0, none⟩, ⟨0, none⟩, ⟨0, none⟩, ⟨0, none⟩, ⟨0, none⟩, ⟨0, none⟩, ⟨0, none⟩, ⟨0, none⟩, ⟨0, none⟩, ⟨0, none⟩, ⟨0, none⟩, ⟨0, none⟩, ⟨0, none⟩, ⟨0, none⟩, ⟨0, none⟩, ⟨0, none⟩, ⟨0, none⟩, ⟨0, none⟩, ⟨0, none⟩, ⟨0, none⟩, ⟨0, none⟩, ⟨0, none⟩, ⟨0, none⟩, ⟨0, none⟩, ⟨0, none⟩, ⟨0, none⟩, ⟨0, none⟩, ⟨0, none⟩, ⟨0, none⟩, ⟨0, none⟩, ⟨0, none⟩, ⟨0, none⟩, ⟨0, none⟩, ⟨0, none⟩, ⟨0, none⟩, ⟨0, none⟩, ⟨0, none⟩], List.replicate 146 0⟩
theorem f7_l4_eq (run : Run) (n : Nat) (k0 : Nat) (k2 : Nat) (k4 : Nat) (x1_3 : List AV) (x5_3 : List AV) (x6_3 : List AV) (x7_3 : List AV) (x8_3 : Int) (x9_2 : Int) (x10_1 : List AV) (x11_1 : Int) : f7_l4 run n k0 k2 (k4 + 1) x1_3 x5_3 x6_3 x7_3 x8_3 x9_2 x10_1 x11_1 =
  bif ltI x11_1 (x10_1.length : Int) then
    bif inR (IntKind.wrap .i64 (x11_1 - 1)) x10_1.length then
    bif inR x11_1 x10_1.length then
    (run 41 [.slice x6_3, .int ((nth x10_1 (Int.toNat (IntKind.wrap .i64 (x11_1 - 1)))).toInt), .int ((nth x10_1 (Int.toNat x11_1)).toInt)]).bind fun r9 =>
    nilV r9.outs (consV r9.vals fun v9 vs9 =>
    nilV vs9 (bif inR x11_1 x10_1.length then
    bif inR (IntKind.wrap .i64 (x11_1 - 1)) x10_1.length then
    bif leI ((nth x10_1 (Int.toNat (IntKind.wrap .i64 (x11_1 - 1)))).toInt) ((nth x10_1 (Int.toNat x11_1)).toInt) then
    some ⟨[.bool false], [], f7_fresh⟩
  else
    bif ltI v9.toInt 0 then
    some ⟨[.bool false], [], f7_fresh⟩
  else
    bif inR (IntKind.wrap .i64 (x11_1 - 1)) x10_1.length then
    bif inR ((nth x10_1 (Int.toNat (IntKind.wrap .i64 (x11_1 - 1)))).toInt) x7_3.length then
    bif leI (((nth x7_3 (Int.toNat ((nth x10_1 (Int.toNat (IntKind.wrap .i64 (x11_1 - 1)))).toInt))).toSlice).length : Int) v9.toInt then
    some ⟨[.bool false], [], f7_fresh⟩
  else
    bif inR (IntKind.wrap .i64 (x11_1 - 1)) x10_1.length then
    bif inR ((nth x10_1 (Int.toNat (IntKind.wrap .i64 (x11_1 - 1)))).toInt) x7_3.length then
    bif inR v9.toInt (((nth x7_3 (Int.toNat ((nth x10_1 (Int.toNat (IntKind.wrap .i64 (x11_1 - 1)))).toInt))).toSlice).length) then
    bif inR x11_1 x10_1.length then
    bif inR ((nth x10_1 (Int.toNat x11_1)).toInt) x5_3.length then
    bif !(eqS ((nth ((nth x7_3 (Int.toNat ((nth x10_1 (Int.toNat (IntKind.wrap .i64 (x11_1 - 1)))).toInt))).toSlice) (Int.toNat v9.toInt)).toBlob) ((nth x5_3 (Int.toNat ((nth x10_1 (Int.toNat x11_1)).toInt))).toBlob)) then
    some ⟨[.bool false], [], f7_fresh⟩
  else
    bif inR (IntKind.wrap .i64 (x11_1 - 1)) x10_1.length then
    (run 27 [.slice x6_3, .int ((nth x10_1 (Int.toNat (IntKind.wrap .i64 (x11_1 - 1)))).toInt)]).bind fun r10 =>
    bif r10.fresh then
    nilV r10.outs (consV r10.vals fun v10 vs10 =>
    nilV vs10 (bif leI (v10.toSlice.length : Int) v9.toInt then
    some ⟨[.bool false], [], f7_fresh⟩
  else
    f7_l4 run n k0 k2 k4 x1_3 x5_3 x6_3 x7_3 x8_3 x9_2 x10_1 (IntKind.wrap .i64 (x11_1 + 1))))
  else none
  else none
  else none
  else none
  else none
  else none
  else none
  else none
  else none
  else none
  else none))
  else none
  else none
  else
    f7_l2 run n k0 k2 x1_3 x5_3 x6_3 x7_3 x8_3 (IntKind.wrap .i64 (x9_2 + 1)) := by kernel_rfl
theorem f7_l2_eq (run : Run) (n : Nat) (k0 : Nat) (k2 : Nat) (x1_2 : List AV) (x5_2 : List AV) (x6_2 : List AV) (x7_2 : List AV) (x8_2 : Int) (x9_1 : Int) : f7_l2 run n k0 (k2 + 1) x1_2 x5_2 x6_2 x7_2 x8_2 x9_1 =
  bif leI x9_1 x8_2 then
    (run 40 [.slice x6_2, .int x8_2, .int x9_1]).bind fun r8 =>
    bif r8.fresh then
    nilV r8.outs (consV r8.vals fun v8 vs8 =>
    nilV vs8 (bif eqI (v8.toSlice.length : Int) 0 then
    some ⟨[.bool false], [], f7_fresh⟩
  else
    bif inR 0 v8.toSlice.length then
    bif !(eqI ((nth v8.toSlice 0).toInt) x8_2) then
    some ⟨[.bool false], [], f7_fresh⟩
  else
    bif inR (IntKind.wrap .i64 ((v8.toSlice.length : Int) - 1)) v8.toSlice.length then
    bif !(eqI ((nth v8.toSlice (Int.toNat (IntKind.wrap .i64 ((v8.toSlice.length : Int) - 1)))).toInt) x9_1) then
    some ⟨[.bool false], [], f7_fresh⟩
  else
    f7_l4 run n k0 k2 n x1_2 x5_2 x6_2 x7_2 x8_2 x9_1 v8.toSlice 1
  else none
  else none))
  else none
  else
    f7_l0 run n k0 x1_2 x5_2 x6_2 x7_2 (IntKind.wrap .i64 (x8_2 + 1)) := by kernel_rfl
theorem f7_l0_eq (run : Run) (n : Nat) (k0 : Nat) (x1_1 : List AV) (x5_1 : List AV) (x6_1 : List AV) (x7_1 : List AV) (x8_1 : Int) : f7_l0 run n (k0 + 1) x1_1 x5_1 x6_1 x7_1 x8_1 =
  bif ltI x8_1 (x1_1.length : Int) then
    f7_l2 run n k0 n x1_1 x5_1 x6_1 x7_1 x8_1 0
  else
    (run 39 []).bind fun r11 =>
    nilV r11.outs (consV r11.vals fun v11 vs11 =>
    nilV vs11 (some ⟨[.bool v11.toBool], [], f7_fresh⟩)) := by kernel_rfl
noncomputable def f7 (run : Run) (n : Nat) (a0_1 : Int) (a0_2 : List UInt8) (a0_3 : List UInt8) (a0_4 : Int) (a0_5 : List UInt8) (a0_6 : Int) (a0_7 : Int) (a0_8 : Int) (a0_9 : Int) (a0_10 : Int) (a0_11 : Int) (a1_1 : List AV) : Option Res := evalK G run n f7_info.keep 0 f7_info.body (retE G f7_info) (f7_info.start [.agg [.agg [.int a0_1, .blob a0_2, .blob a0_3, .int a0_4], .blob a0_5, .int a0_6, .int a0_7, .int a0_8, .int a0_9, .int a0_10, .int a0_11], .slice a1_1])
theorem f7_eq (run : Run) (n : Nat) (a0_1 : Int) (a0_2 : List UInt8) (a0_3 : List UInt8) (a0_4 : Int) (a0_5 : List UInt8) (a0_6 : Int) (a0_7 : Int) (a0_8 : Int) (a0_9 : Int) (a0_10 : Int) (a0_11 : Int) (a1_1 : List AV) : f7 run n a0_1 a0_2 a0_3 a0_4 a0_5 a0_6 a0_7 a0_8 a0_9 a0_10 a0_11 a1_1 =
  (run 18 [.slice a1_1]).bind fun r1 =>
    nilV r1.outs (consV r1.vals fun v1 vs1 =>
    nilV vs1 (bif v1.toBool then
    (run 39 []).bind fun r2 =>
    nilV r2.outs (consV r2.vals fun v2 vs2 =>
    nilV vs2 (some ⟨[.bool v2.toBool], [], f7_fresh⟩))
  else
    (run 20 [.agg [.agg [.int a0_1, .blob a0_2, .blob a0_3, .int a0_4], .blob a0_5, .int a0_6, .int a0_7, .int a0_8, .int a0_9, .int a0_10, .int a0_11], .slice a1_1]).bind fun r3 =>
    nilV r3.outs (consV r3.vals fun v3 vs3 =>
    nilV vs3 (bif !(eqI ((v3.fld 0).toInt) 0) then
    (run 39 []).bind fun r4 =>
    nilV r4.outs (consV r4.vals fun v4 vs4 =>
    nilV vs4 (some ⟨[.bool v4.toBool], [], f7_fresh⟩))
  else
    (run 24 [.slice a1_1]).bind fun r5 =>
    bif r5.fresh then
    nilV r5.outs (consV r5.vals fun v5 vs5 =>
    nilV vs5 ((run 25 [.blob a0_5, .slice a1_1]).bind fun r6 =>
    bif r6.fresh then
    nilV r6.outs (consV r6.vals fun v6 vs6 =>
    nilV vs6 ((run 26 [.blob a0_5, .slice a1_1]).bind fun r7 =>
    bif r7.fresh then
    nilV r7.outs (consV r7.vals fun v7 vs7 =>
    nilV vs7 (f7_l0 run n n a1_1 v5.toSlice v6.toSlice v7.toSlice 0))
  else none))
  else none))
  else none)))) := by kernel_rfl
theorem f7_run (ext : Run) (n : Nat) (a0_1 : Int) (a0_2 : List UInt8) (a0_3 : List UInt8) (a0_4 : Int) (a0_5 : List UInt8) (a0_6 : Int) (a0_7 : Int) (a0_8 : Int) (a0_9 : Int) (a0_10 : Int) (a0_11 : Int) (a1_1 : List AV) : runE G ext (n + 1) 7 [.agg [.agg [.int a0_1, .blob a0_2, .blob a0_3, .int a0_4], .blob a0_5, .int a0_6, .int a0_7, .int a0_8, .int a0_9, .int a0_10, .int a0_11], .slice a1_1] = f7 (runE G ext n) n a0_1 a0_2 a0_3 a0_4 a0_5 a0_6 a0_7 a0_8 a0_9 a0_10 a0_11 a1_1 := runE_succ f7_at f7_in

end Go.Proofs.Ytncajhkogppojaa.Ev
