/- What the evaluator does with the functions, as programs over plain values: printed by gen.py, checked by the kernel. -/
import Derived.Test.YtncajhkogppojaaEvFA
namespace Go.Proofs.Ytncajhkogppojaa.Ev
open Go Go.RowKit
set_option maxRecDepth 100000


noncomputable def f5_l2 (run : Run) (n : Nat) (k0 : Nat) (k2 : Nat) (x1_2 : List AV) (x5_2 : List AV) (x6_2 : List AV) (x7_2 : List AV) (x8_2 : Int) (x9_1 : List AV) (x10_1 : Int) : Option Res :=
  iterK (evalK G run n f5_keep 2 (sub [1, 1, 1, 1, 0, 1, 0, 0, 1, 0, 0, 1, 1, 1, 0, 0] f5_body)) f5_t2 f5_o2 (blockK 2 (blockK 1 (seqK (evalK G run n f5_keep 0 (sub [1, 1, 1, 1, 0, 1, 0, 0, 1, 1] f5_body) (seqK (fun t => iterK (evalK G run n f5_keep 0 (sub [1, 1, 1, 1, 0, 1, 0, 0] f5_body)) f5_t0 f5_o0 (blockK 0 (seqK (evalK G run n f5_keep 0 (sub [1, 1, 1, 1, 1] f5_body) (retE G f5_info)) (retE G f5_info))) k0 (t.clear f5_t0 f5_o0)) (blockK 0 (seqK (evalK G run n f5_keep 0 (sub [1, 1, 1, 1, 1] f5_body) (retE G f5_info)) (retE G f5_info))))) (seqK (fun t => iterK (evalK G run n f5_keep 0 (sub [1, 1, 1, 1, 0, 1, 0, 0] f5_body)) f5_t0 f5_o0 (blockK 0 (seqK (evalK G run n f5_keep 0 (sub [1, 1, 1, 1, 1] f5_body) (retE G f5_info)) (retE G f5_info))) k0 (t.clear f5_t0 f5_o0)) (blockK 0 (seqK (evalK G run n f5_keep 0 (sub [1, 1, 1, 1, 1] f5_body) (retE G f5_info)) (retE G f5_info))))))) k2
    ⟨[.any, .val (.slice (.struct [(.struct [(.int .u32), (.blob 32), (.blob 32), (.int .u64)]), (.slice .str)])) none (.slice x1_2), .any, .any, .any, .val (.slice (.blob 32)) (some (5, 0)) (.slice x5_2), .val (.slice (.int .i64)) (some (6, 0)) (.slice x6_2), .val (.slice (.slice (.blob 32))) (some (7, 0)) (.slice x7_2), .val (.int .i64) none (.int x8_2), .val (.slice (.int .i64)) (some (9, 0)) (.slice x9_1), .val (.int .i64) none (.int x10_1), .any, .any, .any, .any, .any, .any, .any, .any, .any, .any, .any, .any, .any, .any, .any, .any, .any, .any, .any, .any, .any, .any, .any, .any, .any, .any, .any, .any, .any, .any, .any, .any, .any, .any, .any, .any, .any, .any, .any, .any, .any, .any, .any, .any, .any, .any, .any, .any, .any, .any, .any, .any, .any, .any, .any, .any, .any, .any, .any, .any, .any, .any, .any, .any, .any, .any, .any, .any, .any, .any, .any, .any, .any, .any, .any, .any, .any, .any, .any], [⟨0, none⟩, ⟨0, none⟩, ⟨0, none⟩, ⟨0, none⟩, ⟨0, none⟩, ⟨0, none⟩, ⟨0, none⟩, ⟨0, none⟩, ⟨0, none⟩, ⟨0, none⟩, ⟨0, none⟩, ⟨0, none⟩, ⟨0, none⟩, ⟨0, none⟩, ⟨0, none⟩, ⟨0, none⟩, ⟨0, none⟩, ⟨0, none⟩, ⟨0, none⟩, ⟨0, none⟩, ⟨0, none⟩, ⟨0, none⟩, ⟨0, none⟩, ⟨0, none⟩, ⟨0, none⟩, ⟨0, none⟩, ⟨0, none⟩, ⟨0, none⟩, ⟨0, none⟩, ⟨0, none⟩, ⟨0, none⟩, ⟨0, none⟩, ⟨0, none⟩, ⟨0, none⟩, ⟨0, none⟩, ⟨0, none⟩, ⟨0, none⟩, ⟨0, none⟩, ⟨0, none⟩, ⟨0, none⟩, ⟨0, none⟩, ⟨0, none⟩, ⟨0, none⟩, ⟨0, none⟩, ⟨0, none⟩, ⟨0, none⟩, ⟨0, none⟩, ⟨0, none⟩, ⟨0, none⟩, ⟨0, none⟩, ⟨0, none⟩, ⟨0, none⟩, ⟨0, none⟩, ⟨0, none⟩, ⟨0, none⟩, ⟨0, none⟩, ⟨0, none⟩, ⟨0, none⟩, ⟨0, none⟩, ⟨0, none⟩, ⟨0, none⟩, ⟨0, none⟩, ⟨0, none⟩, ⟨0, none⟩, ⟨0, none⟩, ⟨0, none⟩, ⟨0, none⟩, ⟨0, none⟩, ⟨0, none⟩, ⟨0, none⟩, ⟨0, none⟩, ⟨0, none⟩, ⟨0, none⟩, ⟨0, none⟩, ⟨0, none⟩, ⟨0, none⟩, ⟨0, none⟩, ⟨0, none⟩, ⟨0, none⟩, ⟨0, none⟩, ⟨0, none⟩, ⟨0, none⟩, ⟨0, none⟩, ⟨0, none⟩, ⟨0, none⟩, ⟨0, none⟩, ⟨0, none⟩, ⟨0, none⟩, ⟨0, none⟩, ⟨0, none⟩], List.replicate 90 0⟩
noncomputable def f5_l0 (run : Run) (n : Nat) (k0 : Nat) (x1_1 : List AV) (x5_1 : List AV) (x6_1 : List AV) (x7_1 : List AV) (x8_1 : Int) : Option Res :=
  iterK (evalK G run n f5_keep 0 (sub [1, 1, 1, 1, 0, 1, 0, 0] f5_body)) f5_t0 f5_o0 (blockK 0 (seqK (evalK G run n f5_keep 0 (sub [1, 1, 1, 1, 1] f5_body) (retE G f5_info)) (retE G f5_info))) k0
    ⟨[.any, .val (.slice (.struct [(.struct [(.int .u32), (.blob 32), (.blob 32), (.int .u64)]), (.slice .str)])) none (.slice x1_1), .any, .any, .any, .val (.slice (.blob 32)) (some (5, 0)) (.slice x5_1), .val (.slice (.int .i64)) (some (6, 0)) (.slice x6_1), .val (.slice (.slice (.blob 32))) (some (7, 0)) (.slice x7_1), .val (.int .i64) none (.int x8_1), .any, .any, .any, .any, .any, .any, .any, .any, .any, .any, .any, .any, .any, .any, .any, .any, .any, .any, .any, .any, .any, .any, .any, .any, .any, .any, .any, .any, .any, .any, .any, .any, .any, .any, .any, .any, .any, .any, .any, .any, .any, .any, .any, .any, .any, .any, .any, .any, .any, .any, .any, .any, .any, .any, .any, .any, .any, .any, .any, .any, .any, .any, .any, .any, .any, .any, .any, .any, .any, .any, .any, .any, .any, .any, .any, .any, .any, .any, .any, .any, .any], [⟨0, none⟩, ⟨0, none⟩, ⟨0, none⟩, ⟨0, none⟩, ⟨0, none⟩, ⟨0, none⟩, ⟨0, none⟩, ⟨0, none⟩, ⟨0, none⟩, ⟨0, none⟩, ⟨0, none⟩, ⟨0, none⟩, ⟨0, none⟩, ⟨0, none⟩, ⟨0, none⟩, ⟨0, none⟩, ⟨0, none⟩, ⟨0, none⟩, ⟨0, none⟩, ⟨0, none⟩, ⟨0, none⟩, ⟨0, none⟩, ⟨0, none⟩, ⟨0, none⟩, ⟨0, none⟩, ⟨0, none⟩, ⟨0, none⟩, ⟨0, none⟩, ⟨0, none⟩, ⟨0, none⟩, ⟨0, none⟩, ⟨0, none⟩, ⟨0, none⟩, ⟨0, none⟩, ⟨0, none⟩, ⟨0, none⟩, ⟨0, none⟩, ⟨0, none⟩, ⟨0, none⟩, ⟨0, none⟩, ⟨0, none⟩, ⟨0, none⟩, ⟨0, none⟩, ⟨0, none⟩, ⟨0, none⟩, ⟨0, none⟩, ⟨0, none⟩, ⟨0, none⟩, ⟨0, none⟩, ⟨0, none⟩, ⟨0, none⟩, ⟨0, none⟩, ⟨0, none⟩, ⟨0, none⟩, ⟨0, none⟩, ⟨0, none⟩, ⟨0, none⟩, ⟨0, none⟩, ⟨0, none⟩, ⟨0, none⟩, ⟨0, none⟩, ⟨0, none⟩, ⟨0, none⟩, ⟨0, none⟩, ⟨0, none⟩, ⟨0, none⟩, ⟨0, none⟩, ⟨0, none⟩, ⟨0, none⟩, ⟨0, none⟩, ⟨0, none⟩, ⟨0, none⟩, ⟨0, none⟩, ⟨0, none⟩, ⟨0, none⟩, ⟨0, none⟩, ⟨0, none⟩, ⟨0, none⟩, ⟨0, none⟩, ⟨0, none⟩, ⟨0, none⟩, ⟨0, none⟩, ⟨0, none⟩, ⟨0, none⟩, ⟨0, none⟩, ⟨0, none⟩, ⟨0, none⟩, ⟨0, none⟩, ⟨0, none⟩, ⟨0, none⟩], List.replicate 90 0⟩
theorem f5_l2_eq (run : Run) (n : Nat) (k0 : Nat) (k2 : Nat) (x1_2 : List AV) (x5_2 : List AV) (x6_2 : List AV) (x7_2 : List AV) (x8_2 : Int) (x9_1 : List AV) (x10_1 : Int) : f5_l2 run n k0 (k2 + 1) x1_2 x5_2 x6_2 x7_2 x8_2 x9_1 x10_1 =
  bif ltI x10_1 (x9_1.length : Int) then
    bif inR x8_2 x7_2.length then
    bif inR x10_1 (((nth x7_2 (Int.toNat x8_2)).toSlice).length) then
    bif inR x10_1 x9_1.length then
    bif inR ((nth x9_1 (Int.toNat x10_1)).toInt) x5_2.length then
    bif !(eqS ((nth ((nth x7_2 (Int.toNat x8_2)).toSlice) (Int.toNat x10_1)).toBlob) ((nth x5_2 (Int.toNat ((nth x9_1 (Int.toNat x10_1)).toInt))).toBlob)) then
    some ⟨[.bool false], [], f5_fresh⟩
  else
    f5_l2 run n k0 k2 x1_2 x5_2 x6_2 x7_2 x8_2 x9_1 (IntKind.wrap .i64 (x10_1 + 1))
  else none
  else none
  else none
  else none
  else
    f5_l0 run n k0 x1_2 x5_2 x6_2 x7_2 (IntKind.wrap .i64 (x8_2 + 1)) := by kernel_rfl
theorem f5_l0_eq (run : Run) (n : Nat) (k0 : Nat) (x1_1 : List AV) (x5_1 : List AV) (x6_1 : List AV) (x7_1 : List AV) (x8_1 : Int) : f5_l0 run n (k0 + 1) x1_1 x5_1 x6_1 x7_1 x8_1 =
  bif leI x8_1 (x1_1.length : Int) then
    (run 27 [.slice x6_1, .int x8_1]).bind fun r8 =>
    bif r8.fresh then
    nilV r8.outs (consV r8.vals fun v8 vs8 =>
    nilV vs8 (bif inR x8_1 x7_1.length then
    bif !(eqI (v8.toSlice.length : Int) (((nth x7_1 (Int.toNat x8_1)).toSlice).length : Int)) then
    some ⟨[.bool false], [], f5_fresh⟩
  else
    f5_l2 run n k0 n x1_1 x5_1 x6_1 x7_1 x8_1 v8.toSlice 0
  else none))
  else none
  else
    (run 23 []).bind fun r9 =>
    nilV r9.outs (consV r9.vals fun v9 vs9 =>
    nilV vs9 (some ⟨[.bool v9.toBool], [], f5_fresh⟩)) := by kernel_rfl
noncomputable def f5 (run : Run) (n : Nat) (a0_1 : Int) (a0_2 : List UInt8) (a0_3 : List UInt8) (a0_4 : Int) (a0_5 : List UInt8) (a0_6 : Int) (a0_7 : Int) (a0_8 : Int) (a0_9 : Int) (a0_10 : Int) (a0_11 : Int) (a1_1 : List AV) : Option Res := evalK G run n f5_info.keep 0 f5_info.body (retE G f5_info) (f5_info.start [.agg [.agg [.int a0_1, .blob a0_2, .blob a0_3, .int a0_4], .blob a0_5, .int a0_6, .int a0_7, .int a0_8, .int a0_9, .int a0_10, .int a0_11], .slice a1_1])
theorem f5_eq (run : Run) (n : Nat) (a0_1 : Int) (a0_2 : List UInt8) (a0_3 : List UInt8) (a0_4 : Int) (a0_5 : List UInt8) (a0_6 : Int) (a0_7 : Int) (a0_8 : Int) (a0_9 : Int) (a0_10 : Int) (a0_11 : Int) (a1_1 : List AV) : f5 run n a0_1 a0_2 a0_3 a0_4 a0_5 a0_6 a0_7 a0_8 a0_9 a0_10 a0_11 a1_1 =
  (run 18 [.slice a1_1]).bind fun r1 =>
    nilV r1.outs (consV r1.vals fun v1 vs1 =>
    nilV vs1 (bif v1.toBool then
    (run 23 []).bind fun r2 =>
    nilV r2.outs (consV r2.vals fun v2 vs2 =>
    nilV vs2 (some ⟨[.bool v2.toBool], [], f5_fresh⟩))
  else
    (run 20 [.agg [.agg [.int a0_1, .blob a0_2, .blob a0_3, .int a0_4], .blob a0_5, .int a0_6, .int a0_7, .int a0_8, .int a0_9, .int a0_10, .int a0_11], .slice a1_1]).bind fun r3 =>
    nilV r3.outs (consV r3.vals fun v3 vs3 =>
    nilV vs3 (bif !(eqI ((v3.fld 0).toInt) 0) then
    (run 23 []).bind fun r4 =>
    nilV r4.outs (consV r4.vals fun v4 vs4 =>
    nilV vs4 (some ⟨[.bool v4.toBool], [], f5_fresh⟩))
  else
    (run 24 [.slice a1_1]).bind fun r5 =>
    bif r5.fresh then
    nilV r5.outs (consV r5.vals fun v5 vs5 =>
    nilV vs5 ((run 25 [.blob a0_5, .slice a1_1]).bind fun r6 =>
    bif r6.fresh then
    nilV r6.outs (consV r6.vals fun v6 vs6 =>
    nilV vs6 ((run 26 [.blob a0_5, .slice a1_1]).bind fun r7 =>
    bif r7.fresh then
    nilV r7.outs (consV r7.vals fun v7 vs7 =>
    nilV vs7 (bif !(eqI (v5.toSlice.length : Int) (a1_1.length : Int)) then
    some ⟨[.bool false], [], f5_fresh⟩
  else
    bif !(eqI (v6.toSlice.length : Int) (a1_1.length : Int)) then
    some ⟨[.bool false], [], f5_fresh⟩
  else
    bif !(eqI (v7.toSlice.length : Int) (IntKind.wrap .i64 ((a1_1.length : Int) + 1))) then
    some ⟨[.bool false], [], f5_fresh⟩
  else
    f5_l0 run n n a1_1 v5.toSlice v6.toSlice v7.toSlice 0))
  else none))
  else none))
  else none)))) := by kernel_rfl
theorem f5_run (ext : Run) (n : Nat) (a0_1 : Int) (a0_2 : List UInt8) (a0_3 : List UInt8) (a0_4 : Int) (a0_5 : List UInt8) (a0_6 : Int) (a0_7 : Int) (a0_8 : Int) (a0_9 : Int) (a0_10 : Int) (a0_11 : Int) (a1_1 : List AV) : runE G ext (n + 1) 5 [.agg [.agg [.int a0_1, .blob a0_2, .blob a0_3, .int a0_4], .blob a0_5, .int a0_6, .int a0_7, .int a0_8, .int a0_9, .int a0_10, .int a0_11], .slice a1_1] = f5 (runE G ext n) n a0_1 a0_2 a0_3 a0_4 a0_5 a0_6 a0_7 a0_8 a0_9 a0_10 a0_11 a1_1 := runE_succ f5_at f5_in

noncomputable def f68_l0 (run : Run) (n : Nat) (k0 : Nat) (x0_1 : List AV) (x3_1 : Int) (x4_1 : Int) : Option Res :=
  iterK (evalK G run n f68_keep 0 (sub [1, 1, 0, 1, 0, 0] f68_body)) f68_t0 f68_o0 (blockK 0 (seqK (evalK G run n f68_keep 0 (sub [1, 1, 1] f68_body) (retE G f68_info)) (retE G f68_info))) k0
    ⟨[.val (.slice (.struct [(.struct [(.int .u32), (.blob 32), (.blob 32), (.int .u64)]), (.struct [(.int .i64), (.int .i64), (.slice (.blob 32))])])) none (.slice x0_1), .any, .any, .val (.int .i64) none (.int x3_1), .val (.int .i64) none (.int x4_1), .any, .any, .any, .any, .any, .any, .any, .any, .any, .any, .any, .any, .any, .any, .any, .any, .any, .any, .any, .any, .any, .any, .any, .any, .any, .any, .any, .any, .any, .any, .any, .any, .any, .any, .any, .any, .any], [⟨0, none⟩, ⟨0, none⟩, ⟨0, none⟩, ⟨0, none⟩, ⟨0, none⟩, ⟨0, none⟩, ⟨0, none⟩, ⟨0, none⟩, ⟨0, none⟩, ⟨0, none⟩, ⟨0, none⟩, ⟨0, none⟩, ⟨0, none⟩, ⟨0, none⟩, ⟨0, none⟩, ⟨0, none⟩, ⟨0, none⟩, ⟨0, none⟩, ⟨0, none⟩, ⟨0, none⟩, ⟨0, none⟩, ⟨0, none⟩, ⟨0, none⟩, ⟨0, none⟩, ⟨0, none⟩, ⟨0, none⟩, ⟨0, none⟩, ⟨0, none⟩, ⟨0, none⟩, ⟨0, none⟩, ⟨0, none⟩, ⟨0, none⟩, ⟨0, none⟩, ⟨0, none⟩, ⟨0, none⟩, ⟨0, none⟩, ⟨0, none⟩, ⟨0, none⟩, ⟨0, none⟩, ⟨0, none⟩, ⟨0, none⟩, ⟨0, none⟩], List.replicate 42 0⟩
theorem f68_l0_eq (run : Run) (n : Nat) (k0 : Nat) (x0_1 : List AV) (x3_1 : Int) (x4_1 : Int) : f68_l0 run n (k0 + 1) x0_1 x3_1 x4_1 =
  bif ltI x4_1 (x0_1.length : Int) then
    bif ltI x4_1 100 then
    bif inR x4_1 x0_1.length then
    f68_l0 run n k0 x0_1 (mn2 (IntKind.wrap .i64 (x3_1 + (((((nth x0_1 (Int.toNat x4_1)).fld 1).fld 2).toSlice).length : Int))) 1048576) (IntKind.wrap .i64 (x4_1 + 1))
  else none
  else
    bif ltI 40 (x0_1.length : Int) then
    bif leI (x0_1.length : Int) 1024 then
    some ⟨[.bool true], [], f68_fresh⟩
  else
    bif ltI 1050 (x0_1.length : Int) then
    some ⟨[.bool true], [], f68_fresh⟩
  else
    some ⟨[.bool (ltI 300 x3_1)], [], f68_fresh⟩
  else
    bif ltI 1050 (x0_1.length : Int) then
    some ⟨[.bool true], [], f68_fresh⟩
  else
    some ⟨[.bool (ltI 300 x3_1)], [], f68_fresh⟩
  else
    bif ltI 40 (x0_1.length : Int) then
    bif leI (x0_1.length : Int) 1024 then
    some ⟨[.bool true], [], f68_fresh⟩
  else
    bif ltI 1050 (x0_1.length : Int) then
    some ⟨[.bool true], [], f68_fresh⟩
  else
    some ⟨[.bool (ltI 300 x3_1)], [], f68_fresh⟩
  else
    bif ltI 1050 (x0_1.length : Int) then
    some ⟨[.bool true], [], f68_fresh⟩
  else
    some ⟨[.bool (ltI 300 x3_1)], [], f68_fresh⟩ := by kernel_rfl
noncomputable def f68 (run : Run) (n : Nat) (a0_1 : List AV) : Option Res := evalK G run n f68_info.keep 0 f68_info.body (retE G f68_info) (f68_info.start [.slice a0_1])
theorem f68_eq (run : Run) (n : Nat) (a0_1 : List AV) : f68 run n a0_1 =
  f68_l0 run n n a0_1 0 0 := by kernel_rfl
theorem f68_run (ext : Run) (n : Nat) (a0_1 : List AV) : runE G ext (n + 1) 68 [.slice a0_1] = f68 (runE G ext n) n a0_1 := runE_succ f68_at f68_in

noncomputable def f28 (run : Run) (n : Nat) (a0_1 : List AV) (a1_1 : Int) (a1_2 : List AV) (a1_3 : Int) (a1_4 : Int) (a1_5 : List AV) (a1_6 : Int) (a1_7 : List UInt8) (a1_8 : Int) (a1_9 : Int) (a1_10 : List AV) : Option Res := evalK G run n f28_info.keep 0 f28_info.body (retE G f28_info) (f28_info.start [.slice a0_1, .agg [.int a1_1, .slice a1_2, .agg [.int a1_3, .int a1_4, .slice a1_5], .int a1_6, .str a1_7, .agg [.int a1_8, .int a1_9, .slice a1_10]]])
theorem f28_eq (run : Run) (n : Nat) (a0_1 : List AV) (a1_1 : Int) (a1_2 : List AV) (a1_3 : Int) (a1_4 : Int) (a1_5 : List AV) (a1_6 : Int) (a1_7 : List UInt8) (a1_8 : Int) (a1_9 : Int) (a1_10 : List AV) : f28 run n a0_1 a1_1 a1_2 a1_3 a1_4 a1_5 a1_6 a1_7 a1_8 a1_9 a1_10 =
  (run 68 [.slice a0_1]).bind fun r1 =>
    nilV r1.outs (consV r1.vals fun v1 vs1 =>
    nilV vs1 (bif v1.toBool then
    some ⟨[.bool true], [], f28_fresh⟩
  else
    (run 68 [.slice a1_2]).bind fun r2 =>
    nilV r2.outs (consV r2.vals fun v2 vs2 =>
    nilV vs2 (bif v2.toBool then
    some ⟨[.bool true], [], f28_fresh⟩
  else
    bif ltI 100 (a1_5.length : Int) then
    some ⟨[.bool true], [], f28_fresh⟩
  else
    bif ltI 100 (a1_10.length : Int) then
    some ⟨[.bool true], [], f28_fresh⟩
  else
    some ⟨[.bool (ltI 5000 (a1_7.length : Int))], [], f28_fresh⟩)))) := by kernel_rfl
theorem f28_run (ext : Run) (n : Nat) (a0_1 : List AV) (a1_1 : Int) (a1_2 : List AV) (a1_3 : Int) (a1_4 : Int) (a1_5 : List AV) (a1_6 : Int) (a1_7 : List UInt8) (a1_8 : Int) (a1_9 : Int) (a1_10 : List AV) : runE G ext (n + 1) 28 [.slice a0_1, .agg [.int a1_1, .slice a1_2, .agg [.int a1_3, .int a1_4, .slice a1_5], .int a1_6, .str a1_7, .agg [.int a1_8, .int a1_9, .slice a1_10]]] = f28 (runE G ext n) n a0_1 a1_1 a1_2 a1_3 a1_4 a1_5 a1_6 a1_7 a1_8 a1_9 a1_10 := runE_succ f28_at f28_in

noncomputable def f72 (run : Run) (n : Nat) (a0_1 : Int) (a1_1 : Int) (a1_2 : List AV) (a1_3 : Int) (a1_4 : Int) (a1_5 : List AV) (a1_6 : Int) (a1_7 : List UInt8) (a1_8 : Int) (a1_9 : Int) (a1_10 : List AV) : Option Res := evalK G run n f72_info.keep 0 f72_info.body (retE G f72_info) (f72_info.start [.int a0_1, .agg [.int a1_1, .slice a1_2, .agg [.int a1_3, .int a1_4, .slice a1_5], .int a1_6, .str a1_7, .agg [.int a1_8, .int a1_9, .slice a1_10]]])
theorem f72_eq (run : Run) (n : Nat) (a0_1 : Int) (a1_1 : Int) (a1_2 : List AV) (a1_3 : Int) (a1_4 : Int) (a1_5 : List AV) (a1_6 : Int) (a1_7 : List UInt8) (a1_8 : Int) (a1_9 : Int) (a1_10 : List AV) : f72 run n a0_1 a1_1 a1_2 a1_3 a1_4 a1_5 a1_6 a1_7 a1_8 a1_9 a1_10 =
  bif ltI a1_1 0 then
    some ⟨[.int 15], [], f72_fresh⟩
  else
    bif leI a0_1 a1_1 then
    some ⟨[.int 15], [], f72_fresh⟩
  else
    bif ltI a1_6 0 then
    some ⟨[.int 15], [], f72_fresh⟩
  else
    bif leI (mx2 (a1_2.length : Int) 1) a1_6 then
    some ⟨[.int 15], [], f72_fresh⟩
  else
    bif ltI 0 (a1_2.length : Int) then
    bif eqI a1_1 0 then
    some ⟨[.int 15], [], f72_fresh⟩
  else
    bif ltI 1024 (a1_2.length : Int) then
    some ⟨[.int 4], [], f72_fresh⟩
  else
    some ⟨[.int 0], [], f72_fresh⟩
  else
    bif ltI 1024 (a1_2.length : Int) then
    some ⟨[.int 4], [], f72_fresh⟩
  else
    some ⟨[.int 0], [], f72_fresh⟩ := by kernel_rfl
theorem f72_run (ext : Run) (n : Nat) (a0_1 : Int) (a1_1 : Int) (a1_2 : List AV) (a1_3 : Int) (a1_4 : Int) (a1_5 : List AV) (a1_6 : Int) (a1_7 : List UInt8) (a1_8 : Int) (a1_9 : Int) (a1_10 : List AV) : runE G ext (n + 1) 72 [.int a0_1, .agg [.int a1_1, .slice a1_2, .agg [.int a1_3, .int a1_4, .slice a1_5], .int a1_6, .str a1_7, .agg [.int a1_8, .int a1_9, .slice a1_10]]] = f72 (runE G ext n) n a0_1 a1_1 a1_2 a1_3 a1_4 a1_5 a1_6 a1_7 a1_8 a1_9 a1_10 := runE_succ f72_at f72_in

noncomputable def f130_l0 (run : Run) (n : Nat) (k0 : Nat) (x29_1 : Int) (x30_1 : Int) (o2_1 : Int) (o2_2 : Int) (o2_3 : List AV) (o3_1 : Int) (o3_2 : Int) (o3_3 : List AV) : Option Res :=
  iterK (evalK G run n f130_keep 0 (sub [1, 1, 0, 1, 0, 0] f130_body)) f130_t0 f130_o0 (blockK 0 (seqK (evalK G run n f130_keep 0 (sub [1, 1, 1] f130_body) (retE G f130_info)) (retE G f130_info))) k0
    ⟨[.any, .any, .ptr ⟨(.struct [(.int .i64), (.int .i64), (.slice (.blob 32))]), 2, 1, []⟩, .ptr ⟨(.struct [(.int .i64), (.int .i64), (.slice (.blob 32))]), 3, 1, []⟩, .any, .any, .any, .any, .any, .any, .any, .any, .any, .any, .any, .any, .any, .any, .any, .any, .any, .any, .any, .any, .any, .any, .any, .any, .any, .val (.int .i64) none (.int x29_1), .val (.int .i64) none (.int x30_1), .any, .any, .any, .any, .any, .any, .any, .any, .any, .any, .any, .any, .any, .any], [⟨0, none⟩, ⟨0, none⟩, ⟨1, some ⟨(.struct [(.int .i64), (.int .i64), (.slice (.blob 32))]), .agg [.int o2_1, .int o2_2, .slice o2_3]⟩⟩, ⟨1, some ⟨(.struct [(.int .i64), (.int .i64), (.slice (.blob 32))]), .agg [.int o3_1, .int o3_2, .slice o3_3]⟩⟩, ⟨0, none⟩, ⟨0, none⟩, ⟨0, none⟩, ⟨0, none⟩, ⟨0, none⟩, ⟨0, none⟩, ⟨0, none⟩, ⟨0, none⟩, ⟨0, none⟩, ⟨0, none⟩, ⟨0, none⟩, ⟨0, none⟩, ⟨0, none⟩, ⟨0, none⟩, ⟨0, none⟩, ⟨0, none⟩, ⟨0, none⟩, ⟨0, none⟩, ⟨0, none⟩, ⟨0, none⟩, ⟨0, none⟩, ⟨0, none⟩, ⟨0, none⟩, ⟨0, none⟩, ⟨0, none⟩, ⟨0, none⟩, ⟨0, none⟩, ⟨0, none⟩, ⟨0, none⟩, ⟨0, none⟩, ⟨0, none⟩, ⟨0, none⟩, ⟨0, none⟩, ⟨0, none⟩, ⟨0, none⟩, ⟨0, none⟩, ⟨0, none⟩, ⟨0, none⟩, ⟨0, none⟩, ⟨0, none⟩, ⟨0, none⟩], List.replicate 45 0⟩
theorem f130_l0_eq (run : Run) (n : Nat) (k0 : Nat) (x29_1 : Int) (x30_1 : Int) (o2_1 : Int) (o2_2 : Int) (o2_3 : List AV) (o3_1 : Int) (o3_2 : Int) (o3_3 : List AV) : f130_l0 run n (k0 + 1) x29_1 x30_1 o2_1 o2_2 o2_3 o3_1 o3_2 o3_3 =
  bif ltI x30_1 x29_1 then
    bif inR x30_1 o2_3.length then
    bif inR x30_1 o3_3.length then
    bif !(eqS ((nth o2_3 (Int.toNat x30_1)).toBlob) ((nth o3_3 (Int.toNat x30_1)).toBlob)) then
    some ⟨[.bool false], [], f130_fresh⟩
  else
    f130_l0 run n k0 x29_1 (IntKind.wrap .i64 (x30_1 + 1)) o2_1 o2_2 o2_3 o3_1 o3_2 o3_3
  else none
  else none
  else
    some ⟨[.bool true], [], f130_fresh⟩ := by kernel_rfl
noncomputable def f130 (run : Run) (n : Nat) (a0_1 : Int) (a0_2 : Int) (a0_3 : List AV) (a1_1 : Int) (a1_2 : Int) (a1_3 : List AV) : Option Res := evalK G run n f130_info.keep 0 f130_info.body (retE G f130_info) (f130_info.start [.agg [.int a0_1, .int a0_2, .slice a0_3], .agg [.int a1_1, .int a1_2, .slice a1_3]])
theorem f130_eq (run : Run) (n : Nat) (a0_1 : Int) (a0_2 : Int) (a0_3 : List AV) (a1_1 : Int) (a1_2 : Int) (a1_3 : List AV) : f130 run n a0_1 a0_2 a0_3 a1_1 a1_2 a1_3 =
  bif !(eqI a0_1 a1_1) then
    some ⟨[.bool false], [], f130_fresh⟩
  else
    bif !(eqI a0_2 a1_2) then
    some ⟨[.bool false], [], f130_fresh⟩
  else
    bif !(eqI (a0_3.length : Int) (a1_3.length : Int)) then
    some ⟨[.bool false], [], f130_fresh⟩
  else
    f130_l0 run n n (a0_3.length : Int) 0 a0_1 a0_2 a0_3 a1_1 a1_2 a1_3 := by kernel_rfl
theorem f130_run (ext : Run) (n : Nat) (a0_1 : Int) (a0_2 : Int) (a0_3 : List AV) (a1_1 : Int) (a1_2 : Int) (a1_3 : List AV) : runE G ext (n + 1) 130 [.agg [.int a0_1, .int a0_2, .slice a0_3], .agg [.int a1_1, .int a1_2, .slice a1_3]] = f130 (runE G ext n) n a0_1 a0_2 a0_3 a1_1 a1_2 a1_3 := runE_succ f130_at f130_in

noncomputable def f101 (run : Run) (n : Nat) (a0_1 : Int) (a0_2 : Int) (a0_3 : List AV) : Option Res := evalK G run n f101_info.keep 0 f101_info.body (retE G f101_info) (f101_info.start [.agg [.int a0_1, .int a0_2, .slice a0_3]])
theorem f101_eq (run : Run) (n : Nat) (a0_1 : Int) (a0_2 : Int) (a0_3 : List AV) : f101 run n a0_1 a0_2 a0_3 =
  (run 130 [.agg [.int a0_1, .int a0_2, .slice a0_3], .agg [.int 0, .int 0, .slice []]]).bind fun r1 =>
    nilV r1.outs (consV r1.vals fun v1 vs1 =>
    nilV vs1 (some ⟨[.bool v1.toBool], [], f101_fresh⟩)) := by kernel_rfl
theorem f101_run (ext : Run) (n : Nat) (a0_1 : Int) (a0_2 : Int) (a0_3 : List AV) : runE G ext (n + 1) 101 [.agg [.int a0_1, .int a0_2, .slice a0_3]] = f101 (runE G ext n) n a0_1 a0_2 a0_3 := runE_succ f101_at f101_in

noncomputable def f37 (run : Run) (n : Nat) (a0_1 : Int) (a0_2 : List UInt8) (a0_3 : List UInt8) (a0_4 : Int) (a1_1 : Int) (a1_2 : List UInt8) (a1_3 : List UInt8) (a1_4 : Int) : Option Res := evalK G run n f37_info.keep 0 f37_info.body (retE G f37_info) (f37_info.start [.agg [.int a0_1, .blob a0_2, .blob a0_3, .int a0_4], .agg [.int a1_1, .blob a1_2, .blob a1_3, .int a1_4]])
theorem f37_eq (run : Run) (n : Nat) (a0_1 : Int) (a0_2 : List UInt8) (a0_3 : List UInt8) (a0_4 : Int) (a1_1 : Int) (a1_2 : List UInt8) (a1_3 : List UInt8) (a1_4 : Int) : f37 run n a0_1 a0_2 a0_3 a0_4 a1_1 a1_2 a1_3 a1_4 =
  some ⟨[.bool (ltI a1_1 a0_1)], [], f37_fresh⟩ := by kernel_rfl
theorem f37_run (ext : Run) (n : Nat) (a0_1 : Int) (a0_2 : List UInt8) (a0_3 : List UInt8) (a0_4 : Int) (a1_1 : Int) (a1_2 : List UInt8) (a1_3 : List UInt8) (a1_4 : Int) : runE G ext (n + 1) 37 [.agg [.int a0_1, .blob a0_2, .blob a0_3, .int a0_4], .agg [.int a1_1, .blob a1_2, .blob a1_3, .int a1_4]] = f37 (runE G ext n) n a0_1 a0_2 a0_3 a0_4 a1_1 a1_2 a1_3 a1_4 := runE_succ f37_at f37_in

noncomputable def f79 (run : Run) (n : Nat) (a0_1 : List UInt8) (a1_1 : List UInt8) (a2_1 : Int) (a2_2 : Int) (a2_3 : List AV) : Option Res := evalK G run n f79_info.keep 0 f79_info.body (retE G f79_info) (f79_info.start [.blob a0_1, .blob a1_1, .agg [.int a2_1, .int a2_2, .slice a2_3]])
theorem f79_eq (run : Run) (n : Nat) (a0_1 : List UInt8) (a1_1 : List UInt8) (a2_1 : Int) (a2_2 : Int) (a2_3 : List AV) : f79 run n a0_1 a1_1 a2_1 a2_2 a2_3 =
  bif leI a2_2 257 then
    (run 113 [.blob a1_1]).bind fun r1 =>
    nilV r1.outs (consV r1.vals fun v1 vs1 =>
    nilV vs1 ((run 17 [.blob a0_1, .str v1.toStr, .agg [.int a2_1, .int a2_2, .slice a2_3]]).bind fun r2 =>
    nilV r2.outs (consV r2.vals fun v2 vs2 =>
    nilV vs2 (some ⟨[.bool v2.toBool], [], f79_fresh⟩))))
  else
    some ⟨[.bool false], [], f79_fresh⟩ := by kernel_rfl
theorem f79_run (ext : Run) (n : Nat) (a0_1 : List UInt8) (a1_1 : List UInt8) (a2_1 : Int) (a2_2 : Int) (a2_3 : List AV) : runE G ext (n + 1) 79 [.blob a0_1, .blob a1_1, .agg [.int a2_1, .int a2_2, .slice a2_3]] = f79 (runE G ext n) n a0_1 a1_1 a2_1 a2_2 a2_3 := runE_succ f79_at f79_in

noncomputable def f38 (run : Run) (n : Nat) (a0_1 : Int) (a0_2 : List UInt8) (a0_3 : List UInt8) (a0_4 : Int) (a0_5 : Int) (a0_6 : Int) (a0_7 : List AV) (a1_1 : Int) (a1_2 : List UInt8) (a1_3 : List UInt8) (a1_4 : Int) : Option Res := evalK G run n f38_info.keep 0 f38_info.body (retE G f38_info) (f38_info.start [.agg [.agg [.int a0_1, .blob a0_2, .blob a0_3, .int a0_4], .agg [.int a0_5, .int a0_6, .slice a0_7]], .agg [.int a1_1, .blob a1_2, .blob a1_3, .int a1_4]])
theorem f38_eq (run : Run) (n : Nat) (a0_1 : Int) (a0_2 : List UInt8) (a0_3 : List UInt8) (a0_4 : Int) (a0_5 : Int) (a0_6 : Int) (a0_7 : List AV) (a1_1 : Int) (a1_2 : List UInt8) (a1_3 : List UInt8) (a1_4 : Int) : f38 run n a0_1 a0_2 a0_3 a0_4 a0_5 a0_6 a0_7 a1_1 a1_2 a1_3 a1_4 =
  (run 36 [.agg [.int a1_1, .blob a1_2, .blob a1_3, .int a1_4]]).bind fun r1 =>
    nilV r1.outs (consV r1.vals fun v1 vs1 =>
    nilV vs1 ((run 79 [.blob a0_2, .blob v1.toBlob, .agg [.int a0_5, .int a0_6, .slice a0_7]]).bind fun r2 =>
    nilV r2.outs (consV r2.vals fun v2 vs2 =>
    nilV vs2 (some ⟨[.bool v2.toBool], [], f38_fresh⟩)))) := by kernel_rfl
theorem f38_run (ext : Run) (n : Nat) (a0_1 : Int) (a0_2 : List UInt8) (a0_3 : List UInt8) (a0_4 : Int) (a0_5 : Int) (a0_6 : Int) (a0_7 : List AV) (a1_1 : Int) (a1_2 : List UInt8) (a1_3 : List UInt8) (a1_4 : Int) : runE G ext (n + 1) 38 [.agg [.agg [.int a0_1, .blob a0_2, .blob a0_3, .int a0_4], .agg [.int a0_5, .int a0_6, .slice a0_7]], .agg [.int a1_1, .blob a1_2, .blob a1_3, .int a1_4]] = f38 (runE G ext n) n a0_1 a0_2 a0_3 a0_4 a0_5 a0_6 a0_7 a1_1 a1_2 a1_3 a1_4 := runE_succ f38_at f38_in

noncomputable def f106 (run : Run) (n : Nat) (a0_1 : List UInt8) (a1_1 : Int) (a1_2 : List UInt8) (a1_3 : List UInt8) (a1_4 : Int) (a1_5 : Int) (a1_6 : Int) (a1_7 : List AV) (a2_1 : Int) (a2_2 : List UInt8) (a2_3 : List UInt8) (a2_4 : Int) (a3_1 : Int) : Option Res := evalK G run n f106_info.keep 0 f106_info.body (retE G f106_info) (f106_info.start [.blob a0_1, .agg [.agg [.int a1_1, .blob a1_2, .blob a1_3, .int a1_4], .agg [.int a1_5, .int a1_6, .slice a1_7]], .agg [.int a2_1, .blob a2_2, .blob a2_3, .int a2_4], .int a3_1])
theorem f106_eq (run : Run) (n : Nat) (a0_1 : List UInt8) (a1_1 : Int) (a1_2 : List UInt8) (a1_3 : List UInt8) (a1_4 : Int) (a1_5 : Int) (a1_6 : Int) (a1_7 : List AV) (a2_1 : Int) (a2_2 : List UInt8) (a2_3 : List UInt8) (a2_4 : Int) (a3_1 : Int) : f106 run n a0_1 a1_1 a1_2 a1_3 a1_4 a1_5 a1_6 a1_7 a2_1 a2_2 a2_3 a2_4 a3_1 =
  (run 37 [.agg [.int a1_1, .blob a1_2, .blob a1_3, .int a1_4], .agg [.int a2_1, .blob a2_2, .blob a2_3, .int a2_4]]).bind fun r1 =>
    nilV r1.outs (consV r1.vals fun v1 vs1 =>
    nilV vs1 (bif !v1.toBool then
    some ⟨[.int 8], [], f106_fresh⟩
  else
    bif leI a3_1 a1_1 then
    some ⟨[.int 8], [], f106_fresh⟩
  else
    (run 36 [.agg [.int a1_1, .blob a1_2, .blob a1_3, .int a1_4]]).bind fun r2 =>
    nilV r2.outs (consV r2.vals fun v2 vs2 =>
    nilV vs2 ((run 35 [.blob v2.toBlob, .blob a0_1]).bind fun r3 =>
    nilV r3.outs (consV r3.vals fun v3 vs3 =>
    nilV vs3 (bif !v3.toBool then
    some ⟨[.int 9], [], f106_fresh⟩
  else
    (run 38 [.agg [.agg [.int a1_1, .blob a1_2, .blob a1_3, .int a1_4], .agg [.int a1_5, .int a1_6, .slice a1_7]], .agg [.int a2_1, .blob a2_2, .blob a2_3, .int a2_4]]).bind fun r4 =>
    nilV r4.outs (consV r4.vals fun v4 vs4 =>
    nilV vs4 (bif !v4.toBool then
    some ⟨[.int 10], [], f106_fresh⟩
  else
    some ⟨[.int 0], [], f106_fresh⟩)))))))) := by kernel_rfl
theorem f106_run (ext : Run) (n : Nat) (a0_1 : List UInt8) (a1_1 : Int) (a1_2 : List UInt8) (a1_3 : List UInt8) (a1_4 : Int) (a1_5 : Int) (a1_6 : Int) (a1_7 : List AV) (a2_1 : Int) (a2_2 : List UInt8) (a2_3 : List UInt8) (a2_4 : Int) (a3_1 : Int) : runE G ext (n + 1) 106 [.blob a0_1, .agg [.agg [.int a1_1, .blob a1_2, .blob a1_3, .int a1_4], .agg [.int a1_5, .int a1_6, .slice a1_7]], .agg [.int a2_1, .blob a2_2, .blob a2_3, .int a2_4], .int a3_1] = f106 (runE G ext n) n a0_1 a1_1 a1_2 a1_3 a1_4 a1_5 a1_6 a1_7 a2_1 a2_2 a2_3 a2_4 a3_1 := runE_succ f106_at f106_in

noncomputable def f73_l0 (run : Run) (n : Nat) (k0 : Nat) (x34_1 : List AV) (x35_1 : Int) (x36_1 : Int) (o3_1 : List UInt8) (o5_1 : Int) (o5_2 : List AV) (o5_3 : Int) (o5_4 : Int) (o5_5 : List AV) (o5_6 : Int) (o5_7 : List UInt8) (o5_8 : Int) (o5_9 : Int) (o5_10 : List AV) (o7_1 : Int) (o7_2 : List UInt8) (o7_3 : List UInt8) (o7_4 : Int) (o8_1 : Int) (o8_2 : List UInt8) (o8_3 : List UInt8) (o8_4 : Int) : Option Res :=
  iterK (evalK G run n f73_keep 0 (sub [1, 1, 1, 0, 1, 0, 0] f73_body)) f73_t0 f73_o0 (blockK 0 (seqK (evalK G run n f73_keep 0 (sub [1, 1, 1, 1] f73_body) (retE G f73_info)) (retE G f73_info))) k0
    ⟨[.any, .any, .any, .ptr ⟨(.blob 32), 3, 1, []⟩, .any, .ptr ⟨(.struct [(.int .i64), (.slice (.struct [(.struct [(.int .u32), (.blob 32), (.blob 32), (.int .u64)]), (.struct [(.int .i64), (.int .i64), (.slice (.blob 32))])])), (.struct [(.int .i64), (.int .i64), (.slice (.blob 32))]), (.int .i64), .str, (.struct [(.int .i64), (.int .i64), (.slice (.blob 32))])]), 5, 1, []⟩, .any, .ptr ⟨(.struct [(.int .u32), (.blob 32), (.blob 32), (.int .u64)]), 7, 1, []⟩, .ptr ⟨(.struct [(.int .u32), (.blob 32), (.blob 32), (.int .u64)]), 8, 1, []⟩, .any, .any, .any, .any, .any, .any, .any, .any, .any, .any, .any, .any, .any, .any, .any, .any, .any, .any, .any, .any, .any, .any, .any, .any, .any, .val (.slice (.struct [(.struct [(.int .u32), (.blob 32), (.blob 32), (.int .u64)]), (.struct [(.int .i64), (.int .i64), (.slice (.blob 32))])])) none (.slice x34_1), .val (.int .i64) none (.int x35_1), .val (.int .i64) none (.int x36_1), .any, .any, .any, .any, .any, .any, .any, .any, .any, .any, .any, .any, .any, .any, .any, .any, .any, .any, .any, .any, .any, .any], [⟨0, none⟩, ⟨0, none⟩, ⟨0, none⟩, ⟨1, some ⟨(.blob 32), .blob o3_1⟩⟩, ⟨0, none⟩, ⟨1, some ⟨(.struct [(.int .i64), (.slice (.struct [(.struct [(.int .u32), (.blob 32), (.blob 32), (.int .u64)]), (.struct [(.int .i64), (.int .i64), (.slice (.blob 32))])])), (.struct [(.int .i64), (.int .i64), (.slice (.blob 32))]), (.int .i64), .str, (.struct [(.int .i64), (.int .i64), (.slice (.blob 32))])]), .agg [.int o5_1, .slice o5_2, .agg [.int o5_3, .int o5_4, .slice o5_5], .int o5_6, .str o5_7, .agg [.int o5_8, .int o5_9, .slice o5_10]]⟩⟩, ⟨0, none⟩, ⟨1, some ⟨(.struct [(.int .u32), (.blob 32), (.blob 32), (.int .u64)]), .agg [.int o7_1, .blob o7_2, .blob o7_3, .int o7_4]⟩⟩, ⟨1, some ⟨(.struct [(.int .u32), (.blob 32), (.blob 32), (.int .u64)]), .agg [.int o8_1, .blob o8_2, .blob o8_3, .int o8_4]⟩⟩, ⟨0, none⟩, ⟨0, none⟩, ⟨0, none⟩, ⟨0, none⟩, ⟨0, none⟩, ⟨0, none⟩, ⟨0, none⟩, ⟨0, none⟩, ⟨0, none⟩, ⟨0, none⟩, ⟨0, none⟩, ⟨0, none⟩, ⟨0, none⟩, ⟨0, none⟩, ⟨0, none⟩, ⟨0, none⟩, ⟨0, none⟩, ⟨0, none⟩, ⟨0, none⟩, ⟨0, none⟩, ⟨0, none⟩, ⟨0, none⟩, ⟨0, none⟩, ⟨0, none⟩, ⟨0, none⟩, ⟨0, none⟩, ⟨0, none⟩, ⟨0, none⟩, ⟨0, none⟩, ⟨0, none⟩, ⟨0, none⟩, ⟨0, none⟩, ⟨0, none⟩, ⟨0, none⟩, ⟨0, none⟩, ⟨0, none⟩, ⟨0, none⟩, ⟨0, none⟩, ⟨0, none⟩, ⟨0, none⟩, ⟨0, none⟩, ⟨0, none⟩, ⟨0, none⟩, ⟨0, none⟩, ⟨0, none⟩, ⟨0, none⟩, ⟨0, none⟩, ⟨0, none⟩, ⟨0, none⟩, ⟨0, none⟩], List.replicate 59 0⟩
theorem f73_l0_eq (run : Run) (n : Nat) (k0 : Nat) (x34_1 : List AV) (x35_1 : Int) (x36_1 : Int) (o3_1 : List UInt8) (o5_1 : Int) (o5_2 : List AV) (o5_3 : Int) (o5_4 : Int) (o5_5 : List AV) (o5_6 : Int) (o5_7 : List UInt8) (o5_8 : Int) (o5_9 : Int) (o5_10 : List AV) (o7_1 : Int) (o7_2 : List UInt8) (o7_3 : List UInt8) (o7_4 : Int) (o8_1 : Int) (o8_2 : List UInt8) (o8_3 : List UInt8) (o8_4 : Int) : f73_l0 run n (k0 + 1) x34_1 x35_1 x36_1 o3_1 o5_1 o5_2 o5_3 o5_4 o5_5 o5_6 o5_7 o5_8 o5_9 o5_10 o7_1 o7_2 o7_3 o7_4 o8_1 o8_2 o8_3 o8_4 =
  bif ltI x36_1 x35_1 then
    bif inR x36_1 x34_1.length then
    (run 106 [.blob o3_1, .agg [.agg [.int ((((nth x34_1 (Int.toNat x36_1)).fld 0).fld 0).toInt), .blob ((((nth x34_1 (Int.toNat x36_1)).fld 0).fld 1).toBlob), .blob ((((nth x34_1 (Int.toNat x36_1)).fld 0).fld 2).toBlob), .int ((((nth x34_1 (Int.toNat x36_1)).fld 0).fld 3).toInt)], .agg [.int ((((nth x34_1 (Int.toNat x36_1)).fld 1).fld 0).toInt), .int ((((nth x34_1 (Int.toNat x36_1)).fld 1).fld 1).toInt), .slice ((((nth x34_1 (Int.toNat x36_1)).fld 1).fld 2).toSlice)]], .agg [.int o7_1, .blob o7_2, .blob o7_3, .int o7_4], .int o8_1]).bind fun r2 =>
    nilV r2.outs (consV r2.vals fun v2 vs2 =>
    nilV vs2 (bif !(eqI v2.toInt 0) then
    some ⟨[.int v2.toInt], [], f73_fresh⟩
  else
    f73_l0 run n k0 x34_1 x35_1 (IntKind.wrap .i64 (x36_1 + 1)) o3_1 o5_1 o5_2 o5_3 o5_4 o5_5 o5_6 o5_7 o5_8 o5_9 o5_10 ((((nth x34_1 (Int.toNat x36_1)).fld 0).fld 0).toInt) ((((nth x34_1 (Int.toNat x36_1)).fld 0).fld 1).toBlob) ((((nth x34_1 (Int.toNat x36_1)).fld 0).fld 2).toBlob) ((((nth x34_1 (Int.toNat x36_1)).fld 0).fld 3).toInt) o8_1 o8_2 o8_3 o8_4))
  else none
  else
    (run 38 [.agg [.agg [.int o8_1, .blob o8_2, .blob o8_3, .int o8_4], .agg [.int o5_3, .int o5_4, .slice o5_5]], .agg [.int o7_1, .blob o7_2, .blob o7_3, .int o7_4]]).bind fun r3 =>
    nilV r3.outs (consV r3.vals fun v3 vs3 =>
    nilV vs3 (bif !v3.toBool then
    some ⟨[.int 10], [], f73_fresh⟩
  else
    some ⟨[.int 0], [], f73_fresh⟩)) := by kernel_rfl
noncomputable def f73 (run : Run) (n : Nat) (a0_1 : List UInt8) (a1_1 : List AV) (a2_1 : Int) (a2_2 : List AV) (a2_3 : Int) (a2_4 : Int) (a2_5 : List AV) (a2_6 : Int) (a2_7 : List UInt8) (a2_8 : Int) (a2_9 : Int) (a2_10 : List AV) : Option Res := evalK G run n f73_info.keep 0 f73_info.body (retE G f73_info) (f73_info.start [.blob a0_1, .slice a1_1, .agg [.int a2_1, .slice a2_2, .agg [.int a2_3, .int a2_4, .slice a2_5], .int a2_6, .str a2_7, .agg [.int a2_8, .int a2_9, .slice a2_10]]])
theorem f73_eq (run : Run) (n : Nat) (a0_1 : List UInt8) (a1_1 : List AV) (a2_1 : Int) (a2_2 : List AV) (a2_3 : Int) (a2_4 : Int) (a2_5 : List AV) (a2_6 : Int) (a2_7 : List UInt8) (a2_8 : Int) (a2_9 : Int) (a2_10 : List AV) : f73 run n a0_1 a1_1 a2_1 a2_2 a2_3 a2_4 a2_5 a2_6 a2_7 a2_8 a2_9 a2_10 =
  bif eqI (a2_2.length : Int) 0 then
    (run 101 [.agg [.int a2_3, .int a2_4, .slice a2_5]]).bind fun r1 =>
    nilV r1.outs (consV r1.vals fun v1 vs1 =>
    nilV vs1 (bif !v1.toBool then
    some ⟨[.int 2], [], f73_fresh⟩
  else
    some ⟨[.int 0], [], f73_fresh⟩))
  else
    bif inR (IntKind.wrap .i64 (a2_1 - 1)) a1_1.length then
    bif inR a2_1 a1_1.length then
    f73_l0 run n n a2_2 (a2_2.length : Int) 0 a0_1 a2_1 a2_2 a2_3 a2_4 a2_5 a2_6 a2_7 a2_8 a2_9 a2_10 ((((nth a1_1 (Int.toNat (IntKind.wrap .i64 (a2_1 - 1)))).fld 0).fld 0).toInt) ((((nth a1_1 (Int.toNat (IntKind.wrap .i64 (a2_1 - 1)))).fld 0).fld 1).toBlob) ((((nth a1_1 (Int.toNat (IntKind.wrap .i64 (a2_1 - 1)))).fld 0).fld 2).toBlob) ((((nth a1_1 (Int.toNat (IntKind.wrap .i64 (a2_1 - 1)))).fld 0).fld 3).toInt) ((((nth a1_1 (Int.toNat a2_1)).fld 0).fld 0).toInt) ((((nth a1_1 (Int.toNat a2_1)).fld 0).fld 1).toBlob) ((((nth a1_1 (Int.toNat a2_1)).fld 0).fld 2).toBlob) ((((nth a1_1 (Int.toNat a2_1)).fld 0).fld 3).toInt)
  else none
  else none := by kernel_rfl
theorem f73_run (ext : Run) (n : Nat) (a0_1 : List UInt8) (a1_1 : List AV) (a2_1 : Int) (a2_2 : List AV) (a2_3 : Int) (a2_4 : Int) (a2_5 : List AV) (a2_6 : Int) (a2_7 : List UInt8) (a2_8 : Int) (a2_9 : Int) (a2_10 : List AV) : runE G ext (n + 1) 73 [.blob a0_1, .slice a1_1, .agg [.int a2_1, .slice a2_2, .agg [.int a2_3, .int a2_4, .slice a2_5], .int a2_6, .str a2_7, .agg [.int a2_8, .int a2_9, .slice a2_10]]] = f73 (runE G ext n) n a0_1 a1_1 a2_1 a2_2 a2_3 a2_4 a2_5 a2_6 a2_7 a2_8 a2_9 a2_10 := runE_succ f73_at f73_in

noncomputable def f34 (run : Run) (n : Nat) (a0_1 : List AV) (a1_1 : Int) (a1_2 : List AV) (a1_3 : Int) (a1_4 : Int) (a1_5 : List AV) (a1_6 : Int) (a1_7 : List UInt8) (a1_8 : Int) (a1_9 : Int) (a1_10 : List AV) : Option Res := evalK G run n f34_info.keep 0 f34_info.body (retE G f34_info) (f34_info.start [.slice a0_1, .agg [.int a1_1, .slice a1_2, .agg [.int a1_3, .int a1_4, .slice a1_5], .int a1_6, .str a1_7, .agg [.int a1_8, .int a1_9, .slice a1_10]]])
theorem f34_eq (run : Run) (n : Nat) (a0_1 : List AV) (a1_1 : Int) (a1_2 : List AV) (a1_3 : Int) (a1_4 : Int) (a1_5 : List AV) (a1_6 : Int) (a1_7 : List UInt8) (a1_8 : Int) (a1_9 : Int) (a1_10 : List AV) : f34 run n a0_1 a1_1 a1_2 a1_3 a1_4 a1_5 a1_6 a1_7 a1_8 a1_9 a1_10 =
  (run 72 [.int (a0_1.length : Int), .agg [.int a1_1, .slice a1_2, .agg [.int a1_3, .int a1_4, .slice a1_5], .int a1_6, .str a1_7, .agg [.int a1_8, .int a1_9, .slice a1_10]]]).bind fun r1 =>
    nilV r1.outs (consV r1.vals fun v1 vs1 =>
    nilV vs1 (bif !(eqI v1.toInt 0) then
    some ⟨[.agg [.int 0, .blob (List.replicate 32 0), .blob (List.replicate 32 0), .int 0], .bool false], [], f34_fresh⟩
  else
    bif ltI 0 (a1_2.length : Int) then
    bif inR a1_6 a1_2.length then
    some ⟨[.agg [.int ((((nth a1_2 (Int.toNat a1_6)).fld 0).fld 0).toInt), .blob ((((nth a1_2 (Int.toNat a1_6)).fld 0).fld 1).toBlob), .blob ((((nth a1_2 (Int.toNat a1_6)).fld 0).fld 2).toBlob), .int ((((nth a1_2 (Int.toNat a1_6)).fld 0).fld 3).toInt)], .bool true], [], f34_fresh⟩
  else none
  else
    bif inR a1_1 a0_1.length then
    some ⟨[.agg [.int ((((nth a0_1 (Int.toNat a1_1)).fld 0).fld 0).toInt), .blob ((((nth a0_1 (Int.toNat a1_1)).fld 0).fld 1).toBlob), .blob ((((nth a0_1 (Int.toNat a1_1)).fld 0).fld 2).toBlob), .int ((((nth a0_1 (Int.toNat a1_1)).fld 0).fld 3).toInt)], .bool true], [], f34_fresh⟩
  else none)) := by kernel_rfl
theorem f34_run (ext : Run) (n : Nat) (a0_1 : List AV) (a1_1 : Int) (a1_2 : List AV) (a1_3 : Int) (a1_4 : Int) (a1_5 : List AV) (a1_6 : Int) (a1_7 : List UInt8) (a1_8 : Int) (a1_9 : Int) (a1_10 : List AV) : runE G ext (n + 1) 34 [.slice a0_1, .agg [.int a1_1, .slice a1_2, .agg [.int a1_3, .int a1_4, .slice a1_5], .int a1_6, .str a1_7, .agg [.int a1_8, .int a1_9, .slice a1_10]]] = f34 (runE G ext n) n a0_1 a1_1 a1_2 a1_3 a1_4 a1_5 a1_6 a1_7 a1_8 a1_9 a1_10 := runE_succ f34_at f34_in

noncomputable def f74 (run : Run) (n : Nat) (a0_1 : List UInt8) (a1_1 : List UInt8) (a2_1 : Int) (a2_2 : Int) (a2_3 : List AV) : Option Res := evalK G run n f74_info.keep 0 f74_info.body (retE G f74_info) (f74_info.start [.blob a0_1, .str a1_1, .agg [.int a2_1, .int a2_2, .slice a2_3]])
theorem f74_eq (run : Run) (n : Nat) (a0_1 : List UInt8) (a1_1 : List UInt8) (a2_1 : Int) (a2_2 : Int) (a2_3 : List AV) : f74 run n a0_1 a1_1 a2_1 a2_2 a2_3 =
  bif leI a2_2 1024 then
    bif leI (a1_1.length : Int) 4096 then
    (run 107 [.str a1_1]).bind fun r1 =>
    nilV r1.outs (consV r1.vals fun v1 vs1 =>
    nilV vs1 ((run 17 [.blob a0_1, .str v1.toStr, .agg [.int a2_1, .int a2_2, .slice a2_3]]).bind fun r2 =>
    nilV r2.outs (consV r2.vals fun v2 vs2 =>
    nilV vs2 (some ⟨[.bool v2.toBool], [], f74_fresh⟩))))
  else
    some ⟨[.bool false], [], f74_fresh⟩
  else
    some ⟨[.bool false], [], f74_fresh⟩ := by kernel_rfl
theorem f74_run (ext : Run) (n : Nat) (a0_1 : List UInt8) (a1_1 : List UInt8) (a2_1 : Int) (a2_2 : Int) (a2_3 : List AV) : runE G ext (n + 1) 74 [.blob a0_1, .str a1_1, .agg [.int a2_1, .int a2_2, .slice a2_3]] = f74 (runE G ext n) n a0_1 a1_1 a2_1 a2_2 a2_3 := runE_succ f74_at f74_in

noncomputable def f30 (run : Run) (n : Nat) (a0_1 : List UInt8) (a1_1 : List AV) (a2_1 : Int) (a2_2 : List AV) (a2_3 : Int) (a2_4 : Int) (a2_5 : List AV) (a2_6 : Int) (a2_7 : List UInt8) (a2_8 : Int) (a2_9 : Int) (a2_10 : List AV) : Option Res := evalK G run n f30_info.keep 0 f30_info.body (retE G f30_info) (f30_info.start [.blob a0_1, .slice a1_1, .agg [.int a2_1, .slice a2_2, .agg [.int a2_3, .int a2_4, .slice a2_5], .int a2_6, .str a2_7, .agg [.int a2_8, .int a2_9, .slice a2_10]]])
theorem f30_eq (run : Run) (n : Nat) (a0_1 : List UInt8) (a1_1 : List AV) (a2_1 : Int) (a2_2 : List AV) (a2_3 : Int) (a2_4 : Int) (a2_5 : List AV) (a2_6 : Int) (a2_7 : List UInt8) (a2_8 : Int) (a2_9 : Int) (a2_10 : List AV) : f30 run n a0_1 a1_1 a2_1 a2_2 a2_3 a2_4 a2_5 a2_6 a2_7 a2_8 a2_9 a2_10 =
  (run 72 [.int (a1_1.length : Int), .agg [.int a2_1, .slice a2_2, .agg [.int a2_3, .int a2_4, .slice a2_5], .int a2_6, .str a2_7, .agg [.int a2_8, .int a2_9, .slice a2_10]]]).bind fun r1 =>
    nilV r1.outs (consV r1.vals fun v1 vs1 =>
    nilV vs1 (bif !(eqI v1.toInt 0) then
    some ⟨[.int v1.toInt], [], f30_fresh⟩
  else
    (run 73 [.blob a0_1, .slice a1_1, .agg [.int a2_1, .slice a2_2, .agg [.int a2_3, .int a2_4, .slice a2_5], .int a2_6, .str a2_7, .agg [.int a2_8, .int a2_9, .slice a2_10]]]).bind fun r2 =>
    nilV r2.outs (consV r2.vals fun v2 vs2 =>
    nilV vs2 (bif !(eqI v2.toInt 0) then
    some ⟨[.int v2.toInt], [], f30_fresh⟩
  else
    (run 34 [.slice a1_1, .agg [.int a2_1, .slice a2_2, .agg [.int a2_3, .int a2_4, .slice a2_5], .int a2_6, .str a2_7, .agg [.int a2_8, .int a2_9, .slice a2_10]]]).bind fun r3 =>
    nilV r3.outs (consV r3.vals fun v3 vs3 =>
    consV vs3 fun _v4 vs4 =>
    nilV vs4 ((run 74 [.blob ((v3.fld 2).toBlob), .str a2_7, .agg [.int a2_8, .int a2_9, .slice a2_10]]).bind fun r4 =>
    nilV r4.outs (consV r4.vals fun v5 vs5 =>
    nilV vs5 (bif !v5.toBool then
    some ⟨[.int 14], [], f30_fresh⟩
  else
    some ⟨[.int 0], [], f30_fresh⟩)))))))) := by kernel_rfl
theorem f30_run (ext : Run) (n : Nat) (a0_1 : List UInt8) (a1_1 : List AV) (a2_1 : Int) (a2_2 : List AV) (a2_3 : Int) (a2_4 : Int) (a2_5 : List AV) (a2_6 : Int) (a2_7 : List UInt8) (a2_8 : Int) (a2_9 : Int) (a2_10 : List AV) : runE G ext (n + 1) 30 [.blob a0_1, .slice a1_1, .agg [.int a2_1, .slice a2_2, .agg [.int a2_3, .int a2_4, .slice a2_5], .int a2_6, .str a2_7, .agg [.int a2_8, .int a2_9, .slice a2_10]]] = f30 (runE G ext n) n a0_1 a1_1 a2_1 a2_2 a2_3 a2_4 a2_5 a2_6 a2_7 a2_8 a2_9 a2_10 := runE_succ f30_at f30_in

noncomputable def f32_l0 (run : Run) (n : Nat) (k0 : Nat) (x9_1 : List AV) (x19_1 : List AV) (x20_1 : Int) (x21_1 : Int) (o5_1 : Int) (o5_2 : List AV) (o5_3 : Int) (o5_4 : Int) (o5_5 : List AV) (o5_6 : Int) (o5_7 : List UInt8) (o5_8 : Int) (o5_9 : Int) (o5_10 : List AV) : Option Res :=
  iterK (evalK G run n f32_keep 0 (sub [1, 1, 1, 0, 1, 0, 0] f32_body)) f32_t0 f32_o0 (blockK 0 (seqK (evalK G run n f32_keep 0 (sub [1, 1, 1, 1] f32_body) (retE G f32_info)) (retE G f32_info))) k0
    ⟨[.any, .any, .any, .any, .any, .ptr ⟨(.struct [(.int .i64), (.slice (.struct [(.struct [(.int .u32), (.blob 32), (.blob 32), (.int .u64)]), (.struct [(.int .i64), (.int .i64), (.slice (.blob 32))])])), (.struct [(.int .i64), (.int .i64), (.slice (.blob 32))]), (.int .i64), .str, (.struct [(.int .i64), (.int .i64), (.slice (.blob 32))])]), 5, 1, []⟩, .any, .any, .any, .val (.slice (.struct [(.struct [(.int .u32), (.blob 32), (.blob 32), (.int .u64)]), (.struct [(.int .i64), (.int .i64), (.slice (.blob 32))])])) (some (9, 0)) (.slice x9_1), .any, .any, .any, .any, .any, .any, .any, .any, .any, .val (.slice (.struct [(.struct [(.int .u32), (.blob 32), (.blob 32), (.int .u64)]), (.struct [(.int .i64), (.int .i64), (.slice (.blob 32))])])) none (.slice x19_1), .val (.int .i64) none (.int x20_1), .val (.int .i64) none (.int x21_1), .any, .any, .any, .any, .any, .any, .any, .any, .any, .any, .any, .any, .any, .any, .any, .any, .any, .any, .any, .any, .any, .any, .any, .any, .any, .any, .any, .any, .any, .any, .any, .any, .any], [⟨0, none⟩, ⟨0, none⟩, ⟨0, none⟩, ⟨0, none⟩, ⟨0, none⟩, ⟨1, some ⟨(.struct [(.int .i64), (.slice (.struct [(.struct [(.int .u32), (.blob 32), (.blob 32), (.int .u64)]), (.struct [(.int .i64), (.int .i64), (.slice (.blob 32))])])), (.struct [(.int .i64), (.int .i64), (.slice (.blob 32))]), (.int .i64), .str, (.struct [(.int .i64), (.int .i64), (.slice (.blob 32))])]), .agg [.int o5_1, .slice o5_2, .agg [.int o5_3, .int o5_4, .slice o5_5], .int o5_6, .str o5_7, .agg [.int o5_8, .int o5_9, .slice o5_10]]⟩⟩, ⟨0, none⟩, ⟨0, none⟩, ⟨0, none⟩, ⟨0, none⟩, ⟨0, none⟩, ⟨0, none⟩, ⟨0, none⟩, ⟨0, none⟩, ⟨0, none⟩, ⟨0, none⟩, ⟨0, none⟩, ⟨0, none⟩, ⟨0, none⟩, ⟨0, none⟩, ⟨0, none⟩, ⟨0, none⟩, ⟨0, none⟩, ⟨0, none⟩, ⟨0, none⟩, ⟨0, none⟩, ⟨0, none⟩, ⟨0, none⟩, ⟨0, none⟩, ⟨0, none⟩, ⟨0, none⟩, ⟨0, none⟩, ⟨0, none⟩, ⟨0, none⟩, ⟨0, none⟩, ⟨0, none⟩, ⟨0, none⟩, ⟨0, none⟩, ⟨0, none⟩, ⟨0, none⟩, ⟨0, none⟩, ⟨0, none⟩, ⟨0, none⟩, ⟨0, none⟩, ⟨0, none⟩, ⟨0, none⟩, ⟨0, none⟩, ⟨0, none⟩, ⟨0, none⟩, ⟨0, none⟩, ⟨0, none⟩, ⟨0, none⟩, ⟨0, none⟩, ⟨0, none⟩, ⟨0, none⟩], List.replicate 55 0⟩
theorem f32_l0_eq (run : Run) (n : Nat) (k0 : Nat) (x9_1 : List AV) (x19_1 : List AV) (x20_1 : Int) (x21_1 : Int) (o5_1 : Int) (o5_2 : List AV) (o5_3 : Int) (o5_4 : Int) (o5_5 : List AV) (o5_6 : Int) (o5_7 : List UInt8) (o5_8 : Int) (o5_9 : Int) (o5_10 : List AV) : f32_l0 run n (k0 + 1) x9_1 x19_1 x20_1 x21_1 o5_1 o5_2 o5_3 o5_4 o5_5 o5_6 o5_7 o5_8 o5_9 o5_10 =
  bif ltI x21_1 x20_1 then
    bif inR x21_1 x19_1.length then
    bif eqI x21_1 o5_1 then
    bif ltI 0 (o5_2.length : Int) then
    bif Nat.ble ((x9_1.length + o5_2.length) * 120) 140737488355328 then
    bif Nat.ble ((o5_5.length) * 32) 140737488355328 then
    bif Nat.ble (((x9_1 ++ o5_2).length + 1) * 120) 140737488355328 then
    f32_l0 run n k0 ((x9_1 ++ o5_2) ++ [.agg [.agg [.int ((((nth x19_1 (Int.toNat x21_1)).fld 0).fld 0).toInt), .blob ((((nth x19_1 (Int.toNat x21_1)).fld 0).fld 1).toBlob), .blob ((((nth x19_1 (Int.toNat x21_1)).fld 0).fld 2).toBlob), .int ((((nth x19_1 (Int.toNat x21_1)).fld 0).fld 3).toInt)], .agg [.int o5_3, .int o5_4, .slice o5_5]]]) x19_1 x20_1 (IntKind.wrap .i64 (x21_1 + 1)) o5_1 o5_2 o5_3 o5_4 o5_5 o5_6 o5_7 o5_8 o5_9 o5_10
  else none
  else none
  else none
  else
    bif Nat.ble ((((((nth x19_1 (Int.toNat x21_1)).fld 1).fld 2).toSlice).length) * 32) 140737488355328 then
    bif Nat.ble ((x9_1.length + 1) * 120) 140737488355328 then
    f32_l0 run n k0 (x9_1 ++ [.agg [.agg [.int ((((nth x19_1 (Int.toNat x21_1)).fld 0).fld 0).toInt), .blob ((((nth x19_1 (Int.toNat x21_1)).fld 0).fld 1).toBlob), .blob ((((nth x19_1 (Int.toNat x21_1)).fld 0).fld 2).toBlob), .int ((((nth x19_1 (Int.toNat x21_1)).fld 0).fld 3).toInt)], .agg [.int ((((nth x19_1 (Int.toNat x21_1)).fld 1).fld 0).toInt), .int ((((nth x19_1 (Int.toNat x21_1)).fld 1).fld 1).toInt), .slice ((((nth x19_1 (Int.toNat x21_1)).fld 1).fld 2).toSlice)]]]) x19_1 x20_1 (IntKind.wrap .i64 (x21_1 + 1)) o5_1 o5_2 o5_3 o5_4 o5_5 o5_6 o5_7 o5_8 o5_9 o5_10
  else none
  else none
  else
    bif Nat.ble ((((((nth x19_1 (Int.toNat x21_1)).fld 1).fld 2).toSlice).length) * 32) 140737488355328 then
    bif Nat.ble ((x9_1.length + 1) * 120) 140737488355328 then
    f32_l0 run n k0 (x9_1 ++ [.agg [.agg [.int ((((nth x19_1 (Int.toNat x21_1)).fld 0).fld 0).toInt), .blob ((((nth x19_1 (Int.toNat x21_1)).fld 0).fld 1).toBlob), .blob ((((nth x19_1 (Int.toNat x21_1)).fld 0).fld 2).toBlob), .int ((((nth x19_1 (Int.toNat x21_1)).fld 0).fld 3).toInt)], .agg [.int ((((nth x19_1 (Int.toNat x21_1)).fld 1).fld 0).toInt), .int ((((nth x19_1 (Int.toNat x21_1)).fld 1).fld 1).toInt), .slice ((((nth x19_1 (Int.toNat x21_1)).fld 1).fld 2).toSlice)]]]) x19_1 x20_1 (IntKind.wrap .i64 (x21_1 + 1)) o5_1 o5_2 o5_3 o5_4 o5_5 o5_6 o5_7 o5_8 o5_9 o5_10
  else none
  else none
  else none
  else
    some ⟨[.slice x9_1, .int 0], [], f32_fresh⟩ := by kernel_rfl
noncomputable def f32 (run : Run) (n : Nat) (a0_1 : List UInt8) (a1_1 : List AV) (a2_1 : Int) (a2_2 : List AV) (a2_3 : Int) (a2_4 : Int) (a2_5 : List AV) (a2_6 : Int) (a2_7 : List UInt8) (a2_8 : Int) (a2_9 : Int) (a2_10 : List AV) : Option Res := evalK G run n f32_info.keep 0 f32_info.body (retE G f32_info) (f32_info.start [.blob a0_1, .slice a1_1, .agg [.int a2_1, .slice a2_2, .agg [.int a2_3, .int a2_4, .slice a2_5], .int a2_6, .str a2_7, .agg [.int a2_8, .int a2_9, .slice a2_10]]])
theorem f32_eq (run : Run) (n : Nat) (a0_1 : List UInt8) (a1_1 : List AV) (a2_1 : Int) (a2_2 : List AV) (a2_3 : Int) (a2_4 : Int) (a2_5 : List AV) (a2_6 : Int) (a2_7 : List UInt8) (a2_8 : Int) (a2_9 : Int) (a2_10 : List AV) : f32 run n a0_1 a1_1 a2_1 a2_2 a2_3 a2_4 a2_5 a2_6 a2_7 a2_8 a2_9 a2_10 =
  (run 30 [.blob a0_1, .slice a1_1, .agg [.int a2_1, .slice a2_2, .agg [.int a2_3, .int a2_4, .slice a2_5], .int a2_6, .str a2_7, .agg [.int a2_8, .int a2_9, .slice a2_10]]]).bind fun r1 =>
    nilV r1.outs (consV r1.vals fun v1 vs1 =>
    nilV vs1 (bif !(eqI v1.toInt 0) then
    some ⟨[.slice [], .int v1.toInt], [], f32_fresh⟩
  else
    f32_l0 run n n [] a1_1 (a1_1.length : Int) 0 a2_1 a2_2 a2_3 a2_4 a2_5 a2_6 a2_7 a2_8 a2_9 a2_10)) := by kernel_rfl
theorem f32_run (ext : Run) (n : Nat) (a0_1 : List UInt8) (a1_1 : List AV) (a2_1 : Int) (a2_2 : List AV) (a2_3 : Int) (a2_4 : Int) (a2_5 : List AV) (a2_6 : Int) (a2_7 : List UInt8) (a2_8 : Int) (a2_9 : Int) (a2_10 : List AV) : runE G ext (n + 1) 32 [.blob a0_1, .slice a1_1, .agg [.int a2_1, .slice a2_2, .agg [.int a2_3, .int a2_4, .slice a2_5], .int a2_6, .str a2_7, .agg [.int a2_8, .int a2_9, .slice a2_10]]] = f32 (runE G ext n) n a0_1 a1_1 a2_1 a2_2 a2_3 a2_4 a2_5 a2_6 a2_7 a2_8 a2_9 a2_10 := runE_succ f32_at f32_in

noncomputable def f33 (run : Run) (n : Nat) (a0_1 : List AV) (a1_1 : Int) (a1_2 : List AV) (a1_3 : Int) (a1_4 : Int) (a1_5 : List AV) (a1_6 : Int) (a1_7 : List UInt8) (a1_8 : Int) (a1_9 : Int) (a1_10 : List AV) : Option Res := evalK G run n f33_info.keep 0 f33_info.body (retE G f33_info) (f33_info.start [.slice a0_1, .agg [.int a1_1, .slice a1_2, .agg [.int a1_3, .int a1_4, .slice a1_5], .int a1_6, .str a1_7, .agg [.int a1_8, .int a1_9, .slice a1_10]]])
theorem f33_eq (run : Run) (n : Nat) (a0_1 : List AV) (a1_1 : Int) (a1_2 : List AV) (a1_3 : Int) (a1_4 : Int) (a1_5 : List AV) (a1_6 : Int) (a1_7 : List UInt8) (a1_8 : Int) (a1_9 : Int) (a1_10 : List AV) : f33 run n a0_1 a1_1 a1_2 a1_3 a1_4 a1_5 a1_6 a1_7 a1_8 a1_9 a1_10 =
  (run 34 [.slice a0_1, .agg [.int a1_1, .slice a1_2, .agg [.int a1_3, .int a1_4, .slice a1_5], .int a1_6, .str a1_7, .agg [.int a1_8, .int a1_9, .slice a1_10]]]).bind fun r1 =>
    nilV r1.outs (consV r1.vals fun _v1 vs1 =>
    consV vs1 fun v2 vs2 =>
    nilV vs2 (bif !v2.toBool then
    some ⟨[.int (-1)], [], f33_fresh⟩
  else
    some ⟨[.int (IntKind.wrap .i64 (a1_1 + a1_6))], [], f33_fresh⟩)) := by kernel_rfl
theorem f33_run (ext : Run) (n : Nat) (a0_1 : List AV) (a1_1 : Int) (a1_2 : List AV) (a1_3 : Int) (a1_4 : Int) (a1_5 : List AV) (a1_6 : Int) (a1_7 : List UInt8) (a1_8 : Int) (a1_9 : Int) (a1_10 : List AV) : runE G ext (n + 1) 33 [.slice a0_1, .agg [.int a1_1, .slice a1_2, .agg [.int a1_3, .int a1_4, .slice a1_5], .int a1_6, .str a1_7, .agg [.int a1_8, .int a1_9, .slice a1_10]]] = f33 (runE G ext n) n a0_1 a1_1 a1_2 a1_3 a1_4 a1_5 a1_6 a1_7 a1_8 a1_9 a1_10 := runE_succ f33_at f33_in

noncomputable def f31 (run : Run) (n : Nat) : Option Res := evalK G run n f31_info.keep 0 f31_info.body (retE G f31_info) (f31_info.start [])
theorem f31_eq (run : Run) (n : Nat) : f31 run n  =
  (run 32 [.blob [0, 0, 0, 0, 0, 0, 0, 0, 0, 0, 0, 0, 0, 0, 0, 0, 0, 0, 0, 0, 0, 0, 0, 0, 0, 0, 0, 0, 0, 0, 0, 0], .slice [], .agg [.int 0, .slice [], .agg [.int 0, .int 0, .slice []], .int 0, .str [], .agg [.int 0, .int 0, .slice []]]]).bind fun r1 =>
    nilV r1.outs (consV r1.vals fun _v1 vs1 =>
    consV vs1 fun v2 vs2 =>
    nilV vs2 (bif eqI v2.toInt 15 then
    (run 33 [.slice [], .agg [.int 0, .slice [], .agg [.int 0, .int 0, .slice []], .int 0, .str [], .agg [.int 0, .int 0, .slice []]]]).bind fun r2 =>
    nilV r2.outs (consV r2.vals fun v3 vs3 =>
    nilV vs3 (bif eqI v3.toInt (-1) then
    (run 33 [.slice (List.replicate 2 (.agg [.agg [.int 0, .blob (List.replicate 32 0), .blob (List.replicate 32 0), .int 0], .agg [.int 0, .int 0, .slice []]])), .agg [.int 1, .slice [], .agg [.int 0, .int 0, .slice []], .int 0, .str [], .agg [.int 0, .int 0, .slice []]]]).bind fun r3 =>
    nilV r3.outs (consV r3.vals fun v4 vs4 =>
    nilV vs4 (some ⟨[.bool (eqI v4.toInt 1)], [], f31_fresh⟩))
  else
    some ⟨[.bool false], [], f31_fresh⟩))
  else
    some ⟨[.bool false], [], f31_fresh⟩)) := by kernel_rfl
theorem f31_run (ext : Run) (n : Nat) : runE G ext (n + 1) 31 [] = f31 (runE G ext n) n  := runE_succ f31_at f31_in

noncomputable def f69 (run : Run) (n : Nat) (a0_1 : Int) (a0_2 : List UInt8) (a0_3 : List UInt8) (a0_4 : Int) (a1_1 : List AV) : Option Res := evalK G run n f69_info.keep 0 f69_info.body (retE G f69_info) (f69_info.start [.agg [.int a0_1, .blob a0_2, .blob a0_3, .int a0_4], .slice a1_1])
theorem f69_eq (run : Run) (n : Nat) (a0_1 : Int) (a0_2 : List UInt8) (a0_3 : List UInt8) (a0_4 : Int) (a1_1 : List AV) : f69 run n a0_1 a0_2 a0_3 a0_4 a1_1 =
  bif eqI (a1_1.length : Int) 0 then
    some ⟨[.int 6], [], f69_fresh⟩
  else
    bif inR 0 a1_1.length then
    bif !(eqI ((((nth a1_1 0).fld 0).fld 0).toInt) a0_1 && (eqS ((((nth a1_1 0).fld 0).fld 1).toBlob) a0_2 && (eqS ((((nth a1_1 0).fld 0).fld 2).toBlob) a0_3 && (eqI ((((nth a1_1 0).fld 0).fld 3).toInt) a0_4 && true)))) then
    some ⟨[.int 7], [], f69_fresh⟩
  else
    bif inR 0 a1_1.length then
    (run 101 [.agg [.int ((((nth a1_1 0).fld 1).fld 0).toInt), .int ((((nth a1_1 0).fld 1).fld 1).toInt), .slice ((((nth a1_1 0).fld 1).fld 2).toSlice)]]).bind fun r1 =>
    nilV r1.outs (consV r1.vals fun v1 vs1 =>
    nilV vs1 (bif !v1.toBool then
    some ⟨[.int 2], [], f69_fresh⟩
  else
    some ⟨[.int 0], [], f69_fresh⟩))
  else none
  else none := by kernel_rfl
theorem f69_run (ext : Run) (n : Nat) (a0_1 : Int) (a0_2 : List UInt8) (a0_3 : List UInt8) (a0_4 : Int) (a1_1 : List AV) : runE G ext (n + 1) 69 [.agg [.int a0_1, .blob a0_2, .blob a0_3, .int a0_4], .slice a1_1] = f69 (runE G ext n) n a0_1 a0_2 a0_3 a0_4 a1_1 := runE_succ f69_at f69_in

noncomputable def f70 (run : Run) (n : Nat) (a0_1 : Int) (a0_2 : List UInt8) (a0_3 : List UInt8) (a0_4 : Int) (a0_5 : List UInt8) (a0_6 : Int) (a0_7 : Int) (a0_8 : Int) (a0_9 : Int) (a0_10 : Int) (a0_11 : Int) (a1_1 : List AV) : Option Res := evalK G run n f70_info.keep 0 f70_info.body (retE G f70_info) (f70_info.start [.agg [.agg [.int a0_1, .blob a0_2, .blob a0_3, .int a0_4], .blob a0_5, .int a0_6, .int a0_7, .int a0_8, .int a0_9, .int a0_10, .int a0_11], .slice a1_1])
theorem f70_eq (run : Run) (n : Nat) (a0_1 : Int) (a0_2 : List UInt8) (a0_3 : List UInt8) (a0_4 : Int) (a0_5 : List UInt8) (a0_6 : Int) (a0_7 : Int) (a0_8 : Int) (a0_9 : Int) (a0_10 : Int) (a0_11 : Int) (a1_1 : List AV) : f70 run n a0_1 a0_2 a0_3 a0_4 a0_5 a0_6 a0_7 a0_8 a0_9 a0_10 a0_11 a1_1 =
  some ⟨[.slice [.agg [.clo 102 [.slice a1_1], .int 8], .agg [.clo 103 [.slice a1_1, .agg [.agg [.int a0_1, .blob a0_2, .blob a0_3, .int a0_4], .blob a0_5, .int a0_6, .int a0_7, .int a0_8, .int a0_9, .int a0_10, .int a0_11]], .int 9], .agg [.clo 104 [.slice a1_1], .int 10]]], [], f70_fresh⟩ := by kernel_rfl
theorem f70_run (ext : Run) (n : Nat) (a0_1 : Int) (a0_2 : List UInt8) (a0_3 : List UInt8) (a0_4 : Int) (a0_5 : List UInt8) (a0_6 : Int) (a0_7 : Int) (a0_8 : Int) (a0_9 : Int) (a0_10 : Int) (a0_11 : Int) (a1_1 : List AV) : runE G ext (n + 1) 70 [.agg [.agg [.int a0_1, .blob a0_2, .blob a0_3, .int a0_4], .blob a0_5, .int a0_6, .int a0_7, .int a0_8, .int a0_9, .int a0_10, .int a0_11], .slice a1_1] = f70 (runE G ext n) n a0_1 a0_2 a0_3 a0_4 a0_5 a0_6 a0_7 a0_8 a0_9 a0_10 a0_11 a1_1 := runE_succ f70_at f70_in

noncomputable def f104 (run : Run) (n : Nat) (a0_1 : Int) (a1_1 : List AV) : Option Res := evalK G run n f104_info.keep 0 f104_info.body (retE G f104_info) (f104_info.start [.int a0_1, .slice a1_1])
theorem f104_eq (run : Run) (n : Nat) (a0_1 : Int) (a1_1 : List AV) : f104 run n a0_1 a1_1 =
  bif eqI a0_1 0 then
    some ⟨[.bool true], [], f104_fresh⟩
  else
    bif inR a0_1 a1_1.length then
    bif inR (IntKind.wrap .i64 (a0_1 - 1)) a1_1.length then
    (run 38 [.agg [.agg [.int ((((nth a1_1 (Int.toNat a0_1)).fld 0).fld 0).toInt), .blob ((((nth a1_1 (Int.toNat a0_1)).fld 0).fld 1).toBlob), .blob ((((nth a1_1 (Int.toNat a0_1)).fld 0).fld 2).toBlob), .int ((((nth a1_1 (Int.toNat a0_1)).fld 0).fld 3).toInt)], .agg [.int ((((nth a1_1 (Int.toNat a0_1)).fld 1).fld 0).toInt), .int ((((nth a1_1 (Int.toNat a0_1)).fld 1).fld 1).toInt), .slice ((((nth a1_1 (Int.toNat a0_1)).fld 1).fld 2).toSlice)]], .agg [.int ((((nth a1_1 (Int.toNat (IntKind.wrap .i64 (a0_1 - 1)))).fld 0).fld 0).toInt), .blob ((((nth a1_1 (Int.toNat (IntKind.wrap .i64 (a0_1 - 1)))).fld 0).fld 1).toBlob), .blob ((((nth a1_1 (Int.toNat (IntKind.wrap .i64 (a0_1 - 1)))).fld 0).fld 2).toBlob), .int ((((nth a1_1 (Int.toNat (IntKind.wrap .i64 (a0_1 - 1)))).fld 0).fld 3).toInt)]]).bind fun r1 =>
    nilV r1.outs (consV r1.vals fun v1 vs1 =>
    nilV vs1 (some ⟨[.bool v1.toBool], [], f104_fresh⟩))
  else none
  else none := by kernel_rfl
theorem f104_run (ext : Run) (n : Nat) (a0_1 : Int) (a1_1 : List AV) : runE G ext (n + 1) 104 [.int a0_1, .slice a1_1] = f104 (runE G ext n) n a0_1 a1_1 := runE_succ f104_at f104_in

noncomputable def f103 (run : Run) (n : Nat) (a0_1 : Int) (a1_1 : List AV) (a2_1 : Int) (a2_2 : List UInt8) (a2_3 : List UInt8) (a2_4 : Int) (a2_5 : List UInt8) (a2_6 : Int) (a2_7 : Int) (a2_8 : Int) (a2_9 : Int) (a2_10 : Int) (a2_11 : Int) : Option Res := evalK G run n f103_info.keep 0 f103_info.body (retE G f103_info) (f103_info.start [.int a0_1, .slice a1_1, .agg [.agg [.int a2_1, .blob a2_2, .blob a2_3, .int a2_4], .blob a2_5, .int a2_6, .int a2_7, .int a2_8, .int a2_9, .int a2_10, .int a2_11]])
theorem f103_eq (run : Run) (n : Nat) (a0_1 : Int) (a1_1 : List AV) (a2_1 : Int) (a2_2 : List UInt8) (a2_3 : List UInt8) (a2_4 : Int) (a2_5 : List UInt8) (a2_6 : Int) (a2_7 : Int) (a2_8 : Int) (a2_9 : Int) (a2_10 : Int) (a2_11 : Int) : f103 run n a0_1 a1_1 a2_1 a2_2 a2_3 a2_4 a2_5 a2_6 a2_7 a2_8 a2_9 a2_10 a2_11 =
  bif inR a0_1 a1_1.length then
    (run 36 [.agg [.int ((((nth a1_1 (Int.toNat a0_1)).fld 0).fld 0).toInt), .blob ((((nth a1_1 (Int.toNat a0_1)).fld 0).fld 1).toBlob), .blob ((((nth a1_1 (Int.toNat a0_1)).fld 0).fld 2).toBlob), .int ((((nth a1_1 (Int.toNat a0_1)).fld 0).fld 3).toInt)]]).bind fun r1 =>
    nilV r1.outs (consV r1.vals fun v1 vs1 =>
    nilV vs1 ((run 35 [.blob v1.toBlob, .blob a2_5]).bind fun r2 =>
    nilV r2.outs (consV r2.vals fun v2 vs2 =>
    nilV vs2 (some ⟨[.bool v2.toBool], [], f103_fresh⟩))))
  else none := by kernel_rfl
theorem f103_run (ext : Run) (n : Nat) (a0_1 : Int) (a1_1 : List AV) (a2_1 : Int) (a2_2 : List UInt8) (a2_3 : List UInt8) (a2_4 : Int) (a2_5 : List UInt8) (a2_6 : Int) (a2_7 : Int) (a2_8 : Int) (a2_9 : Int) (a2_10 : Int) (a2_11 : Int) : runE G ext (n + 1) 103 [.int a0_1, .slice a1_1, .agg [.agg [.int a2_1, .blob a2_2, .blob a2_3, .int a2_4], .blob a2_5, .int a2_6, .int a2_7, .int a2_8, .int a2_9, .int a2_10, .int a2_11]] = f103 (runE G ext n) n a0_1 a1_1 a2_1 a2_2 a2_3 a2_4 a2_5 a2_6 a2_7 a2_8 a2_9 a2_10 a2_11 := runE_succ f103_at f103_in

noncomputable def f102 (run : Run) (n : Nat) (a0_1 : Int) (a1_1 : List AV) : Option Res := evalK G run n f102_info.keep 0 f102_info.body (retE G f102_info) (f102_info.start [.int a0_1, .slice a1_1])
theorem f102_eq (run : Run) (n : Nat) (a0_1 : Int) (a1_1 : List AV) : f102 run n a0_1 a1_1 =
  bif eqI a0_1 0 then
    some ⟨[.bool true], [], f102_fresh⟩
  else
    bif inR a0_1 a1_1.length then
    bif inR (IntKind.wrap .i64 (a0_1 - 1)) a1_1.length then
    (run 37 [.agg [.int ((((nth a1_1 (Int.toNat a0_1)).fld 0).fld 0).toInt), .blob ((((nth a1_1 (Int.toNat a0_1)).fld 0).fld 1).toBlob), .blob ((((nth a1_1 (Int.toNat a0_1)).fld 0).fld 2).toBlob), .int ((((nth a1_1 (Int.toNat a0_1)).fld 0).fld 3).toInt)], .agg [.int ((((nth a1_1 (Int.toNat (IntKind.wrap .i64 (a0_1 - 1)))).fld 0).fld 0).toInt), .blob ((((nth a1_1 (Int.toNat (IntKind.wrap .i64 (a0_1 - 1)))).fld 0).fld 1).toBlob), .blob ((((nth a1_1 (Int.toNat (IntKind.wrap .i64 (a0_1 - 1)))).fld 0).fld 2).toBlob), .int ((((nth a1_1 (Int.toNat (IntKind.wrap .i64 (a0_1 - 1)))).fld 0).fld 3).toInt)]]).bind fun r1 =>
    nilV r1.outs (consV r1.vals fun v1 vs1 =>
    nilV vs1 (some ⟨[.bool v1.toBool], [], f102_fresh⟩))
  else none
  else none := by kernel_rfl
theorem f102_run (ext : Run) (n : Nat) (a0_1 : Int) (a1_1 : List AV) : runE G ext (n + 1) 102 [.int a0_1, .slice a1_1] = f102 (runE G ext n) n a0_1 a1_1 := runE_succ f102_at f102_in

noncomputable def f131 (run : Run) (n : Nat) (a0_1 : Int) (a0_2 : List UInt8) (a0_3 : List UInt8) (a0_4 : Int) (a1_1 : Int) (a1_2 : List UInt8) (a1_3 : List UInt8) (a1_4 : Int) : Option Res := evalK G run n f131_info.keep 0 f131_info.body (retE G f131_info) (f131_info.start [.agg [.int a0_1, .blob a0_2, .blob a0_3, .int a0_4], .agg [.int a1_1, .blob a1_2, .blob a1_3, .int a1_4]])
theorem f131_eq (run : Run) (n : Nat) (a0_1 : Int) (a0_2 : List UInt8) (a0_3 : List UInt8) (a0_4 : Int) (a1_1 : Int) (a1_2 : List UInt8) (a1_3 : List UInt8) (a1_4 : Int) : f131 run n a0_1 a0_2 a0_3 a0_4 a1_1 a1_2 a1_3 a1_4 =
  (run 37 [.agg [.int a0_1, .blob a0_2, .blob a0_3, .int a0_4], .agg [.int a1_1, .blob a1_2, .blob a1_3, .int a1_4]]).bind fun r1 =>
    nilV r1.outs (consV r1.vals fun v1 vs1 =>
    nilV vs1 (bif v1.toBool then
    some ⟨[.bool (eqI (IntKind.wrap .u32 (a0_1 - a1_1)) 1)], [], f131_fresh⟩
  else
    some ⟨[.bool false], [], f131_fresh⟩)) := by kernel_rfl
theorem f131_run (ext : Run) (n : Nat) (a0_1 : Int) (a0_2 : List UInt8) (a0_3 : List UInt8) (a0_4 : Int) (a1_1 : Int) (a1_2 : List UInt8) (a1_3 : List UInt8) (a1_4 : Int) : runE G ext (n + 1) 131 [.agg [.int a0_1, .blob a0_2, .blob a0_3, .int a0_4], .agg [.int a1_1, .blob a1_2, .blob a1_3, .int a1_4]] = f131 (runE G ext n) n a0_1 a0_2 a0_3 a0_4 a1_1 a1_2 a1_3 a1_4 := runE_succ f131_at f131_in

noncomputable def f105_l0 (run : Run) (n : Nat) (k0 : Nat) (x0_1 : List AV) (x3_1 : Int) (x4_1 : Int) : Option Res :=
  iterK (evalK G run n f105_keep 0 (sub [1, 1, 0, 1, 0, 0] f105_body)) f105_t0 f105_o0 (blockK 0 (seqK (evalK G run n f105_keep 0 (sub [1, 1, 1] f105_body) (retE G f105_info)) (retE G f105_info))) k0
    ⟨[.val (.slice (.struct [(.struct [(.int .u32), (.blob 32), (.blob 32), (.int .u64)]), (.struct [(.int .i64), (.int .i64), (.slice (.blob 32))])])) none (.slice x0_1), .any, .any, .val (.int .i64) none (.int x3_1), .val (.int .i64) none (.int x4_1), .any, .any, .any, .any, .any, .any, .any, .any, .any, .any, .any, .any, .any, .any, .any, .any, .any, .any, .any, .any, .any, .any, .any, .any, .any, .any, .any, .any, .any, .any, .any, .any, .any], [⟨0, none⟩, ⟨0, none⟩, ⟨0, none⟩, ⟨0, none⟩, ⟨0, none⟩, ⟨0, none⟩, ⟨0, none⟩, ⟨0, none⟩, ⟨0, none⟩, ⟨0, none⟩, ⟨0, none⟩, ⟨0, none⟩, ⟨0, none⟩, ⟨0, none⟩, ⟨0, none⟩, ⟨0, none⟩, ⟨0, none⟩, ⟨0, none⟩, ⟨0, none⟩, ⟨0, none⟩, ⟨0, none⟩, ⟨0, none⟩, ⟨0, none⟩, ⟨0, none⟩, ⟨0, none⟩, ⟨0, none⟩, ⟨0, none⟩, ⟨0, none⟩, ⟨0, none⟩, ⟨0, none⟩, ⟨0, none⟩, ⟨0, none⟩, ⟨0, none⟩, ⟨0, none⟩, ⟨0, none⟩, ⟨0, none⟩, ⟨0, none⟩, ⟨0, none⟩], List.replicate 38 0⟩
theorem f105_l0_eq (run : Run) (n : Nat) (k0 : Nat) (x0_1 : List AV) (x3_1 : Int) (x4_1 : Int) : f105_l0 run n (k0 + 1) x0_1 x3_1 x4_1 =
  bif ltI 0 x4_1 then
    bif inR x4_1 x0_1.length then
    bif !(eqI ((((nth x0_1 (Int.toNat x4_1)).fld 1).fld 0).toInt) 0) then
    some ⟨[.int x3_1], [], f105_fresh⟩
  else
    bif inR x4_1 x0_1.length then
    bif inR (IntKind.wrap .i64 (x4_1 - 1)) x0_1.length then
    (run 131 [.agg [.int ((((nth x0_1 (Int.toNat x4_1)).fld 0).fld 0).toInt), .blob ((((nth x0_1 (Int.toNat x4_1)).fld 0).fld 1).toBlob), .blob ((((nth x0_1 (Int.toNat x4_1)).fld 0).fld 2).toBlob), .int ((((nth x0_1 (Int.toNat x4_1)).fld 0).fld 3).toInt)], .agg [.int ((((nth x0_1 (Int.toNat (IntKind.wrap .i64 (x4_1 - 1)))).fld 0).fld 0).toInt), .blob ((((nth x0_1 (Int.toNat (IntKind.wrap .i64 (x4_1 - 1)))).fld 0).fld 1).toBlob), .blob ((((nth x0_1 (Int.toNat (IntKind.wrap .i64 (x4_1 - 1)))).fld 0).fld 2).toBlob), .int ((((nth x0_1 (Int.toNat (IntKind.wrap .i64 (x4_1 - 1)))).fld 0).fld 3).toInt)]]).bind fun r1 =>
    nilV r1.outs (consV r1.vals fun v1 vs1 =>
    nilV vs1 (bif !v1.toBool then
    some ⟨[.int x3_1], [], f105_fresh⟩
  else
    f105_l0 run n k0 x0_1 (IntKind.wrap .i64 (x3_1 + 1)) (IntKind.wrap .i64 (x4_1 - 1))))
  else none
  else none
  else none
  else
    some ⟨[.int x3_1], [], f105_fresh⟩ := by kernel_rfl
noncomputable def f105 (run : Run) (n : Nat) (a0_1 : List AV) : Option Res := evalK G run n f105_info.keep 0 f105_info.body (retE G f105_info) (f105_info.start [.slice a0_1])
theorem f105_eq (run : Run) (n : Nat) (a0_1 : List AV) : f105 run n a0_1 =
  f105_l0 run n n a0_1 0 (IntKind.wrap .i64 ((a0_1.length : Int) - 1)) := by kernel_rfl
theorem f105_run (ext : Run) (n : Nat) (a0_1 : List AV) : runE G ext (n + 1) 105 [.slice a0_1] = f105 (runE G ext n) n a0_1 := runE_succ f105_at f105_in

noncomputable def f71 (run : Run) (n : Nat) (a0_1 : List AV) (a1_1 : Int) : Option Res := evalK G run n f71_info.keep 0 f71_info.body (retE G f71_info) (f71_info.start [.slice a0_1, .int a1_1])
theorem f71_eq (run : Run) (n : Nat) (a0_1 : List AV) (a1_1 : Int) : f71 run n a0_1 a1_1 =
  (run 105 [.slice a0_1]).bind fun r1 =>
    nilV r1.outs (consV r1.vals fun v1 vs1 =>
    nilV vs1 (bif ltI v1.toInt a1_1 then
    some ⟨[.int 11], [], f71_fresh⟩
  else
    some ⟨[.int 0], [], f71_fresh⟩)) := by kernel_rfl
theorem f71_run (ext : Run) (n : Nat) (a0_1 : List AV) (a1_1 : Int) : runE G ext (n + 1) 71 [.slice a0_1, .int a1_1] = f71 (runE G ext n) n a0_1 a1_1 := runE_succ f71_at f71_in

noncomputable def f29_l2 (run : Run) (n : Nat) (k0 : Nat) (k2 : Nat) (x1_2 : List AV) (x2_12 : Int) (x2_13 : List UInt8) (x2_14 : List UInt8) (x2_15 : Int) (x2_16 : List UInt8) (x2_17 : Int) (x2_18 : Int) (x2_19 : Int) (x2_20 : Int) (x2_21 : Int) (x2_22 : Int) (x6_2 : List AV) (x7_1 : Int) (x23_2 : Int) (x24_2 : Int) (x27_1 : List AV) (x28_1 : Int) (x29_1 : Int) (o4_3 : Int) (o4_4 : Int) : Option Res :=
  iterK (evalK G run n f29_keep 2 (sub [1, 1, 1, 0, 1, 0, 0, 1, 1, 0, 0, 1, 1, 0, 0] f29_body)) f29_t2 f29_o2 (blockK 2 (blockK 1 (seqK (evalK G run n f29_keep 0 (sub [1, 1, 1, 0, 1, 0, 0, 1, 1, 1] f29_body) (seqK (fun t => iterK (evalK G run n f29_keep 0 (sub [1, 1, 1, 0, 1, 0, 0] f29_body)) f29_t0 f29_o0 (blockK 0 (seqK (evalK G run n f29_keep 0 (sub [1, 1, 1, 1] f29_body) (retE G f29_info)) (retE G f29_info))) k0 (t.clear f29_t0 f29_o0)) (blockK 0 (seqK (evalK G run n f29_keep 0 (sub [1, 1, 1, 1] f29_body) (retE G f29_info)) (retE G f29_info))))) (seqK (fun t => iterK (evalK G run n f29_keep 0 (sub [1, 1, 1, 0, 1, 0, 0] f29_body)) f29_t0 f29_o0 (blockK 0 (seqK (evalK G run n f29_keep 0 (sub [1, 1, 1, 1] f29_body) (retE G f29_info)) (retE G f29_info))) k0 (t.clear f29_t0 f29_o0)) (blockK 0 (seqK (evalK G run n f29_keep 0 (sub [1, 1, 1, 1] f29_body) (retE G f29_info)) (retE G f29_info))))))) k2
    ⟨[.any, .val (.slice (.struct [(.struct [(.int .u32), (.blob 32), (.blob 32), (.int .u64)]), (.struct [(.int .i64), (.int .i64), (.slice (.blob 32))])])) none (.slice x1_2), .val (.pat (.struct [(.struct [(.int .u32), (.blob 32), (.blob 32), (.int .u64)]), (.blob 32), (.int .i64), (.int .i64), (.int .i64), (.int .i64), (.int .i64), (.int .i64)])) none (.agg [.agg [.int x2_12, .blob x2_13, .blob x2_14, .int x2_15], .blob x2_16, .int x2_17, .int x2_18, .int x2_19, .int x2_20, .int x2_21, .int x2_22]), .any, .ptr ⟨(.struct [(.int .i64), (.int .i64)]), 4, 1, []⟩, .any, .val (.slice (.struct [(.clos [(102, ([], [0])), (103, ([], [0, 1])), (104, ([], [0]))] [(.pat (.slice (.struct [(.struct [(.int .u32), (.blob 32), (.blob 32), (.int .u64)]), (.struct [(.int .i64), (.int .i64), (.slice (.blob 32))])]))), (.pat (.struct [(.struct [(.int .u32), (.blob 32), (.blob 32), (.int .u64)]), (.blob 32), (.int .i64), (.int .i64), (.int .i64), (.int .i64), (.int .i64), (.int .i64)]))]), (.int .i64)])) (some (6, 0)) (.slice x6_2), .val (.int .i64) none (.int x7_1), .any, .any, .any, .any, .any, .any, .any, .any, .any, .any, .any, .any, .any, .any, .any, .val (.int .i64) none (.int x23_2), .val (.int .i64) none (.int x24_2), .any, .any, .val (.slice (.struct [(.clos [(102, ([], [0])), (103, ([], [0, 1])), (104, ([], [0]))] [(.pat (.slice (.struct [(.struct [(.int .u32), (.blob 32), (.blob 32), (.int .u64)]), (.struct [(.int .i64), (.int .i64), (.slice (.blob 32))])]))), (.pat (.struct [(.struct [(.int .u32), (.blob 32), (.blob 32), (.int .u64)]), (.blob 32), (.int .i64), (.int .i64), (.int .i64), (.int .i64), (.int .i64), (.int .i64)]))]), (.int .i64)])) none (.slice x27_1), .val (.int .i64) none (.int x28_1), .val (.int .i64) none (.int x29_1), .any, .any, .any, .any, .any, .any, .any, .any, .any, .any, .any, .any, .any, .any, .any, .any, .any, .any, .any, .any, .any, .any, .any, .any, .any], [⟨0, none⟩, ⟨0, none⟩, ⟨0, none⟩, ⟨0, none⟩, ⟨1, some ⟨(.struct [(.int .i64), (.int .i64)]), .agg [.int o4_3, .int o4_4]⟩⟩, ⟨0, none⟩, ⟨0, none⟩, ⟨0, none⟩, ⟨0, none⟩, ⟨0, none⟩, ⟨0, none⟩, ⟨0, none⟩, ⟨0, none⟩, ⟨0, none⟩, ⟨0, none⟩, ⟨0, none⟩, ⟨0, none⟩, ⟨0, none⟩, ⟨0, none⟩, ⟨0, none⟩, ⟨0, none⟩, ⟨0, none⟩, ⟨0, none⟩, ⟨0, none⟩, ⟨0, none⟩, ⟨0, none⟩, ⟨0, none⟩, ⟨0, none⟩, ⟨0, none⟩, ⟨0, none⟩, ⟨0, none⟩, ⟨0, none⟩, ⟨0, none⟩, ⟨0, none⟩, ⟨0, none⟩, ⟨0, none⟩, ⟨0, none⟩, ⟨0, none⟩, ⟨0, none⟩, ⟨0, none⟩, ⟨0, none⟩, ⟨0, none⟩, ⟨0, none⟩, ⟨0, none⟩, ⟨0, none⟩, ⟨0, none⟩, ⟨0, none⟩, ⟨0, none⟩, ⟨0, none⟩, ⟨0, none⟩, ⟨0, none⟩, ⟨0, none⟩, ⟨0, none⟩, ⟨0, none⟩, ⟨0, none⟩], List.replicate 55 0⟩
noncomputable def f29_l0 (run : Run) (n : Nat) (k0 : Nat) (x1_1 : List AV) (x2_1 : Int) (x2_2 : List UInt8) (x2_3 : List UInt8) (x2_4 : Int) (x2_5 : List UInt8) (x2_6 : Int) (x2_7 : Int) (x2_8 : Int) (x2_9 : Int) (x2_10 : Int) (x2_11 : Int) (x6_1 : List AV) (x23_1 : Int) (x24_1 : Int) (o4_1 : Int) (o4_2 : Int) : Option Res :=
  iterK (evalK G run n f29_keep 0 (sub [1, 1, 1, 0, 1, 0, 0] f29_body)) f29_t0 f29_o0 (blockK 0 (seqK (evalK G run n f29_keep 0 (sub [1, 1, 1, 1] f29_body) (retE G f29_info)) (retE G f29_info))) k0
    ⟨[.any, .val (.slice (.struct [(.struct [(.int .u32), (.blob 32), (.blob 32), (.int .u64)]), (.struct [(.int .i64), (.int .i64), (.slice (.blob 32))])])) none (.slice x1_1), .val (.pat (.struct [(.struct [(.int .u32), (.blob 32), (.blob 32), (.int .u64)]), (.blob 32), (.int .i64), (.int .i64), (.int .i64), (.int .i64), (.int .i64), (.int .i64)])) none (.agg [.agg [.int x2_1, .blob x2_2, .blob x2_3, .int x2_4], .blob x2_5, .int x2_6, .int x2_7, .int x2_8, .int x2_9, .int x2_10, .int x2_11]), .any, .ptr ⟨(.struct [(.int .i64), (.int .i64)]), 4, 1, []⟩, .any, .val (.slice (.struct [(.clos [(102, ([], [0])), (103, ([], [0, 1])), (104, ([], [0]))] [(.pat (.slice (.struct [(.struct [(.int .u32), (.blob 32), (.blob 32), (.int .u64)]), (.struct [(.int .i64), (.int .i64), (.slice (.blob 32))])]))), (.pat (.struct [(.struct [(.int .u32), (.blob 32), (.blob 32), (.int .u64)]), (.blob 32), (.int .i64), (.int .i64), (.int .i64), (.int .i64), (.int .i64), (.int .i64)]))]), (.int .i64)])) (some (6, 0)) (.slice x6_1), .any, .any, .any, .any, .any, .any, .any, .any, .any, .any, .any, .any, .any, .any, .any, .any, .val (.int .i64) none (.int x23_1), .val (.int .i64) none (.int x24_1), .any, .any, .any, .any, .any, .any, .any, .any, .any, .any, .any, .any, .any, .any, .any, .any, .any, .any, .any, .any, .any, .any, .any, .any, .any, .any, .any, .any, .any, .any], [⟨0, none⟩, ⟨0, none⟩, ⟨0, none⟩, ⟨0, none⟩, ⟨1, some ⟨(.struct [(.int .i64), (.int .i64)]), .agg [.int o4_1, .int o4_2]⟩⟩, ⟨0, none⟩, ⟨0, none⟩, ⟨0, none⟩, ⟨0, none⟩, ⟨0, none⟩, ⟨0, none⟩, ⟨0, none⟩, ⟨0, none⟩, ⟨0, none⟩, ⟨0, none⟩, ⟨0, none⟩, ⟨0, none⟩, ⟨0, none⟩, ⟨0, none⟩, ⟨0, none⟩, ⟨0, none⟩, ⟨0, none⟩, ⟨0, none⟩, ⟨0, none⟩, ⟨0, none⟩, ⟨0, none⟩, ⟨0, none⟩, ⟨0, none⟩, ⟨0, none⟩, ⟨0, none⟩, ⟨0, none⟩, ⟨0, none⟩, ⟨0, none⟩, ⟨0, none⟩, ⟨0, none⟩, ⟨0, none⟩, ⟨0, none⟩, ⟨0, none⟩, ⟨0, none⟩, ⟨0, none⟩, ⟨0, none⟩, ⟨0, none⟩, ⟨0, none⟩, ⟨0, none⟩, ⟨0, none⟩, ⟨0, none⟩, ⟨0, none⟩, ⟨0, none⟩, ⟨0, none⟩, ⟨0, none⟩, ⟨0, none⟩, ⟨0, none⟩, ⟨0, none⟩, ⟨0, none⟩, ⟨0, none⟩], List.replicate 55 0⟩
theorem f29_l2_eq (run : Run) (n : Nat) (k0 : Nat) (k2 : Nat) (x1_2 : List AV) (x2_12 : Int) (x2_13 : List UInt8) (x2_14 : List UInt8) (x2_15 : Int) (x2_16 : List UInt8) (x2_17 : Int) (x2_18 : Int) (x2_19 : Int) (x2_20 : Int) (x2_21 : Int) (x2_22 : Int) (x6_2 : List AV) (x7_1 : Int) (x23_2 : Int) (x24_2 : Int) (x27_1 : List AV) (x28_1 : Int) (x29_1 : Int) (o4_3 : Int) (o4_4 : Int) : f29_l2 run n k0 (k2 + 1) x1_2 x2_12 x2_13 x2_14 x2_15 x2_16 x2_17 x2_18 x2_19 x2_20 x2_21 x2_22 x6_2 x7_1 x23_2 x24_2 x27_1 x28_1 x29_1 o4_3 o4_4 =
  bif ltI x29_1 x28_1 then
    bif inR x29_1 x27_1.length then
    bif Nat.beq (((nth x27_1 (Int.toNat x29_1)).fld 0).cloF) 102 then
    (run 102 [.int x7_1, nth (((nth x27_1 (Int.toNat x29_1)).fld 0).cloXs) 0]).bind fun r5 =>
    nilV r5.outs (consV r5.vals fun v5 vs5 =>
    nilV vs5 (bif !v5.toBool then
    some ⟨[.agg [.int (((nth x27_1 (Int.toNat x29_1)).fld 1).toInt), .int x7_1]], [], f29_fresh⟩
  else
    f29_l2 run n k0 k2 x1_2 x2_12 x2_13 x2_14 x2_15 x2_16 x2_17 x2_18 x2_19 x2_20 x2_21 x2_22 x6_2 x7_1 x23_2 x24_2 x27_1 x28_1 (IntKind.wrap .i64 (x29_1 + 1)) o4_3 o4_4))
  else
    bif Nat.beq (((nth x27_1 (Int.toNat x29_1)).fld 0).cloF) 103 then
    (run 103 [.int x7_1, nth (((nth x27_1 (Int.toNat x29_1)).fld 0).cloXs) 0, nth (((nth x27_1 (Int.toNat x29_1)).fld 0).cloXs) 1]).bind fun r4 =>
    nilV r4.outs (consV r4.vals fun v4 vs4 =>
    nilV vs4 (bif !v4.toBool then
    some ⟨[.agg [.int (((nth x27_1 (Int.toNat x29_1)).fld 1).toInt), .int x7_1]], [], f29_fresh⟩
  else
    f29_l2 run n k0 k2 x1_2 x2_12 x2_13 x2_14 x2_15 x2_16 x2_17 x2_18 x2_19 x2_20 x2_21 x2_22 x6_2 x7_1 x23_2 x24_2 x27_1 x28_1 (IntKind.wrap .i64 (x29_1 + 1)) o4_3 o4_4))
  else
    bif Nat.beq (((nth x27_1 (Int.toNat x29_1)).fld 0).cloF) 104 then
    (run 104 [.int x7_1, nth (((nth x27_1 (Int.toNat x29_1)).fld 0).cloXs) 0]).bind fun r3 =>
    nilV r3.outs (consV r3.vals fun v3 vs3 =>
    nilV vs3 (bif !v3.toBool then
    some ⟨[.agg [.int (((nth x27_1 (Int.toNat x29_1)).fld 1).toInt), .int x7_1]], [], f29_fresh⟩
  else
    f29_l2 run n k0 k2 x1_2 x2_12 x2_13 x2_14 x2_15 x2_16 x2_17 x2_18 x2_19 x2_20 x2_21 x2_22 x6_2 x7_1 x23_2 x24_2 x27_1 x28_1 (IntKind.wrap .i64 (x29_1 + 1)) o4_3 o4_4))
  else
    none
  else none
  else
    f29_l0 run n k0 x1_2 x2_12 x2_13 x2_14 x2_15 x2_16 x2_17 x2_18 x2_19 x2_20 x2_21 x2_22 x6_2 x23_2 (IntKind.wrap .i64 (x24_2 + 1)) o4_3 o4_4 := by kernel_rfl
theorem f29_l0_eq (run : Run) (n : Nat) (k0 : Nat) (x1_1 : List AV) (x2_1 : Int) (x2_2 : List UInt8) (x2_3 : List UInt8) (x2_4 : Int) (x2_5 : List UInt8) (x2_6 : Int) (x2_7 : Int) (x2_8 : Int) (x2_9 : Int) (x2_10 : Int) (x2_11 : Int) (x6_1 : List AV) (x23_1 : Int) (x24_1 : Int) (o4_1 : Int) (o4_2 : Int) : f29_l0 run n (k0 + 1) x1_1 x2_1 x2_2 x2_3 x2_4 x2_5 x2_6 x2_7 x2_8 x2_9 x2_10 x2_11 x6_1 x23_1 x24_1 o4_1 o4_2 =
  bif ltI x24_1 x23_1 then
    f29_l2 run n k0 n x1_1 x2_1 x2_2 x2_3 x2_4 x2_5 x2_6 x2_7 x2_8 x2_9 x2_10 x2_11 x6_1 x24_1 x23_1 x24_1 x6_1 (x6_1.length : Int) 0 o4_1 o4_2
  else
    (run 71 [.slice x1_1, .int x2_7]).bind fun r6 =>
    nilV r6.outs (consV r6.vals fun v6 vs6 =>
    nilV vs6 (bif !(eqI v6.toInt 0) then
    some ⟨[.agg [.int v6.toInt, .int (x1_1.length : Int)]], [], f29_fresh⟩
  else
    some ⟨[.agg [.int 0, .int 0]], [], f29_fresh⟩)) := by kernel_rfl
noncomputable def f29 (run : Run) (n : Nat) (a0_1 : Int) (a0_2 : List UInt8) (a0_3 : List UInt8) (a0_4 : Int) (a0_5 : List UInt8) (a0_6 : Int) (a0_7 : Int) (a0_8 : Int) (a0_9 : Int) (a0_10 : Int) (a0_11 : Int) (a1_1 : List AV) : Option Res := evalK G run n f29_info.keep 0 f29_info.body (retE G f29_info) (f29_info.start [.agg [.agg [.int a0_1, .blob a0_2, .blob a0_3, .int a0_4], .blob a0_5, .int a0_6, .int a0_7, .int a0_8, .int a0_9, .int a0_10, .int a0_11], .slice a1_1])
theorem f29_eq (run : Run) (n : Nat) (a0_1 : Int) (a0_2 : List UInt8) (a0_3 : List UInt8) (a0_4 : Int) (a0_5 : List UInt8) (a0_6 : Int) (a0_7 : Int) (a0_8 : Int) (a0_9 : Int) (a0_10 : Int) (a0_11 : Int) (a1_1 : List AV) : f29 run n a0_1 a0_2 a0_3 a0_4 a0_5 a0_6 a0_7 a0_8 a0_9 a0_10 a0_11 a1_1 =
  (run 69 [.agg [.int a0_1, .blob a0_2, .blob a0_3, .int a0_4], .slice a1_1]).bind fun r1 =>
    nilV r1.outs (consV r1.vals fun v1 vs1 =>
    nilV vs1 (bif !(eqI v1.toInt 0) then
    some ⟨[.agg [.int v1.toInt, .int 0]], [], f29_fresh⟩
  else
    (run 70 [.agg [.agg [.int a0_1, .blob a0_2, .blob a0_3, .int a0_4], .blob a0_5, .int a0_6, .int a0_7, .int a0_8, .int a0_9, .int a0_10, .int a0_11], .slice a1_1]).bind fun r2 =>
    bif r2.fresh then
    nilV r2.outs (consV r2.vals fun v2 vs2 =>
    nilV vs2 (f29_l0 run n n a1_1 a0_1 a0_2 a0_3 a0_4 a0_5 a0_6 a0_7 a0_8 a0_9 a0_10 a0_11 v2.toSlice (a1_1.length : Int) 0 0 0))
  else none)) := by kernel_rfl
theorem f29_run (ext : Run) (n : Nat) (a0_1 : Int) (a0_2 : List UInt8) (a0_3 : List UInt8) (a0_4 : Int) (a0_5 : List UInt8) (a0_6 : Int) (a0_7 : Int) (a0_8 : Int) (a0_9 : Int) (a0_10 : Int) (a0_11 : Int) (a1_1 : List AV) : runE G ext (n + 1) 29 [.agg [.agg [.int a0_1, .blob a0_2, .blob a0_3, .int a0_4], .blob a0_5, .int a0_6, .int a0_7, .int a0_8, .int a0_9, .int a0_10, .int a0_11], .slice a1_1] = f29 (runE G ext n) n a0_1 a0_2 a0_3 a0_4 a0_5 a0_6 a0_7 a0_8 a0_9 a0_10 a0_11 a1_1 := runE_succ f29_at f29_in

end Go.Proofs.Ytncajhkogppojaa.Ev
