/- What the evaluator does with the functions, as programs over plain values: printed by gen.py, checked by the kernel. -/
import Derived.Test.YtncajhkogppojaaGreatEvFA
namespace Go.Proofs.YtncajhkogppojaaGreat.Ev
open Go Go.RowKit
set_option maxRecDepth 100000


noncomputable def f165 (run : Run) (n : Nat) (a0_1 : List UInt8) (a1_1 : List UInt8) (a2_1 : Int) (a2_2 : Int) (a2_3 : List AV) : Option Res := evalK G run n f165_info.keep 0 f165_info.body (retE G f165_info) (f165_info.start [.blob a0_1, .str a1_1, .agg [.int a2_1, .int a2_2, .slice a2_3]])
theorem f165_eq (run : Run) (n : Nat) (a0_1 : List UInt8) (a1_1 : List UInt8) (a2_1 : Int) (a2_2 : Int) (a2_3 : List AV) : f165 run n a0_1 a1_1 a2_1 a2_2 a2_3 =
  (run 183 [.str a1_1, .agg [.int a2_1, .int a2_2, .slice a2_3]]).bind fun r1 =>
    nilV r1.outs (consV r1.vals fun v1 vs1 =>
    consV vs1 fun v2 vs2 =>
    nilV vs2 (bif eqI v2.toInt 0 then
    some ⟨[.bool (eqS v1.toBlob a0_1)], [], f165_fresh⟩
  else
    some ⟨[.bool false], [], f165_fresh⟩)) := by kernel_rfl
theorem f165_run (ext : Run) (n : Nat) (a0_1 : List UInt8) (a1_1 : List UInt8) (a2_1 : Int) (a2_2 : Int) (a2_3 : List AV) : runE G ext (n + 1) 165 [.blob a0_1, .str a1_1, .agg [.int a2_1, .int a2_2, .slice a2_3]] = f165 (runE G ext n) n a0_1 a1_1 a2_1 a2_2 a2_3 := runE_succ f165_at f165_in

noncomputable def f141 (run : Run) (n : Nat) (a0_1 : List UInt8) (a1_1 : List UInt8) (a2_1 : Int) (a2_2 : Int) (a2_3 : List AV) : Option Res := evalK G run n f141_info.keep 0 f141_info.body (retE G f141_info) (f141_info.start [.blob a0_1, .blob a1_1, .agg [.int a2_1, .int a2_2, .slice a2_3]])
theorem f141_eq (run : Run) (n : Nat) (a0_1 : List UInt8) (a1_1 : List UInt8) (a2_1 : Int) (a2_2 : Int) (a2_3 : List AV) : f141 run n a0_1 a1_1 a2_1 a2_2 a2_3 =
  bif leI a2_2 257 then
    (run 135 [.blob a1_1]).bind fun r1 =>
    nilV r1.outs (consV r1.vals fun v1 vs1 =>
    nilV vs1 ((run 165 [.blob a0_1, .str v1.toStr, .agg [.int a2_1, .int a2_2, .slice a2_3]]).bind fun r2 =>
    nilV r2.outs (consV r2.vals fun v2 vs2 =>
    nilV vs2 (some ⟨[.bool v2.toBool], [], f141_fresh⟩))))
  else
    some ⟨[.bool false], [], f141_fresh⟩ := by kernel_rfl
theorem f141_run (ext : Run) (n : Nat) (a0_1 : List UInt8) (a1_1 : List UInt8) (a2_1 : Int) (a2_2 : Int) (a2_3 : List AV) : runE G ext (n + 1) 141 [.blob a0_1, .blob a1_1, .agg [.int a2_1, .int a2_2, .slice a2_3]] = f141 (runE G ext n) n a0_1 a1_1 a2_1 a2_2 a2_3 := runE_succ f141_at f141_in

noncomputable def f115 (run : Run) (n : Nat) (a0_1 : Int) (a0_2 : List UInt8) (a0_3 : List UInt8) (a0_4 : Int) (a0_5 : Int) (a0_6 : Int) (a0_7 : List AV) (a1_1 : Int) (a1_2 : List UInt8) (a1_3 : List UInt8) (a1_4 : Int) : Option Res := evalK G run n f115_info.keep 0 f115_info.body (retE G f115_info) (f115_info.start [.agg [.agg [.int a0_1, .blob a0_2, .blob a0_3, .int a0_4], .agg [.int a0_5, .int a0_6, .slice a0_7]], .agg [.int a1_1, .blob a1_2, .blob a1_3, .int a1_4]])
theorem f115_eq (run : Run) (n : Nat) (a0_1 : Int) (a0_2 : List UInt8) (a0_3 : List UInt8) (a0_4 : Int) (a0_5 : Int) (a0_6 : Int) (a0_7 : List AV) (a1_1 : Int) (a1_2 : List UInt8) (a1_3 : List UInt8) (a1_4 : Int) : f115 run n a0_1 a0_2 a0_3 a0_4 a0_5 a0_6 a0_7 a1_1 a1_2 a1_3 a1_4 =
  (run 88 [.agg [.int a1_1, .blob a1_2, .blob a1_3, .int a1_4]]).bind fun r1 =>
    nilV r1.outs (consV r1.vals fun v1 vs1 =>
    nilV vs1 ((run 141 [.blob a0_2, .blob v1.toBlob, .agg [.int a0_5, .int a0_6, .slice a0_7]]).bind fun r2 =>
    nilV r2.outs (consV r2.vals fun v2 vs2 =>
    nilV vs2 (some ⟨[.bool v2.toBool], [], f115_fresh⟩)))) := by kernel_rfl
theorem f115_run (ext : Run) (n : Nat) (a0_1 : Int) (a0_2 : List UInt8) (a0_3 : List UInt8) (a0_4 : Int) (a0_5 : Int) (a0_6 : Int) (a0_7 : List AV) (a1_1 : Int) (a1_2 : List UInt8) (a1_3 : List UInt8) (a1_4 : Int) : runE G ext (n + 1) 115 [.agg [.agg [.int a0_1, .blob a0_2, .blob a0_3, .int a0_4], .agg [.int a0_5, .int a0_6, .slice a0_7]], .agg [.int a1_1, .blob a1_2, .blob a1_3, .int a1_4]] = f115 (runE G ext n) n a0_1 a0_2 a0_3 a0_4 a0_5 a0_6 a0_7 a1_1 a1_2 a1_3 a1_4 := runE_succ f115_at f115_in

noncomputable def f114 (run : Run) (n : Nat) (a0_1 : Int) (a1_1 : List AV) : Option Res := evalK G run n f114_info.keep 0 f114_info.body (retE G f114_info) (f114_info.start [.int a0_1, .slice a1_1])
theorem f114_eq (run : Run) (n : Nat) (a0_1 : Int) (a1_1 : List AV) : f114 run n a0_1 a1_1 =
  bif eqI a0_1 0 then
    some ⟨[.bool true], [], f114_fresh⟩
  else
    bif inR a0_1 a1_1.length then
    bif inR (IntKind.wrap .i64 (a0_1 - 1)) a1_1.length then
    (run 115 [.agg [.agg [.int ((((nth a1_1 (Int.toNat a0_1)).fld 0).fld 0).toInt), .blob ((((nth a1_1 (Int.toNat a0_1)).fld 0).fld 1).toBlob), .blob ((((nth a1_1 (Int.toNat a0_1)).fld 0).fld 2).toBlob), .int ((((nth a1_1 (Int.toNat a0_1)).fld 0).fld 3).toInt)], .agg [.int ((((nth a1_1 (Int.toNat a0_1)).fld 1).fld 0).toInt), .int ((((nth a1_1 (Int.toNat a0_1)).fld 1).fld 1).toInt), .slice ((((nth a1_1 (Int.toNat a0_1)).fld 1).fld 2).toSlice)]], .agg [.int ((((nth a1_1 (Int.toNat (IntKind.wrap .i64 (a0_1 - 1)))).fld 0).fld 0).toInt), .blob ((((nth a1_1 (Int.toNat (IntKind.wrap .i64 (a0_1 - 1)))).fld 0).fld 1).toBlob), .blob ((((nth a1_1 (Int.toNat (IntKind.wrap .i64 (a0_1 - 1)))).fld 0).fld 2).toBlob), .int ((((nth a1_1 (Int.toNat (IntKind.wrap .i64 (a0_1 - 1)))).fld 0).fld 3).toInt)]]).bind fun r1 =>
    nilV r1.outs (consV r1.vals fun v1 vs1 =>
    nilV vs1 (some ⟨[.bool v1.toBool], [], f114_fresh⟩))
  else none
  else none := by kernel_rfl
theorem f114_run (ext : Run) (n : Nat) (a0_1 : Int) (a1_1 : List AV) : runE G ext (n + 1) 114 [.int a0_1, .slice a1_1] = f114 (runE G ext n) n a0_1 a1_1 := runE_succ f114_at f114_in

noncomputable def f113 (run : Run) (n : Nat) (a0_1 : Int) (a1_1 : List AV) (a2_1 : Int) (a2_2 : List UInt8) (a2_3 : List UInt8) (a2_4 : Int) (a2_5 : List UInt8) (a2_6 : Int) (a2_7 : Int) (a2_8 : Int) (a2_9 : Int) (a2_10 : Int) (a2_11 : Int) : Option Res := evalK G run n f113_info.keep 0 f113_info.body (retE G f113_info) (f113_info.start [.int a0_1, .slice a1_1, .agg [.agg [.int a2_1, .blob a2_2, .blob a2_3, .int a2_4], .blob a2_5, .int a2_6, .int a2_7, .int a2_8, .int a2_9, .int a2_10, .int a2_11]])
theorem f113_eq (run : Run) (n : Nat) (a0_1 : Int) (a1_1 : List AV) (a2_1 : Int) (a2_2 : List UInt8) (a2_3 : List UInt8) (a2_4 : Int) (a2_5 : List UInt8) (a2_6 : Int) (a2_7 : Int) (a2_8 : Int) (a2_9 : Int) (a2_10 : Int) (a2_11 : Int) : f113 run n a0_1 a1_1 a2_1 a2_2 a2_3 a2_4 a2_5 a2_6 a2_7 a2_8 a2_9 a2_10 a2_11 =
  bif inR a0_1 a1_1.length then
    (run 88 [.agg [.int ((((nth a1_1 (Int.toNat a0_1)).fld 0).fld 0).toInt), .blob ((((nth a1_1 (Int.toNat a0_1)).fld 0).fld 1).toBlob), .blob ((((nth a1_1 (Int.toNat a0_1)).fld 0).fld 2).toBlob), .int ((((nth a1_1 (Int.toNat a0_1)).fld 0).fld 3).toInt)]]).bind fun r1 =>
    nilV r1.outs (consV r1.vals fun v1 vs1 =>
    nilV vs1 ((run 92 [.blob v1.toBlob, .blob a2_5]).bind fun r2 =>
    nilV r2.outs (consV r2.vals fun v2 vs2 =>
    nilV vs2 (some ⟨[.bool v2.toBool], [], f113_fresh⟩))))
  else none := by kernel_rfl
theorem f113_run (ext : Run) (n : Nat) (a0_1 : Int) (a1_1 : List AV) (a2_1 : Int) (a2_2 : List UInt8) (a2_3 : List UInt8) (a2_4 : Int) (a2_5 : List UInt8) (a2_6 : Int) (a2_7 : Int) (a2_8 : Int) (a2_9 : Int) (a2_10 : Int) (a2_11 : Int) : runE G ext (n + 1) 113 [.int a0_1, .slice a1_1, .agg [.agg [.int a2_1, .blob a2_2, .blob a2_3, .int a2_4], .blob a2_5, .int a2_6, .int a2_7, .int a2_8, .int a2_9, .int a2_10, .int a2_11]] = f113 (runE G ext n) n a0_1 a1_1 a2_1 a2_2 a2_3 a2_4 a2_5 a2_6 a2_7 a2_8 a2_9 a2_10 a2_11 := runE_succ f113_at f113_in

noncomputable def f43 (run : Run) (n : Nat) (a0_1 : Int) (a0_2 : List UInt8) (a0_3 : List UInt8) (a0_4 : Int) (a1_1 : Int) (a1_2 : List UInt8) (a1_3 : List UInt8) (a1_4 : Int) : Option Res := evalK G run n f43_info.keep 0 f43_info.body (retE G f43_info) (f43_info.start [.agg [.int a0_1, .blob a0_2, .blob a0_3, .int a0_4], .agg [.int a1_1, .blob a1_2, .blob a1_3, .int a1_4]])
theorem f43_eq (run : Run) (n : Nat) (a0_1 : Int) (a0_2 : List UInt8) (a0_3 : List UInt8) (a0_4 : Int) (a1_1 : Int) (a1_2 : List UInt8) (a1_3 : List UInt8) (a1_4 : Int) : f43 run n a0_1 a0_2 a0_3 a0_4 a1_1 a1_2 a1_3 a1_4 =
  some ⟨[.bool (ltI a1_1 a0_1)], [], f43_fresh⟩ := by kernel_rfl
theorem f43_run (ext : Run) (n : Nat) (a0_1 : Int) (a0_2 : List UInt8) (a0_3 : List UInt8) (a0_4 : Int) (a1_1 : Int) (a1_2 : List UInt8) (a1_3 : List UInt8) (a1_4 : Int) : runE G ext (n + 1) 43 [.agg [.int a0_1, .blob a0_2, .blob a0_3, .int a0_4], .agg [.int a1_1, .blob a1_2, .blob a1_3, .int a1_4]] = f43 (runE G ext n) n a0_1 a0_2 a0_3 a0_4 a1_1 a1_2 a1_3 a1_4 := runE_succ f43_at f43_in

noncomputable def f112 (run : Run) (n : Nat) (a0_1 : Int) (a1_1 : List AV) : Option Res := evalK G run n f112_info.keep 0 f112_info.body (retE G f112_info) (f112_info.start [.int a0_1, .slice a1_1])
theorem f112_eq (run : Run) (n : Nat) (a0_1 : Int) (a1_1 : List AV) : f112 run n a0_1 a1_1 =
  bif eqI a0_1 0 then
    some ⟨[.bool true], [], f112_fresh⟩
  else
    bif inR a0_1 a1_1.length then
    bif inR (IntKind.wrap .i64 (a0_1 - 1)) a1_1.length then
    (run 43 [.agg [.int ((((nth a1_1 (Int.toNat a0_1)).fld 0).fld 0).toInt), .blob ((((nth a1_1 (Int.toNat a0_1)).fld 0).fld 1).toBlob), .blob ((((nth a1_1 (Int.toNat a0_1)).fld 0).fld 2).toBlob), .int ((((nth a1_1 (Int.toNat a0_1)).fld 0).fld 3).toInt)], .agg [.int ((((nth a1_1 (Int.toNat (IntKind.wrap .i64 (a0_1 - 1)))).fld 0).fld 0).toInt), .blob ((((nth a1_1 (Int.toNat (IntKind.wrap .i64 (a0_1 - 1)))).fld 0).fld 1).toBlob), .blob ((((nth a1_1 (Int.toNat (IntKind.wrap .i64 (a0_1 - 1)))).fld 0).fld 2).toBlob), .int ((((nth a1_1 (Int.toNat (IntKind.wrap .i64 (a0_1 - 1)))).fld 0).fld 3).toInt)]]).bind fun r1 =>
    nilV r1.outs (consV r1.vals fun v1 vs1 =>
    nilV vs1 (some ⟨[.bool v1.toBool], [], f112_fresh⟩))
  else none
  else none := by kernel_rfl
theorem f112_run (ext : Run) (n : Nat) (a0_1 : Int) (a1_1 : List AV) : runE G ext (n + 1) 112 [.int a0_1, .slice a1_1] = f112 (runE G ext n) n a0_1 a1_1 := runE_succ f112_at f112_in

noncomputable def f142 (run : Run) (n : Nat) (a0_1 : Int) (a0_2 : List UInt8) (a0_3 : List UInt8) (a0_4 : Int) (a1_1 : Int) (a1_2 : List UInt8) (a1_3 : List UInt8) (a1_4 : Int) : Option Res := evalK G run n f142_info.keep 0 f142_info.body (retE G f142_info) (f142_info.start [.agg [.int a0_1, .blob a0_2, .blob a0_3, .int a0_4], .agg [.int a1_1, .blob a1_2, .blob a1_3, .int a1_4]])
theorem f142_eq (run : Run) (n : Nat) (a0_1 : Int) (a0_2 : List UInt8) (a0_3 : List UInt8) (a0_4 : Int) (a1_1 : Int) (a1_2 : List UInt8) (a1_3 : List UInt8) (a1_4 : Int) : f142 run n a0_1 a0_2 a0_3 a0_4 a1_1 a1_2 a1_3 a1_4 =
  (run 43 [.agg [.int a0_1, .blob a0_2, .blob a0_3, .int a0_4], .agg [.int a1_1, .blob a1_2, .blob a1_3, .int a1_4]]).bind fun r1 =>
    nilV r1.outs (consV r1.vals fun v1 vs1 =>
    nilV vs1 (bif v1.toBool then
    some ⟨[.bool (eqI (IntKind.wrap .u32 (a0_1 - a1_1)) 1)], [], f142_fresh⟩
  else
    some ⟨[.bool false], [], f142_fresh⟩)) := by kernel_rfl
theorem f142_run (ext : Run) (n : Nat) (a0_1 : Int) (a0_2 : List UInt8) (a0_3 : List UInt8) (a0_4 : Int) (a1_1 : Int) (a1_2 : List UInt8) (a1_3 : List UInt8) (a1_4 : Int) : runE G ext (n + 1) 142 [.agg [.int a0_1, .blob a0_2, .blob a0_3, .int a0_4], .agg [.int a1_1, .blob a1_2, .blob a1_3, .int a1_4]] = f142 (runE G ext n) n a0_1 a0_2 a0_3 a0_4 a1_1 a1_2 a1_3 a1_4 := runE_succ f142_at f142_in

noncomputable def f116_l0 (run : Run) (n : Nat) (k0 : Nat) (x0_1 : List AV) (x3_1 : Int) (x4_1 : Int) : Option Res :=
  iterK (evalK G run n f116_keep 0 (sub [1, 1, 0, 1, 0, 0] f116_body)) f116_t0 f116_o0 (blockK 0 (seqK (evalK G run n f116_keep 0 (sub [1, 1, 1] f116_body) (retE G f116_info)) (retE G f116_info))) k0
    ⟨[.val (.slice (.struct [(.struct [(.int .u32), (.blob 32), (.blob 32), (.int .u64)]), (.struct [(.int .i64), (.int .i64), (.slice (.blob 32))])])) none (.slice x0_1), .any, .any, .val (.int .i64) none (.int x3_1), .val (.int .i64) none (.int x4_1), .any, .any, .any, .any, .any, .any, .any, .any, .any, .any, .any, .any, .any, .any, .any, .any, .any, .any, .any, .any, .any, .any, .any, .any, .any, .any, .any, .any, .any, .any, .any, .any, .any], [⟨0, none⟩, ⟨0, none⟩, ⟨0, none⟩, ⟨0, none⟩, ⟨0, none⟩, ⟨0, none⟩, ⟨0, none⟩, ⟨0, none⟩, ⟨0, none⟩, ⟨0, none⟩, ⟨0, none⟩, ⟨0, none⟩, ⟨0, none⟩, ⟨0, none⟩, ⟨0, none⟩, ⟨0, none⟩, ⟨0, none⟩, ⟨0, none⟩, ⟨0, none⟩, ⟨0, none⟩, ⟨0, none⟩, ⟨0, none⟩, ⟨0, none⟩, ⟨0, none⟩, ⟨0, none⟩, ⟨0, none⟩, ⟨0, none⟩, ⟨0, none⟩, ⟨0, none⟩, ⟨0, none⟩, ⟨0, none⟩, ⟨0, none⟩, ⟨0, none⟩, ⟨0, none⟩, ⟨0, none⟩, ⟨0, none⟩, ⟨0, none⟩, ⟨0, none⟩], List.replicate 38 0⟩
theorem f116_l0_eq (run : Run) (n : Nat) (k0 : Nat) (x0_1 : List AV) (x3_1 : Int) (x4_1 : Int) : f116_l0 run n (k0 + 1) x0_1 x3_1 x4_1 =
  bif ltI 0 x4_1 then
    bif inR x4_1 x0_1.length then
    bif !(eqI ((((nth x0_1 (Int.toNat x4_1)).fld 1).fld 0).toInt) 0) then
    some ⟨[.int x3_1], [], f116_fresh⟩
  else
    bif inR x4_1 x0_1.length then
    bif inR (IntKind.wrap .i64 (x4_1 - 1)) x0_1.length then
    (run 142 [.agg [.int ((((nth x0_1 (Int.toNat x4_1)).fld 0).fld 0).toInt), .blob ((((nth x0_1 (Int.toNat x4_1)).fld 0).fld 1).toBlob), .blob ((((nth x0_1 (Int.toNat x4_1)).fld 0).fld 2).toBlob), .int ((((nth x0_1 (Int.toNat x4_1)).fld 0).fld 3).toInt)], .agg [.int ((((nth x0_1 (Int.toNat (IntKind.wrap .i64 (x4_1 - 1)))).fld 0).fld 0).toInt), .blob ((((nth x0_1 (Int.toNat (IntKind.wrap .i64 (x4_1 - 1)))).fld 0).fld 1).toBlob), .blob ((((nth x0_1 (Int.toNat (IntKind.wrap .i64 (x4_1 - 1)))).fld 0).fld 2).toBlob), .int ((((nth x0_1 (Int.toNat (IntKind.wrap .i64 (x4_1 - 1)))).fld 0).fld 3).toInt)]]).bind fun r1 =>
    nilV r1.outs (consV r1.vals fun v1 vs1 =>
    nilV vs1 (bif !v1.toBool then
    some ⟨[.int x3_1], [], f116_fresh⟩
  else
    f116_l0 run n k0 x0_1 (IntKind.wrap .i64 (x3_1 + 1)) (IntKind.wrap .i64 (x4_1 - 1))))
  else none
  else none
  else none
  else
    some ⟨[.int x3_1], [], f116_fresh⟩ := by kernel_rfl
noncomputable def f116 (run : Run) (n : Nat) (a0_1 : List AV) : Option Res := evalK G run n f116_info.keep 0 f116_info.body (retE G f116_info) (f116_info.start [.slice a0_1])
theorem f116_eq (run : Run) (n : Nat) (a0_1 : List AV) : f116 run n a0_1 =
  f116_l0 run n n a0_1 0 (IntKind.wrap .i64 ((a0_1.length : Int) - 1)) := by kernel_rfl
theorem f116_run (ext : Run) (n : Nat) (a0_1 : List AV) : runE G ext (n + 1) 116 [.slice a0_1] = f116 (runE G ext n) n a0_1 := runE_succ f116_at f116_in

noncomputable def f78 (run : Run) (n : Nat) (a0_1 : List AV) (a1_1 : Int) : Option Res := evalK G run n f78_info.keep 0 f78_info.body (retE G f78_info) (f78_info.start [.slice a0_1, .int a1_1])
theorem f78_eq (run : Run) (n : Nat) (a0_1 : List AV) (a1_1 : Int) : f78 run n a0_1 a1_1 =
  (run 116 [.slice a0_1]).bind fun r1 =>
    nilV r1.outs (consV r1.vals fun v1 vs1 =>
    nilV vs1 (bif ltI v1.toInt a1_1 then
    some ⟨[.int 11], [], f78_fresh⟩
  else
    some ⟨[.int 0], [], f78_fresh⟩)) := by kernel_rfl
theorem f78_run (ext : Run) (n : Nat) (a0_1 : List AV) (a1_1 : Int) : runE G ext (n + 1) 78 [.slice a0_1, .int a1_1] = f78 (runE G ext n) n a0_1 a1_1 := runE_succ f78_at f78_in

noncomputable def f42_l2 (run : Run) (n : Nat) (k0 : Nat) (k2 : Nat) (x1_2 : List AV) (x2_12 : Int) (x2_13 : List UInt8) (x2_14 : List UInt8) (x2_15 : Int) (x2_16 : List UInt8) (x2_17 : Int) (x2_18 : Int) (x2_19 : Int) (x2_20 : Int) (x2_21 : Int) (x2_22 : Int) (x6_2 : List AV) (x7_1 : Int) (x23_2 : Int) (x24_2 : Int) (x27_1 : List AV) (x28_1 : Int) (x29_1 : Int) (o4_3 : Int) (o4_4 : Int) : Option Res :=
  iterK (evalK G run n f42_keep 2 (sub [1, 1, 1, 0, 1, 0, 0, 1, 1, 0, 0, 1, 1, 0, 0] f42_body)) f42_t2 f42_o2 (blockK 2 (blockK 1 (seqK (evalK G run n f42_keep 0 (sub [1, 1, 1, 0, 1, 0, 0, 1, 1, 1] f42_body) (seqK (fun t => iterK (evalK G run n f42_keep 0 (sub [1, 1, 1, 0, 1, 0, 0] f42_body)) f42_t0 f42_o0 (blockK 0 (seqK (evalK G run n f42_keep 0 (sub [1, 1, 1, 1] f42_body) (retE G f42_info)) (retE G f42_info))) k0 (t.clear f42_t0 f42_o0)) (blockK 0 (seqK (evalK G run n f42_keep 0 (sub [1, 1, 1, 1] f42_body) (retE G f42_info)) (retE G f42_info))))) (seqK (fun t => iterK (evalK G run n f42_keep 0 (sub [1, 1, 1, 0, 1, 0, 0] f42_body)) f42_t0 f42_o0 (blockK 0 (seqK (evalK G run n f42_keep 0 (sub [1, 1, 1, 1] f42_body) (retE G f42_info)) (retE G f42_info))) k0 (t.clear f42_t0 f42_o0)) (blockK 0 (seqK (evalK G run n f42_keep 0 (sub [1, 1, 1, 1] f42_body) (retE G f42_info)) (retE G f42_info))))))) k2
    ⟨[.any, .val (.slice (.struct [(.struct [(.int .u32), (.blob 32), (.blob 32), (.int .u64)]), (.struct [(.int .i64), (.int .i64), (.slice (.blob 32))])])) none (.slice x1_2), .val (.pat (.struct [(.struct [(.int .u32), (.blob 32), (.blob 32), (.int .u64)]), (.blob 32), (.int .i64), (.int .i64), (.int .i64), (.int .i64), (.int .i64), (.int .i64)])) none (.agg [.agg [.int x2_12, .blob x2_13, .blob x2_14, .int x2_15], .blob x2_16, .int x2_17, .int x2_18, .int x2_19, .int x2_20, .int x2_21, .int x2_22]), .any, .ptr ⟨(.struct [(.int .i64), (.int .i64)]), 4, 1, []⟩, .any, .val (.slice (.struct [(.clos [(112, ([], [0])), (113, ([], [0, 1])), (114, ([], [0]))] [(.pat (.slice (.struct [(.struct [(.int .u32), (.blob 32), (.blob 32), (.int .u64)]), (.struct [(.int .i64), (.int .i64), (.slice (.blob 32))])]))), (.pat (.struct [(.struct [(.int .u32), (.blob 32), (.blob 32), (.int .u64)]), (.blob 32), (.int .i64), (.int .i64), (.int .i64), (.int .i64), (.int .i64), (.int .i64)]))]), (.int .i64)])) (some (6, 0)) (.slice x6_2), .val (.int .i64) none (.int x7_1), .any, .any, .any, .any, .any, .any, .any, .any, .any, .any, .any, .any, .any, .any, .any, .val (.int .i64) none (.int x23_2), .val (.int .i64) none (.int x24_2), .any, .any, .val (.slice (.struct [(.clos [(112, ([], [0])), (113, ([], [0, 1])), (114, ([], [0]))] [(.pat (.slice (.struct [(.struct [(.int .u32), (.blob 32), (.blob 32), (.int .u64)]), (.struct [(.int .i64), (.int .i64), (.slice (.blob 32))])]))), (.pat (.struct [(.struct [(.int .u32), (.blob 32), (.blob 32), (.int .u64)]), (.blob 32), (.int .i64), (.int .i64), (.int .i64), (.int .i64), (.int .i64), (.int .i64)]))]), (.int .i64)])) none (.slice x27_1), .val (.int .i64) none (.int x28_1), .val (.int .i64) none (.int x29_1), .any, .any, .any, .any, .any, .any, .any, .any, .any, .any, .any, .any, .any, .any, .any, .any, .any, .any, .any, .any, .any, .any, .any, .any, .any], [⟨0, none⟩, ⟨0, none⟩, ⟨0, none⟩, ⟨0, none⟩, ⟨1, some ⟨(.struct [(.int .i64), (.int .i64)]), .agg [.int o4_3, .int o4_4]⟩⟩, ⟨0, none⟩, ⟨0, none⟩, ⟨0, none⟩, ⟨0, none⟩, ⟨0, none⟩, ⟨0, none⟩, ⟨0, none⟩, ⟨0, none⟩, ⟨0, none⟩, ⟨0, none⟩, ⟨0, none⟩, ⟨0, none⟩, ⟨0, none⟩, ⟨0, none⟩, ⟨0, none⟩, ⟨0, none⟩, ⟨0, none⟩, ⟨0, none⟩, ⟨0, none⟩, ⟨0, none⟩, ⟨0, none⟩, ⟨0, none⟩, ⟨0, none⟩, ⟨0, none⟩, ⟨0, none⟩, ⟨0, none⟩, ⟨0, none⟩, ⟨0, none⟩, ⟨0, none⟩, ⟨0, none⟩, ⟨0, none⟩, ⟨0, none⟩, ⟨0, none⟩, ⟨0, none⟩, ⟨0, none⟩, ⟨0, none⟩, ⟨0, none⟩, ⟨0, none⟩, ⟨0, none⟩, ⟨0, none⟩, ⟨0, none⟩, ⟨0, none⟩, ⟨0, none⟩, ⟨0, none⟩, ⟨0, none⟩, ⟨0, none⟩, ⟨0, none⟩, ⟨0, none⟩, ⟨0, none⟩, ⟨0, none⟩], List.replicate 55 0⟩
noncomputable def f42_l0 (run : Run) (n : Nat) (k0 : Nat) (x1_1 : List AV) (x2_1 : Int) (x2_2 : List UInt8) (x2_3 : List UInt8) (x2_4 : Int) (x2_5 : List UInt8) (x2_6 : Int) (x2_7 : Int) (x2_8 : Int) (x2_9 : Int) (x2_10 : Int) (x2_11 : Int) (x6_1 : List AV) (x23_1 : Int) (x24_1 : Int) (o4_1 : Int) (o4_2 : Int) : Option Res :=
  iterK (evalK G run n f42_keep 0 (sub [1, 1, 1, 0, 1, 0, 0] f42_body)) f42_t0 f42_o0 (blockK 0 (seqK (evalK G run n f42_keep 0 (sub [1, 1, 1, 1] f42_body) (retE G f42_info)) (retE G f42_info))) k0
    ⟨[.any, .val (.slice (.struct [(.struct [(.int .u32), (.blob 32), (.blob 32), (.int .u64)]), (.struct [(.int .i64), (.int .i64), (.slice (.blob 32))])])) none (.slice x1_1), .val (.pat (.struct [(.struct [(.int .u32), (.blob 32), (.blob 32), (.int .u64)]), (.blob 32), (.int .i64), (.int .i64), (.int .i64), (.int .i64), (.int .i64), (.int .i64)])) none (.agg [.agg [.int x2_1, .blob x2_2, .blob x2_3, .int x2_4], .blob x2_5, .int x2_6, .int x2_7, .int x2_8, .int x2_9, .int x2_10, .int x2_11]), .any, .ptr ⟨(.struct [(.int .i64), (.int .i64)]), 4, 1, []⟩, .any, .val (.slice (.struct [(.clos [(112, ([], [0])), (113, ([], [0, 1])), (114, ([], [0]))] [(.pat (.slice (.struct [(.struct [(.int .u32), (.blob 32), (.blob 32), (.int .u64)]), (.struct [(.int .i64), (.int .i64), (.slice (.blob 32))])]))), (.pat (.struct [(.struct [(.int .u32), (.blob 32), (.blob 32), (.int .u64)]), (.blob 32), (.int .i64), (.int .i64), (.int .i64), (.int .i64), (.int .i64), (.int .i64)]))]), (.int .i64)])) (some (6, 0)) (.slice x6_1), .any, .any, .any, .any, .any, .any, .any, .any, .any, .any, .any, .any, .any, .any, .any, .any, .val (.int .i64) none (.int x23_1), .val (.int .i64) none (.int x24_1), .any, .any, .any, .any, .any, .any, .any, .any, .any, .any, .any, .any, .any, .any, .any, .any, .any, .any, .any, .any, .any, .any, .any, .any, .any, .any, .any, .any, .any, .any], [⟨0, none⟩, ⟨0, none⟩, ⟨0, none⟩, ⟨0, none⟩, ⟨1, some ⟨(.struct [(.int .i64), (.int .i64)]), .agg [.int o4_1, .int o4_2]⟩⟩, ⟨0, none⟩, ⟨0, none⟩, ⟨0, none⟩, ⟨0, none⟩, ⟨0, none⟩, ⟨0, none⟩, ⟨0, none⟩, ⟨0, none⟩, ⟨0, none⟩, ⟨0, none⟩, ⟨0, none⟩, ⟨0, none⟩, ⟨0, none⟩, ⟨0, none⟩, ⟨0, none⟩, ⟨0, none⟩, ⟨0, none⟩, ⟨0, none⟩, ⟨0, none⟩, ⟨0, none⟩, ⟨0, none⟩, ⟨0, none⟩, ⟨0, none⟩, ⟨0, none⟩, ⟨0, none⟩, ⟨0, none⟩, ⟨0, none⟩, ⟨0, none⟩, ⟨0, none⟩, ⟨0, none⟩, ⟨0, none⟩, ⟨0, none⟩, ⟨0, none⟩, ⟨0, none⟩, ⟨0, none⟩, ⟨0, none⟩, ⟨0, none⟩, ⟨0, none⟩, ⟨0, none⟩, ⟨0, none⟩, ⟨0, none⟩, ⟨0, none⟩, ⟨0, none⟩, ⟨0, none⟩, ⟨0, none⟩, ⟨0, none⟩, ⟨0, none⟩, ⟨0, none⟩, ⟨0, none⟩, ⟨0, none⟩], List.replicate 55 0⟩
theorem f42_l2_eq (run : Run) (n : Nat) (k0 : Nat) (k2 : Nat) (x1_2 : List AV) (x2_12 : Int) (x2_13 : List UInt8) (x2_14 : List UInt8) (x2_15 : Int) (x2_16 : List UInt8) (x2_17 : Int) (x2_18 : Int) (x2_19 : Int) (x2_20 : Int) (x2_21 : Int) (x2_22 : Int) (x6_2 : List AV) (x7_1 : Int) (x23_2 : Int) (x24_2 : Int) (x27_1 : List AV) (x28_1 : Int) (x29_1 : Int) (o4_3 : Int) (o4_4 : Int) : f42_l2 run n k0 (k2 + 1) x1_2 x2_12 x2_13 x2_14 x2_15 x2_16 x2_17 x2_18 x2_19 x2_20 x2_21 x2_22 x6_2 x7_1 x23_2 x24_2 x27_1 x28_1 x29_1 o4_3 o4_4 =
  bif ltI x29_1 x28_1 then
    bif inR x29_1 x27_1.length then
    bif Nat.beq (((nth x27_1 (Int.toNat x29_1)).fld 0).cloF) 112 then
    (run 112 [.int x7_1, nth (((nth x27_1 (Int.toNat x29_1)).fld 0).cloXs) 0]).bind fun r5 =>
    nilV r5.outs (consV r5.vals fun v5 vs5 =>
    nilV vs5 (bif !v5.toBool then
    some ⟨[.agg [.int (((nth x27_1 (Int.toNat x29_1)).fld 1).toInt), .int x7_1]], [], f42_fresh⟩
  else
    f42_l2 run n k0 k2 x1_2 x2_12 x2_13 x2_14 x2_15 x2_16 x2_17 x2_18 x2_19 x2_20 x2_21 x2_22 x6_2 x7_1 x23_2 x24_2 x27_1 x28_1 (IntKind.wrap .i64 (x29_1 + 1)) o4_3 o4_4))
  else
    bif Nat.beq (((nth x27_1 (Int.toNat x29_1)).fld 0).cloF) 113 then
    (run 113 [.int x7_1, nth (((nth x27_1 (Int.toNat x29_1)).fld 0).cloXs) 0, nth (((nth x27_1 (Int.toNat x29_1)).fld 0).cloXs) 1]).bind fun r4 =>
    nilV r4.outs (consV r4.vals fun v4 vs4 =>
    nilV vs4 (bif !v4.toBool then
    some ⟨[.agg [.int (((nth x27_1 (Int.toNat x29_1)).fld 1).toInt), .int x7_1]], [], f42_fresh⟩
  else
    f42_l2 run n k0 k2 x1_2 x2_12 x2_13 x2_14 x2_15 x2_16 x2_17 x2_18 x2_19 x2_20 x2_21 x2_22 x6_2 x7_1 x23_2 x24_2 x27_1 x28_1 (IntKind.wrap .i64 (x29_1 + 1)) o4_3 o4_4))
  else
    bif Nat.beq (((nth x27_1 (Int.toNat x29_1)).fld 0).cloF) 114 then
    (run 114 [.int x7_1, nth (((nth x27_1 (Int.toNat x29_1)).fld 0).cloXs) 0]).bind fun r3 =>
    nilV r3.outs (consV r3.vals fun v3 vs3 =>
    nilV vs3 (bif !v3.toBool then
    some ⟨[.agg [.int (((nth x27_1 (Int.toNat x29_1)).fld 1).toInt), .int x7_1]], [], f42_fresh⟩
  else
    f42_l2 run n k0 k2 x1_2 x2_12 x2_13 x2_14 x2_15 x2_16 x2_17 x2_18 x2_19 x2_20 x2_21 x2_22 x6_2 x7_1 x23_2 x24_2 x27_1 x28_1 (IntKind.wrap .i64 (x29_1 + 1)) o4_3 o4_4))
  else
    none
  else none
  else
    f42_l0 run n k0 x1_2 x2_12 x2_13 x2_14 x2_15 x2_16 x2_17 x2_18 x2_19 x2_20 x2_21 x2_22 x6_2 x23_2 (IntKind.wrap .i64 (x24_2 + 1)) o4_3 o4_4 := by kernel_rfl
theorem f42_l0_eq (run : Run) (n : Nat) (k0 : Nat) (x1_1 : List AV) (x2_1 : Int) (x2_2 : List UInt8) (x2_3 : List UInt8) (x2_4 : Int) (x2_5 : List UInt8) (x2_6 : Int) (x2_7 : Int) (x2_8 : Int) (x2_9 : Int) (x2_10 : Int) (x2_11 : Int) (x6_1 : List AV) (x23_1 : Int) (x24_1 : Int) (o4_1 : Int) (o4_2 : Int) : f42_l0 run n (k0 + 1) x1_1 x2_1 x2_2 x2_3 x2_4 x2_5 x2_6 x2_7 x2_8 x2_9 x2_10 x2_11 x6_1 x23_1 x24_1 o4_1 o4_2 =
  bif ltI x24_1 x23_1 then
    f42_l2 run n k0 n x1_1 x2_1 x2_2 x2_3 x2_4 x2_5 x2_6 x2_7 x2_8 x2_9 x2_10 x2_11 x6_1 x24_1 x23_1 x24_1 x6_1 (x6_1.length : Int) 0 o4_1 o4_2
  else
    (run 78 [.slice x1_1, .int x2_7]).bind fun r6 =>
    nilV r6.outs (consV r6.vals fun v6 vs6 =>
    nilV vs6 (bif !(eqI v6.toInt 0) then
    some ⟨[.agg [.int v6.toInt, .int (x1_1.length : Int)]], [], f42_fresh⟩
  else
    some ⟨[.agg [.int 0, .int 0]], [], f42_fresh⟩)) := by kernel_rfl
noncomputable def f42 (run : Run) (n : Nat) (a0_1 : Int) (a0_2 : List UInt8) (a0_3 : List UInt8) (a0_4 : Int) (a0_5 : List UInt8) (a0_6 : Int) (a0_7 : Int) (a0_8 : Int) (a0_9 : Int) (a0_10 : Int) (a0_11 : Int) (a1_1 : List AV) : Option Res := evalK G run n f42_info.keep 0 f42_info.body (retE G f42_info) (f42_info.start [.agg [.agg [.int a0_1, .blob a0_2, .blob a0_3, .int a0_4], .blob a0_5, .int a0_6, .int a0_7, .int a0_8, .int a0_9, .int a0_10, .int a0_11], .slice a1_1])
theorem f42_eq (run : Run) (n : Nat) (a0_1 : Int) (a0_2 : List UInt8) (a0_3 : List UInt8) (a0_4 : Int) (a0_5 : List UInt8) (a0_6 : Int) (a0_7 : Int) (a0_8 : Int) (a0_9 : Int) (a0_10 : Int) (a0_11 : Int) (a1_1 : List AV) : f42 run n a0_1 a0_2 a0_3 a0_4 a0_5 a0_6 a0_7 a0_8 a0_9 a0_10 a0_11 a1_1 =
  (run 76 [.agg [.int a0_1, .blob a0_2, .blob a0_3, .int a0_4], .slice a1_1]).bind fun r1 =>
    nilV r1.outs (consV r1.vals fun v1 vs1 =>
    nilV vs1 (bif !(eqI v1.toInt 0) then
    some ⟨[.agg [.int v1.toInt, .int 0]], [], f42_fresh⟩
  else
    (run 77 [.agg [.agg [.int a0_1, .blob a0_2, .blob a0_3, .int a0_4], .blob a0_5, .int a0_6, .int a0_7, .int a0_8, .int a0_9, .int a0_10, .int a0_11], .slice a1_1]).bind fun r2 =>
    bif r2.fresh then
    nilV r2.outs (consV r2.vals fun v2 vs2 =>
    nilV vs2 (f42_l0 run n n a1_1 a0_1 a0_2 a0_3 a0_4 a0_5 a0_6 a0_7 a0_8 a0_9 a0_10 a0_11 v2.toSlice (a1_1.length : Int) 0 0 0))
  else none)) := by kernel_rfl
theorem f42_run (ext : Run) (n : Nat) (a0_1 : Int) (a0_2 : List UInt8) (a0_3 : List UInt8) (a0_4 : Int) (a0_5 : List UInt8) (a0_6 : Int) (a0_7 : Int) (a0_8 : Int) (a0_9 : Int) (a0_10 : Int) (a0_11 : Int) (a1_1 : List AV) : runE G ext (n + 1) 42 [.agg [.agg [.int a0_1, .blob a0_2, .blob a0_3, .int a0_4], .blob a0_5, .int a0_6, .int a0_7, .int a0_8, .int a0_9, .int a0_10, .int a0_11], .slice a1_1] = f42 (runE G ext n) n a0_1 a0_2 a0_3 a0_4 a0_5 a0_6 a0_7 a0_8 a0_9 a0_10 a0_11 a1_1 := runE_succ f42_at f42_in

noncomputable def f9_l0 (run : Run) (n : Nat) (k0 : Nat) (x1_1 : List AV) (x2_1 : Int) (x2_2 : List UInt8) (x2_3 : List UInt8) (x2_4 : Int) (x2_5 : List UInt8) (x2_6 : Int) (x2_7 : Int) (x2_8 : Int) (x2_9 : Int) (x2_10 : Int) (x2_11 : Int) (x5_1 : List AV) (x7_1 : Int) : Option Res :=
  iterK (evalK G run n f9_keep 0 (sub [1, 1, 1, 1, 0, 1, 0, 0] f9_body)) f9_t0 f9_o0 (blockK 0 (seqK (evalK G run n f9_keep 0 (sub [1, 1, 1, 1, 1] f9_body) (retE G f9_info)) (retE G f9_info))) k0
    ⟨[.any, .val (.slice (.struct [(.struct [(.int .u32), (.blob 32), (.blob 32), (.int .u64)]), (.slice .str)])) none (.slice x1_1), .val (.pat (.struct [(.struct [(.int .u32), (.blob 32), (.blob 32), (.int .u64)]), (.blob 32), (.int .i64), (.int .i64), (.int .i64), (.int .i64), (.int .i64), (.int .i64)])) none (.agg [.agg [.int x2_1, .blob x2_2, .blob x2_3, .int x2_4], .blob x2_5, .int x2_6, .int x2_7, .int x2_8, .int x2_9, .int x2_10, .int x2_11]), .any, .any, .val (.slice (.struct [(.struct [(.int .u32), (.blob 32), (.blob 32), (.int .u64)]), (.struct [(.int .i64), (.int .i64), (.slice (.blob 32))])])) none (.slice x5_1), .any, .val (.int .i64) none (.int x7_1), .any, .any, .any, .any, .any, .any, .any, .any, .any, .any, .any, .any, .any, .any, .any, .any, .any, .any, .any, .any, .any, .any, .any, .any, .any, .any, .any, .any, .any, .any, .any, .any, .any, .any, .any, .any, .any, .any, .any, .any, .any, .any, .any, .any, .any, .any, .any, .any, .any, .any, .any, .any, .any, .any, .any, .any, .any, .any, .any, .any, .any, .any, .any, .any, .any, .any, .any, .any, .any, .any, .any, .any, .any, .any, .any, .any, .any, .any, .any, .any, .any, .any, .any, .any, .any, .any, .any, .any, .any, .any, .any, .any, .any, .any, .any, .any, .any, .any, .any, .any, .any, .any, .any, .any, .any, .any, .any, .any, .any, .any, .any, .any, .any, .any, .any, .any, .any, .any, .any, .any, .any, .any, .any, .any], [⟨0, none⟩, ⟨0, none⟩, ⟨0, none⟩, ⟨0, none⟩, ⟨0, none⟩, ⟨0, none⟩, ⟨0, none⟩, ⟨0, none⟩, ⟨0, none⟩, ⟨0, none⟩, ⟨0, none⟩, ⟨0, none⟩, ⟨0, none⟩, ⟨0, none⟩, ⟨0, none⟩, ⟨0, none⟩, ⟨0, none⟩, ⟨0, none⟩, ⟨0, none⟩, ⟨0, none⟩, ⟨0, none⟩, ⟨0, none⟩, ⟨0, none⟩, ⟨0, none⟩, ⟨0, none⟩, ⟨0, none⟩, ⟨0, none⟩, ⟨0, none⟩, ⟨0, none⟩, ⟨0, none⟩, ⟨0, none⟩, ⟨0, none⟩, ⟨0, none⟩, ⟨0, none⟩, ⟨0, none⟩, ⟨0, none⟩, ⟨0, none⟩, ⟨0, none⟩, ⟨0, none⟩, ⟨0, none⟩, ⟨0, none⟩, ⟨0, none⟩, ⟨0, none⟩, ⟨0, none⟩, ⟨0, none⟩, ⟨0, none⟩, ⟨0, none⟩, ⟨0, none⟩, ⟨0, none⟩, ⟨0, none⟩, ⟨0, none⟩, ⟨0, none⟩, ⟨0, none⟩, ⟨0, none⟩, ⟨0, none⟩, ⟨0, none⟩, ⟨0, none⟩, ⟨0, none⟩, ⟨0, none⟩, ⟨0, none⟩, ⟨0, none⟩, ⟨0, none⟩, ⟨0, none⟩, ⟨0, none⟩, ⟨0, none⟩, ⟨0, none⟩, ⟨0, none⟩, ⟨0, none⟩, ⟨0, none⟩, ⟨0, none⟩, ⟨0, none⟩, ⟨0, none⟩, ⟨0, none⟩, ⟨0, none⟩, ⟨0, none⟩, ⟨0, none⟩, ⟨0, none⟩, ⟨0, none⟩, ⟨0, none⟩, ⟨0, none⟩, ⟨0, none⟩, ⟨0, none⟩, ⟨0, none⟩, ⟨0, none⟩, ⟨0, none⟩, ⟨0, none⟩, ⟨0, none⟩, ⟨0, none⟩, ⟨0, none⟩, ⟨0, none⟩, ⟨0, none⟩, ⟨0, none⟩, ⟨0, none⟩, ⟨0, none⟩, ⟨0, none⟩, ⟨0, none⟩, ⟨0, none⟩, ⟨0, none⟩, ⟨0, none⟩, ⟨0, none⟩, ⟨0, none⟩, ⟨0, none⟩, ⟨0, none⟩, ⟨0, none⟩, ⟨0, none⟩, ⟨0, none⟩, ⟨0, none⟩, ⟨0, none⟩, ⟨0, none⟩, ⟨0, none⟩, ⟨0, none⟩, ⟨0, none⟩, ⟨0, none⟩, ⟨0, none⟩, ⟨0, none⟩, ⟨0, none⟩, ⟨0, none⟩, ⟨0, none⟩, ⟨0, none⟩, ⟨0, none⟩, ⟨0, none⟩, ⟨0, none⟩, ⟨0, none⟩, ⟨0, none⟩, ⟨0, none⟩, ⟨0, none⟩, ⟨0, none⟩, ⟨0, none⟩, ⟨0, none⟩, ⟨0, none⟩, ⟨0, none⟩, ⟨0, none⟩], List.replicate 132 0⟩
theorem f9_l0_eq (run : Run) (n : Nat) (k0 : Nat) (x1_1 : List AV) (x2_1 : Int) (x2_2 : List UInt8) (x2_3 : List UInt8) (x2_4 : Int) (x2_5 : List UInt8) (x2_6 : Int) (x2_7 : Int) (x2_8 : Int) (x2_9 : Int) (x2_10 : Int) (x2_11 : Int) (x5_1 : List AV) (x7_1 : Int) : f9_l0 run n (k0 + 1) x1_1 x2_1 x2_2 x2_3 x2_4 x2_5 x2_6 x2_7 x2_8 x2_9 x2_10 x2_11 x5_1 x7_1 =
  bif ltI x7_1 (x5_1.length : Int) then
    bif inR x7_1 x5_1.length then
    bif leI (x1_1.length : Int) (IntKind.wrap .i64 ((((nth x5_1 (Int.toNat x7_1)).fld 0).fld 0).toInt)) then
    some ⟨[.bool false], [], f9_fresh⟩
  else
    bif inR ((((nth x5_1 (Int.toNat x7_1)).fld 0).fld 0).toInt) x1_1.length then
    bif !(eqI ((((nth x1_1 (Int.toNat ((((nth x5_1 (Int.toNat x7_1)).fld 0).fld 0).toInt))).fld 0).fld 0).toInt) ((((nth x5_1 (Int.toNat x7_1)).fld 0).fld 0).toInt) && (eqS ((((nth x1_1 (Int.toNat ((((nth x5_1 (Int.toNat x7_1)).fld 0).fld 0).toInt))).fld 0).fld 1).toBlob) ((((nth x5_1 (Int.toNat x7_1)).fld 0).fld 1).toBlob) && (eqS ((((nth x1_1 (Int.toNat ((((nth x5_1 (Int.toNat x7_1)).fld 0).fld 0).toInt))).fld 0).fld 2).toBlob) ((((nth x5_1 (Int.toNat x7_1)).fld 0).fld 2).toBlob) && (eqI ((((nth x1_1 (Int.toNat ((((nth x5_1 (Int.toNat x7_1)).fld 0).fld 0).toInt))).fld 0).fld 3).toInt) ((((nth x5_1 (Int.toNat x7_1)).fld 0).fld 3).toInt) && true)))) then
    some ⟨[.bool false], [], f9_fresh⟩
  else
    bif ltI 0 x7_1 then
    bif inR (IntKind.wrap .i64 (x7_1 - 1)) x5_1.length then
    (run 43 [.agg [.int ((((nth x5_1 (Int.toNat x7_1)).fld 0).fld 0).toInt), .blob ((((nth x5_1 (Int.toNat x7_1)).fld 0).fld 1).toBlob), .blob ((((nth x5_1 (Int.toNat x7_1)).fld 0).fld 2).toBlob), .int ((((nth x5_1 (Int.toNat x7_1)).fld 0).fld 3).toInt)], .agg [.int ((((nth x5_1 (Int.toNat (IntKind.wrap .i64 (x7_1 - 1)))).fld 0).fld 0).toInt), .blob ((((nth x5_1 (Int.toNat (IntKind.wrap .i64 (x7_1 - 1)))).fld 0).fld 1).toBlob), .blob ((((nth x5_1 (Int.toNat (IntKind.wrap .i64 (x7_1 - 1)))).fld 0).fld 2).toBlob), .int ((((nth x5_1 (Int.toNat (IntKind.wrap .i64 (x7_1 - 1)))).fld 0).fld 3).toInt)]]).bind fun r10 =>
    nilV r10.outs (consV r10.vals fun v11 vs11 =>
    nilV vs11 (bif !v11.toBool then
    some ⟨[.bool false], [], f9_fresh⟩
  else
    bif leI (IntKind.wrap .i64 ((x5_1.length : Int) - x2_7)) x7_1 then
    bif !(eqI (IntKind.wrap .i64 ((((nth x5_1 (Int.toNat x7_1)).fld 0).fld 0).toInt)) (IntKind.wrap .i64 (IntKind.wrap .i64 ((x1_1.length : Int) - (x5_1.length : Int)) + x7_1))) then
    some ⟨[.bool false], [], f9_fresh⟩
  else
    f9_l0 run n k0 x1_1 x2_1 x2_2 x2_3 x2_4 x2_5 x2_6 x2_7 x2_8 x2_9 x2_10 x2_11 x5_1 (IntKind.wrap .i64 (x7_1 + 1))
  else
    f9_l0 run n k0 x1_1 x2_1 x2_2 x2_3 x2_4 x2_5 x2_6 x2_7 x2_8 x2_9 x2_10 x2_11 x5_1 (IntKind.wrap .i64 (x7_1 + 1))))
  else none
  else
    bif leI (IntKind.wrap .i64 ((x5_1.length : Int) - x2_7)) x7_1 then
    bif !(eqI (IntKind.wrap .i64 ((((nth x5_1 (Int.toNat x7_1)).fld 0).fld 0).toInt)) (IntKind.wrap .i64 (IntKind.wrap .i64 ((x1_1.length : Int) - (x5_1.length : Int)) + x7_1))) then
    some ⟨[.bool false], [], f9_fresh⟩
  else
    f9_l0 run n k0 x1_1 x2_1 x2_2 x2_3 x2_4 x2_5 x2_6 x2_7 x2_8 x2_9 x2_10 x2_11 x5_1 (IntKind.wrap .i64 (x7_1 + 1))
  else
    f9_l0 run n k0 x1_1 x2_1 x2_2 x2_3 x2_4 x2_5 x2_6 x2_7 x2_8 x2_9 x2_10 x2_11 x5_1 (IntKind.wrap .i64 (x7_1 + 1))
  else none
  else none
  else
    (run 25 []).bind fun r11 =>
    nilV r11.outs (consV r11.vals fun v12 vs12 =>
    nilV vs12 (some ⟨[.bool v12.toBool], [], f9_fresh⟩)) := by kernel_rfl
noncomputable def f9 (run : Run) (n : Nat) (a0_1 : Int) (a0_2 : List UInt8) (a0_3 : List UInt8) (a0_4 : Int) (a0_5 : List UInt8) (a0_6 : Int) (a0_7 : Int) (a0_8 : Int) (a0_9 : Int) (a0_10 : Int) (a0_11 : Int) (a1_1 : List AV) : Option Res := evalK G run n f9_info.keep 0 f9_info.body (retE G f9_info) (f9_info.start [.agg [.agg [.int a0_1, .blob a0_2, .blob a0_3, .int a0_4], .blob a0_5, .int a0_6, .int a0_7, .int a0_8, .int a0_9, .int a0_10, .int a0_11], .slice a1_1])
theorem f9_eq (run : Run) (n : Nat) (a0_1 : Int) (a0_2 : List UInt8) (a0_3 : List UInt8) (a0_4 : Int) (a0_5 : List UInt8) (a0_6 : Int) (a0_7 : Int) (a0_8 : Int) (a0_9 : Int) (a0_10 : Int) (a0_11 : Int) (a1_1 : List AV) : f9 run n a0_1 a0_2 a0_3 a0_4 a0_5 a0_6 a0_7 a0_8 a0_9 a0_10 a0_11 a1_1 =
  (run 10 [.slice a1_1]).bind fun r1 =>
    nilV r1.outs (consV r1.vals fun v1 vs1 =>
    nilV vs1 (bif v1.toBool then
    (run 25 []).bind fun r2 =>
    nilV r2.outs (consV r2.vals fun v2 vs2 =>
    nilV vs2 (some ⟨[.bool v2.toBool], [], f9_fresh⟩))
  else
    bif leI (a1_1.length : Int) a0_7 then
    (run 25 []).bind fun r3 =>
    nilV r3.outs (consV r3.vals fun v3 vs3 =>
    nilV vs3 (some ⟨[.bool v3.toBool], [], f9_fresh⟩))
  else
    (run 19 [.int a0_6, .int a0_7, .int a0_8, .int a0_9]).bind fun r4 =>
    nilV r4.outs (consV r4.vals fun v4 vs4 =>
    nilV vs4 (bif !v4.toBool then
    (run 25 []).bind fun r5 =>
    nilV r5.outs (consV r5.vals fun v5 vs5 =>
    nilV vs5 (some ⟨[.bool v5.toBool], [], f9_fresh⟩))
  else
    (run 20 [.agg [.agg [.int a0_1, .blob a0_2, .blob a0_3, .int a0_4], .blob a0_5, .int a0_6, .int a0_7, .int a0_8, .int a0_9, .int a0_10, .int a0_11], .slice a1_1]).bind fun r6 =>
    nilV r6.outs (consV r6.vals fun v6 vs6 =>
    nilV vs6 (bif !(eqI ((v6.fld 0).toInt) 0) then
    (run 25 []).bind fun r7 =>
    nilV r7.outs (consV r7.vals fun v7 vs7 =>
    nilV vs7 (some ⟨[.bool v7.toBool], [], f9_fresh⟩))
  else
    (run 26 [.agg [.agg [.int a0_1, .blob a0_2, .blob a0_3, .int a0_4], .blob a0_5, .int a0_6, .int a0_7, .int a0_8, .int a0_9, .int a0_10, .int a0_11], .slice a1_1]).bind fun r8 =>
    nilV r8.outs (consV r8.vals fun v8 vs8 =>
    consV vs8 fun v9 vs9 =>
    nilV vs9 (bif !(eqI v9.toInt 0) then
    some ⟨[.bool false], [], f9_fresh⟩
  else
    (run 42 [.agg [.agg [.int a0_1, .blob a0_2, .blob a0_3, .int a0_4], .blob a0_5, .int a0_6, .int a0_7, .int a0_8, .int a0_9, .int a0_10, .int a0_11], .slice v8.toSlice]).bind fun r9 =>
    nilV r9.outs (consV r9.vals fun v10 vs10 =>
    nilV vs10 (bif !(eqI ((v10.fld 0).toInt) 0 && (eqI ((v10.fld 1).toInt) 0 && true)) then
    some ⟨[.bool false], [], f9_fresh⟩
  else
    bif leI (v8.toSlice.length : Int) a0_7 then
    some ⟨[.bool false], [], f9_fresh⟩
  else
    bif ltI (a1_1.length : Int) (v8.toSlice.length : Int) then
    some ⟨[.bool false], [], f9_fresh⟩
  else
    f9_l0 run n n a1_1 a0_1 a0_2 a0_3 a0_4 a0_5 a0_6 a0_7 a0_8 a0_9 a0_10 a0_11 v8.toSlice 0)))))))))) := by kernel_rfl
theorem f9_run (ext : Run) (n : Nat) (a0_1 : Int) (a0_2 : List UInt8) (a0_3 : List UInt8) (a0_4 : Int) (a0_5 : List UInt8) (a0_6 : Int) (a0_7 : Int) (a0_8 : Int) (a0_9 : Int) (a0_10 : Int) (a0_11 : Int) (a1_1 : List AV) : runE G ext (n + 1) 9 [.agg [.agg [.int a0_1, .blob a0_2, .blob a0_3, .int a0_4], .blob a0_5, .int a0_6, .int a0_7, .int a0_8, .int a0_9, .int a0_10, .int a0_11], .slice a1_1] = f9 (runE G ext n) n a0_1 a0_2 a0_3 a0_4 a0_5 a0_6 a0_7 a0_8 a0_9 a0_10 a0_11 a1_1 := runE_succ f9_at f9_in

end Go.Proofs.YtncajhkogppojaaGreat.Ev
