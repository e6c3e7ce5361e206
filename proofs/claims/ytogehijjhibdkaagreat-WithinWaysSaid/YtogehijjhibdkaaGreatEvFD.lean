/- What the evaluator does with the functions, as programs over plain values: printed by gen.py, checked by the kernel. -/
import Derived.Test.YtogehijjhibdkaaGreatEvFA
namespace Go.Proofs.YtogehijjhibdkaaGreat.Ev
open Go Go.RowKit
set_option maxRecDepth 100000


noncomputable def f226_l0 (run : Run) (n : Nat) (k0 : Nat) (x7_1 : Int) (x8_1 : Int) (x9_1 : Int) (o2_1 : List AV) (o4_1 : List AV) (o6_1 : List AV) : Option Res :=
  iterK (evalK G run n f226_keep 0 (sub [1, 1, 1, 1, 1, 0, 1, 0, 0] f226_body)) f226_t0 f226_o0 (blockK 0 (seqK (evalK G run n f226_keep 0 (sub [1, 1, 1, 1, 1, 1] f226_body) (retE G f226_info)) (retE G f226_info))) k0
    ⟨[.any, .any, .ptr ⟨(.arr 5 (.int .u64)), 2, 1, []⟩, .any, .ptr ⟨(.arr 5 (.int .u64)), 4, 1, []⟩, .any, .ptr ⟨(.arr 5 (.int .u64)), 6, 1, []⟩, .val (.int .i64) none (.int x7_1), .val (.int .u64) none (.int x8_1), .val (.int .i64) none (.int x9_1), .any, .any, .any, .any, .any, .any, .any, .any, .any, .any, .any, .any, .any, .any, .any, .any, .any, .any, .any, .any, .any, .any, .any, .any, .any, .any, .any, .any, .any, .any, .any, .any, .any, .any, .any, .any, .any, .any, .any, .any, .any, .any, .any, .any, .any, .any, .any, .any, .any, .any, .any, .any, .any, .any, .any, .any, .any, .any, .any, .any], [⟨0, none⟩, ⟨0, none⟩, ⟨1, some ⟨(.arr 5 (.int .u64)), .agg o2_1⟩⟩, ⟨0, none⟩, ⟨1, some ⟨(.arr 5 (.int .u64)), .agg o4_1⟩⟩, ⟨0, none⟩, ⟨1, some ⟨(.arr 5 (.int .u64)), .agg o6_1⟩⟩, ⟨0, none⟩, ⟨0, none⟩, ⟨0, none⟩, ⟨0, none⟩, ⟨0, none⟩, ⟨0, none⟩, ⟨0, none⟩, ⟨0, none⟩, ⟨0, none⟩, ⟨0, none⟩, ⟨0, none⟩, ⟨0, none⟩, ⟨0, none⟩, ⟨0, none⟩, ⟨0, none⟩, ⟨0, none⟩, ⟨0, none⟩, ⟨0, none⟩, ⟨0, none⟩, ⟨0, none⟩, ⟨0, none⟩, ⟨0, none⟩, ⟨0, none⟩, ⟨0, none⟩, ⟨0, none⟩, ⟨0, none⟩, ⟨0, none⟩, ⟨0, none⟩, ⟨0, none⟩, ⟨0, none⟩, ⟨0, none⟩, ⟨0, none⟩, ⟨0, none⟩, ⟨0, none⟩, ⟨0, none⟩, ⟨0, none⟩, ⟨0, none⟩, ⟨0, none⟩, ⟨0, none⟩, ⟨0, none⟩, ⟨0, none⟩, ⟨0, none⟩, ⟨0, none⟩, ⟨0, none⟩, ⟨0, none⟩, ⟨0, none⟩, ⟨0, none⟩, ⟨0, none⟩, ⟨0, none⟩, ⟨0, none⟩, ⟨0, none⟩, ⟨0, none⟩, ⟨0, none⟩, ⟨0, none⟩, ⟨0, none⟩, ⟨0, none⟩, ⟨0, none⟩, ⟨0, none⟩, ⟨0, none⟩, ⟨0, none⟩, ⟨0, none⟩, ⟨0, none⟩, ⟨0, none⟩], List.replicate 70 0⟩
theorem f226_l0_eq (run : Run) (n : Nat) (k0 : Nat) (x7_1 : Int) (x8_1 : Int) (x9_1 : Int) (o2_1 : List AV) (o4_1 : List AV) (o6_1 : List AV) : f226_l0 run n (k0 + 1) x7_1 x8_1 x9_1 o2_1 o4_1 o6_1 =
  bif ltI x9_1 5 then
    bif inR (IntKind.wrap .i64 (x9_1 - x7_1)) 5 then
    bif leI 0 x8_1 then
    bif inR x9_1 5 then
    bif ltI 0 x8_1 then
    bif ltI x7_1 x9_1 then
    bif inR x9_1 5 then
    bif inR (IntKind.wrap .i64 (IntKind.wrap .i64 (x9_1 - x7_1) - 1)) 5 then
    bif leI 0 (IntKind.wrap .u64 (64 - x8_1)) then
    bif inR x9_1 5 then
    f226_l0 run n k0 x7_1 x8_1 (IntKind.wrap .i64 (x9_1 + 1)) o2_1 o4_1 ((o6_1.set (Int.toNat x9_1) (.int (IntKind.wrap .u64 ((AV.fld (.agg o2_1) (Int.toNat (IntKind.wrap .i64 (x9_1 - x7_1)))).toInt * 2 ^ (min (Int.toNat x8_1) 64))))).set (Int.toNat x9_1) (.int (IntKind.wrap .u64 (BitVec.toNat (BitVec.ofInt 64 ((AV.fld (.agg (o6_1.set (Int.toNat x9_1) (.int (IntKind.wrap .u64 ((AV.fld (.agg o2_1) (Int.toNat (IntKind.wrap .i64 (x9_1 - x7_1)))).toInt * 2 ^ (min (Int.toNat x8_1) 64)))))) (Int.toNat x9_1)).toInt) ||| BitVec.ofInt 64 (Int.fdiv ((AV.fld (.agg o2_1) (Int.toNat (IntKind.wrap .i64 (IntKind.wrap .i64 (x9_1 - x7_1) - 1)))).toInt) (2 ^ (min (Int.toNat (IntKind.wrap .u64 (64 - x8_1))) 64))))))))
  else none
  else none
  else none
  else none
  else
    f226_l0 run n k0 x7_1 x8_1 (IntKind.wrap .i64 (x9_1 + 1)) o2_1 o4_1 (o6_1.set (Int.toNat x9_1) (.int (IntKind.wrap .u64 ((AV.fld (.agg o2_1) (Int.toNat (IntKind.wrap .i64 (x9_1 - x7_1)))).toInt * 2 ^ (min (Int.toNat x8_1) 64)))))
  else
    f226_l0 run n k0 x7_1 x8_1 (IntKind.wrap .i64 (x9_1 + 1)) o2_1 o4_1 (o6_1.set (Int.toNat x9_1) (.int (IntKind.wrap .u64 ((AV.fld (.agg o2_1) (Int.toNat (IntKind.wrap .i64 (x9_1 - x7_1)))).toInt * 2 ^ (min (Int.toNat x8_1) 64)))))
  else none
  else none
  else none
  else
    some ⟨[.agg o6_1, .bool true], [], f226_fresh⟩ := by kernel_rfl
noncomputable def f226 (run : Run) (n : Nat) (a0_1 : List AV) (a1_1 : Int) : Option Res := evalK G run n f226_info.keep 0 f226_info.body (retE G f226_info) (f226_info.start [.agg a0_1, .int a1_1])
theorem f226_eq (run : Run) (n : Nat) (a0_1 : List AV) (a1_1 : Int) : f226 run n a0_1 a1_1 =
  bif ltI a1_1 0 then
    some ⟨[.agg [.int 0, .int 0, .int 0, .int 0, .int 0], .bool false], [], f226_fresh⟩
  else
    (run 234 [.agg a0_1]).bind fun r1 =>
    nilV r1.outs (consV r1.vals fun v1 vs1 =>
    nilV vs1 (bif ltI 0 v1.toInt then
    (run 234 [.agg a0_1]).bind fun r2 =>
    nilV r2.outs (consV r2.vals fun v2 vs2 =>
    nilV vs2 (bif ltI (IntKind.wrap .i64 (320 - v2.toInt)) a1_1 then
    some ⟨[.agg [.int 0, .int 0, .int 0, .int 0, .int 0], .bool false], [], f226_fresh⟩
  else
    (run 234 [.agg a0_1]).bind fun r3 =>
    nilV r3.outs (consV r3.vals fun v3 vs3 =>
    nilV vs3 (bif eqI v3.toInt 0 then
    some ⟨[.agg [.int 0, .int 0, .int 0, .int 0, .int 0], .bool true], [], f226_fresh⟩
  else
    f226_l0 run n n (IntKind.wrap .i64 (Int.tdiv a1_1 64)) (IntKind.wrap .u64 (Int.tmod a1_1 64)) (IntKind.wrap .i64 (Int.tdiv a1_1 64)) a0_1 (List.replicate 5 (.int 0)) (List.replicate 5 (.int 0))))))
  else
    (run 234 [.agg a0_1]).bind fun r4 =>
    nilV r4.outs (consV r4.vals fun v4 vs4 =>
    nilV vs4 (bif eqI v4.toInt 0 then
    some ⟨[.agg [.int 0, .int 0, .int 0, .int 0, .int 0], .bool true], [], f226_fresh⟩
  else
    f226_l0 run n n (IntKind.wrap .i64 (Int.tdiv a1_1 64)) (IntKind.wrap .u64 (Int.tmod a1_1 64)) (IntKind.wrap .i64 (Int.tdiv a1_1 64)) a0_1 (List.replicate 5 (.int 0)) (List.replicate 5 (.int 0)))))) := by kernel_rfl
theorem f226_run (ext : Run) (n : Nat) (a0_1 : List AV) (a1_1 : Int) : runE G ext (n + 1) 226 [.agg a0_1, .int a1_1] = f226 (runE G ext n) n a0_1 a1_1 := runE_succ f226_at f226_in

noncomputable def f233_l0 (run : Run) (n : Nat) (k0 : Nat) (x7_1 : Int) (x11_1 : Int) (o2_1 : List AV) (o3_1 : List AV) (o4_1 : List AV) (o6_1 : List AV) : Option Res :=
  iterK (evalK G run n f233_keep 0 (sub [1, 1, 1, 0, 1, 0, 0] f233_body)) f233_t0 f233_o0 (blockK 0 (seqK (evalK G run n f233_keep 0 (sub [1, 1, 1, 1] f233_body) (retE G f233_info)) (retE G f233_info))) k0
    ⟨[.any, .any, .ptr ⟨(.arr 5 (.int .u64)), 2, 1, []⟩, .ptr ⟨(.arr 5 (.int .u64)), 3, 1, []⟩, .ptr ⟨(.arr 5 (.int .u64)), 4, 1, []⟩, .any, .ptr ⟨(.arr 5 (.int .u64)), 6, 1, []⟩, .val (.int .u64) none (.int x7_1), .any, .any, .any, .val (.int .i64) none (.int x11_1), .any, .any, .any, .any, .any, .any, .any, .any, .any, .any, .any, .any, .any, .any, .any, .any, .any, .any, .any, .any, .any, .any, .any, .any, .any, .any, .any, .any, .any, .any, .any, .any, .any, .any, .any, .any, .any, .any, .any], [⟨0, none⟩, ⟨0, none⟩, ⟨1, some ⟨(.arr 5 (.int .u64)), .agg o2_1⟩⟩, ⟨1, some ⟨(.arr 5 (.int .u64)), .agg o3_1⟩⟩, ⟨1, some ⟨(.arr 5 (.int .u64)), .agg o4_1⟩⟩, ⟨0, none⟩, ⟨1, some ⟨(.arr 5 (.int .u64)), .agg o6_1⟩⟩, ⟨0, none⟩, ⟨0, none⟩, ⟨0, none⟩, ⟨0, none⟩, ⟨0, none⟩, ⟨0, none⟩, ⟨0, none⟩, ⟨0, none⟩, ⟨0, none⟩, ⟨0, none⟩, ⟨0, none⟩, ⟨0, none⟩, ⟨0, none⟩, ⟨0, none⟩, ⟨0, none⟩, ⟨0, none⟩, ⟨0, none⟩, ⟨0, none⟩, ⟨0, none⟩, ⟨0, none⟩, ⟨0, none⟩, ⟨0, none⟩, ⟨0, none⟩, ⟨0, none⟩, ⟨0, none⟩, ⟨0, none⟩, ⟨0, none⟩, ⟨0, none⟩, ⟨0, none⟩, ⟨0, none⟩, ⟨0, none⟩, ⟨0, none⟩, ⟨0, none⟩, ⟨0, none⟩, ⟨0, none⟩, ⟨0, none⟩, ⟨0, none⟩, ⟨0, none⟩, ⟨0, none⟩, ⟨0, none⟩, ⟨0, none⟩, ⟨0, none⟩, ⟨0, none⟩, ⟨0, none⟩], List.replicate 51 0⟩
theorem f233_l0_eq (run : Run) (n : Nat) (k0 : Nat) (x7_1 : Int) (x11_1 : Int) (o2_1 : List AV) (o3_1 : List AV) (o4_1 : List AV) (o6_1 : List AV) : f233_l0 run n (k0 + 1) x7_1 x11_1 o2_1 o3_1 o4_1 o6_1 =
  bif ltI x11_1 5 then
    bif inR x11_1 5 then
    bif inR x11_1 5 then
    bif inR x11_1 5 then
    bif inR x11_1 5 then
    bif inR x11_1 5 then
    f233_l0 run n k0 (Int.fdiv (IntKind.wrap .u64 (IntKind.wrap .u64 (Int.fdiv ((AV.fld (.agg o2_1) (Int.toNat x11_1)).toInt) (2 ^ 32) + Int.fdiv ((AV.fld (.agg o3_1) (Int.toNat x11_1)).toInt) (2 ^ 32)) + Int.fdiv (IntKind.wrap .u64 (IntKind.wrap .u64 (IntKind.wrap .u64 (BitVec.toNat (BitVec.ofInt 64 ((AV.fld (.agg o2_1) (Int.toNat x11_1)).toInt) &&& BitVec.ofInt 64 4294967295)) + IntKind.wrap .u64 (BitVec.toNat (BitVec.ofInt 64 ((AV.fld (.agg o3_1) (Int.toNat x11_1)).toInt) &&& BitVec.ofInt 64 4294967295))) + x7_1)) (2 ^ 32))) (2 ^ 32)) (IntKind.wrap .i64 (x11_1 + 1)) o2_1 o3_1 o4_1 (o6_1.set (Int.toNat x11_1) (.int (IntKind.wrap .u64 (BitVec.toNat (BitVec.ofInt 64 (IntKind.wrap .u64 (IntKind.wrap .u64 (IntKind.wrap .u64 (Int.fdiv ((AV.fld (.agg o2_1) (Int.toNat x11_1)).toInt) (2 ^ 32) + Int.fdiv ((AV.fld (.agg o3_1) (Int.toNat x11_1)).toInt) (2 ^ 32)) + Int.fdiv (IntKind.wrap .u64 (IntKind.wrap .u64 (IntKind.wrap .u64 (BitVec.toNat (BitVec.ofInt 64 ((AV.fld (.agg o2_1) (Int.toNat x11_1)).toInt) &&& BitVec.ofInt 64 4294967295)) + IntKind.wrap .u64 (BitVec.toNat (BitVec.ofInt 64 ((AV.fld (.agg o3_1) (Int.toNat x11_1)).toInt) &&& BitVec.ofInt 64 4294967295))) + x7_1)) (2 ^ 32)) * 2 ^ 32)) ||| BitVec.ofInt 64 (IntKind.wrap .u64 (BitVec.toNat (BitVec.ofInt 64 (IntKind.wrap .u64 (IntKind.wrap .u64 (IntKind.wrap .u64 (BitVec.toNat (BitVec.ofInt 64 ((AV.fld (.agg o2_1) (Int.toNat x11_1)).toInt) &&& BitVec.ofInt 64 4294967295)) + IntKind.wrap .u64 (BitVec.toNat (BitVec.ofInt 64 ((AV.fld (.agg o3_1) (Int.toNat x11_1)).toInt) &&& BitVec.ofInt 64 4294967295))) + x7_1)) &&& BitVec.ofInt 64 4294967295))))))))
  else none
  else none
  else none
  else none
  else none
  else
    bif !(eqI x7_1 0) then
    some ⟨[.agg [.int 0, .int 0, .int 0, .int 0, .int 0], .bool false], [], f233_fresh⟩
  else
    some ⟨[.agg o6_1, .bool true], [], f233_fresh⟩ := by kernel_rfl
noncomputable def f233 (run : Run) (n : Nat) (a0_1 : List AV) (a1_1 : List AV) : Option Res := evalK G run n f233_info.keep 0 f233_info.body (retE G f233_info) (f233_info.start [.agg a0_1, .agg a1_1])
theorem f233_eq (run : Run) (n : Nat) (a0_1 : List AV) (a1_1 : List AV) : f233 run n a0_1 a1_1 =
  f233_l0 run n n 0 0 a0_1 a1_1 (List.replicate 5 (.int 0)) (List.replicate 5 (.int 0)) := by kernel_rfl
theorem f233_run (ext : Run) (n : Nat) (a0_1 : List AV) (a1_1 : List AV) : runE G ext (n + 1) 233 [.agg a0_1, .agg a1_1] = f233 (runE G ext n) n a0_1 a1_1 := runE_succ f233_at f233_in

noncomputable def f224 (run : Run) (n : Nat) (a0_1 : List AV) (a1_1 : Int) : Option Res := evalK G run n f224_info.keep 0 f224_info.body (retE G f224_info) (f224_info.start [.agg a0_1, .int a1_1])
theorem f224_eq (run : Run) (n : Nat) (a0_1 : List AV) (a1_1 : Int) : f224 run n a0_1 a1_1 =
  (run 232 [.agg a0_1, .int (IntKind.wrap .u64 (BitVec.toNat (BitVec.ofInt 64 a1_1 &&& BitVec.ofInt 64 4294967295)))]).bind fun r1 =>
    nilV r1.outs (consV r1.vals fun v1 vs1 =>
    consV vs1 fun v2 vs2 =>
    nilV vs2 (bif !v2.toBool then
    some ⟨[.agg [.int 0, .int 0, .int 0, .int 0, .int 0], .bool false], [], f224_fresh⟩
  else
    (run 232 [.agg a0_1, .int (Int.fdiv a1_1 (2 ^ 32))]).bind fun r2 =>
    nilV r2.outs (consV r2.vals fun v3 vs3 =>
    consV vs3 fun v4 vs4 =>
    nilV vs4 (bif !v4.toBool then
    some ⟨[.agg [.int 0, .int 0, .int 0, .int 0, .int 0], .bool false], [], f224_fresh⟩
  else
    (run 226 [.agg v3.toAgg, .int 32]).bind fun r3 =>
    nilV r3.outs (consV r3.vals fun v5 vs5 =>
    consV vs5 fun v6 vs6 =>
    nilV vs6 (bif !v6.toBool then
    some ⟨[.agg [.int 0, .int 0, .int 0, .int 0, .int 0], .bool false], [], f224_fresh⟩
  else
    (run 233 [.agg v1.toAgg, .agg v5.toAgg]).bind fun r4 =>
    nilV r4.outs (consV r4.vals fun v7 vs7 =>
    consV vs7 fun v8 vs8 =>
    nilV vs8 (some ⟨[.agg v7.toAgg, .bool v8.toBool], [], f224_fresh⟩)))))))) := by kernel_rfl
theorem f224_run (ext : Run) (n : Nat) (a0_1 : List AV) (a1_1 : Int) : runE G ext (n + 1) 224 [.agg a0_1, .int a1_1] = f224 (runE G ext n) n a0_1 a1_1 := runE_succ f224_at f224_in

noncomputable def f215 (run : Run) (n : Nat) (a0_1 : Int) (a1_1 : Int) (a2_1 : Int) : Option Res := evalK G run n f215_info.keep 0 f215_info.body (retE G f215_info) (f215_info.start [.int a0_1, .int a1_1, .int a2_1])
theorem f215_eq (run : Run) (n : Nat) (a0_1 : Int) (a1_1 : Int) (a2_1 : Int) : f215 run n a0_1 a1_1 a2_1 =
  (run 225 [.int (IntKind.wrap .u64 a0_1)]).bind fun r1 =>
    nilV r1.outs (consV r1.vals fun v1 vs1 =>
    nilV vs1 ((run 224 [.agg v1.toAgg, .int (IntKind.wrap .u64 a1_1)]).bind fun r2 =>
    nilV r2.outs (consV r2.vals fun v2 vs2 =>
    consV vs2 fun _v3 vs3 =>
    nilV vs3 (bif ltI a2_1 0 then
    some ⟨[.agg [.int 0, .int 0, .int 0, .int 0, .int 0], .bool false], [], f215_fresh⟩
  else
    bif ltI 255 a2_1 then
    some ⟨[.agg [.int 0, .int 0, .int 0, .int 0, .int 0], .bool false], [], f215_fresh⟩
  else
    (run 226 [.agg v2.toAgg, .int a2_1]).bind fun r3 =>
    nilV r3.outs (consV r3.vals fun v4 vs4 =>
    consV vs4 fun v5 vs5 =>
    nilV vs5 (some ⟨[.agg v4.toAgg, .bool v5.toBool], [], f215_fresh⟩)))))) := by kernel_rfl
theorem f215_run (ext : Run) (n : Nat) (a0_1 : Int) (a1_1 : Int) (a2_1 : Int) : runE G ext (n + 1) 215 [.int a0_1, .int a1_1, .int a2_1] = f215 (runE G ext n) n a0_1 a1_1 a2_1 := runE_succ f215_at f215_in

noncomputable def f196 (run : Run) (n : Nat) (a0_1 : Int) (a1_1 : Int) (a2_1 : Int) (a3_1 : Int) (a4_1 : Int) : Option Res := evalK G run n f196_info.keep 0 f196_info.body (retE G f196_info) (f196_info.start [.int a0_1, .int a1_1, .int a2_1, .int a3_1, .int a4_1])
theorem f196_eq (run : Run) (n : Nat) (a0_1 : Int) (a1_1 : Int) (a2_1 : Int) (a3_1 : Int) (a4_1 : Int) : f196 run n a0_1 a1_1 a2_1 a3_1 a4_1 =
  (run 38 [.int a3_1, .int a4_1]).bind fun r1 =>
    nilV r1.outs (consV r1.vals fun v1 vs1 =>
    nilV vs1 (bif !v1.toBool then
    some ⟨[.agg [.int 0, .int 0, .int 0, .int 0, .int 0], .agg [.int 0, .int 0, .int 0, .int 0, .int 0], .bool false], [], f196_fresh⟩
  else
    (run 215 [.int a0_1, .int (IntKind.wrap .u32 a4_1), .int a2_1]).bind fun r2 =>
    nilV r2.outs (consV r2.vals fun v2 vs2 =>
    consV vs2 fun v3 vs3 =>
    nilV vs3 ((run 215 [.int a1_1, .int (IntKind.wrap .u32 (IntKind.wrap .i64 (a4_1 - a3_1))), .int 0]).bind fun r3 =>
    nilV r3.outs (consV r3.vals fun v4 vs4 =>
    consV vs4 fun _v5 vs5 =>
    nilV vs5 (some ⟨[.agg v2.toAgg, .agg v4.toAgg, .bool v3.toBool], [], f196_fresh⟩)))))) := by kernel_rfl
theorem f196_run (ext : Run) (n : Nat) (a0_1 : Int) (a1_1 : Int) (a2_1 : Int) (a3_1 : Int) (a4_1 : Int) : runE G ext (n + 1) 196 [.int a0_1, .int a1_1, .int a2_1, .int a3_1, .int a4_1] = f196 (runE G ext n) n a0_1 a1_1 a2_1 a3_1 a4_1 := runE_succ f196_at f196_in

noncomputable def f197_l0 (run : Run) (n : Nat) (k0 : Nat) (x8_1 : Int) (o2_1 : List AV) (o3_1 : List AV) : Option Res :=
  iterK (evalK G run n f197_keep 0 (sub [1, 0, 1, 0, 0] f197_body)) f197_t0 f197_o0 (blockK 0 (seqK (evalK G run n f197_keep 0 (sub [1, 1] f197_body) (retE G f197_info)) (retE G f197_info))) k0
    ⟨[.any, .any, .ptr ⟨(.arr 5 (.int .u64)), 2, 1, []⟩, .ptr ⟨(.arr 5 (.int .u64)), 3, 1, []⟩, .any, .any, .any, .any, .val (.int .i64) none (.int x8_1), .any, .any, .any, .any, .any, .any, .any, .any, .any, .any, .any, .any, .any, .any, .any, .any, .any], [⟨0, none⟩, ⟨0, none⟩, ⟨1, some ⟨(.arr 5 (.int .u64)), .agg o2_1⟩⟩, ⟨1, some ⟨(.arr 5 (.int .u64)), .agg o3_1⟩⟩, ⟨0, none⟩, ⟨0, none⟩, ⟨0, none⟩, ⟨0, none⟩, ⟨0, none⟩, ⟨0, none⟩, ⟨0, none⟩, ⟨0, none⟩, ⟨0, none⟩, ⟨0, none⟩, ⟨0, none⟩, ⟨0, none⟩, ⟨0, none⟩, ⟨0, none⟩, ⟨0, none⟩, ⟨0, none⟩, ⟨0, none⟩, ⟨0, none⟩, ⟨0, none⟩, ⟨0, none⟩, ⟨0, none⟩, ⟨0, none⟩], List.replicate 26 0⟩
theorem f197_l0_eq (run : Run) (n : Nat) (k0 : Nat) (x8_1 : Int) (o2_1 : List AV) (o3_1 : List AV) : f197_l0 run n (k0 + 1) x8_1 o2_1 o3_1 =
  bif ltI x8_1 5 then
    bif inR (IntKind.wrap .i64 (4 - x8_1)) 5 then
    bif inR (IntKind.wrap .i64 (4 - x8_1)) 5 then
    bif !(eqI ((AV.fld (.agg o2_1) (Int.toNat (IntKind.wrap .i64 (4 - x8_1)))).toInt) ((AV.fld (.agg o3_1) (Int.toNat (IntKind.wrap .i64 (4 - x8_1)))).toInt)) then
    bif ltI ((AV.fld (.agg o2_1) (Int.toNat (IntKind.wrap .i64 (4 - x8_1)))).toInt) ((AV.fld (.agg o3_1) (Int.toNat (IntKind.wrap .i64 (4 - x8_1)))).toInt) then
    some ⟨[.int (-1)], [], f197_fresh⟩
  else
    some ⟨[.int 1], [], f197_fresh⟩
  else
    f197_l0 run n k0 (IntKind.wrap .i64 (x8_1 + 1)) o2_1 o3_1
  else none
  else none
  else
    some ⟨[.int 0], [], f197_fresh⟩ := by kernel_rfl
noncomputable def f197 (run : Run) (n : Nat) (a0_1 : List AV) (a1_1 : List AV) : Option Res := evalK G run n f197_info.keep 0 f197_info.body (retE G f197_info) (f197_info.start [.agg a0_1, .agg a1_1])
theorem f197_eq (run : Run) (n : Nat) (a0_1 : List AV) (a1_1 : List AV) : f197 run n a0_1 a1_1 =
  f197_l0 run n n 0 a0_1 a1_1 := by kernel_rfl
theorem f197_run (ext : Run) (n : Nat) (a0_1 : List AV) (a1_1 : List AV) : runE G ext (n + 1) 197 [.agg a0_1, .agg a1_1] = f197 (runE G ext n) n a0_1 a1_1 := runE_succ f197_at f197_in

noncomputable def f175 (run : Run) (n : Nat) (a0_1 : Int) (a1_1 : Int) (a2_1 : Int) (a3_1 : Int) (a4_1 : Int) : Option Res := evalK G run n f175_info.keep 0 f175_info.body (retE G f175_info) (f175_info.start [.int a0_1, .int a1_1, .int a2_1, .int a3_1, .int a4_1])
theorem f175_eq (run : Run) (n : Nat) (a0_1 : Int) (a1_1 : Int) (a2_1 : Int) (a3_1 : Int) (a4_1 : Int) : f175 run n a0_1 a1_1 a2_1 a3_1 a4_1 =
  (run 196 [.int a0_1, .int a1_1, .int a2_1, .int a3_1, .int a4_1]).bind fun r1 =>
    nilV r1.outs (consV r1.vals fun v1 vs1 =>
    consV vs1 fun v2 vs2 =>
    consV vs2 fun v3 vs3 =>
    nilV vs3 (bif v3.toBool then
    (run 197 [.agg v1.toAgg, .agg v2.toAgg]).bind fun r2 =>
    nilV r2.outs (consV r2.vals fun v4 vs4 =>
    nilV vs4 (some ⟨[.bool (ltI 0 v4.toInt)], [], f175_fresh⟩))
  else
    some ⟨[.bool false], [], f175_fresh⟩)) := by kernel_rfl
theorem f175_run (ext : Run) (n : Nat) (a0_1 : Int) (a1_1 : Int) (a2_1 : Int) (a3_1 : Int) (a4_1 : Int) : runE G ext (n + 1) 175 [.int a0_1, .int a1_1, .int a2_1, .int a3_1, .int a4_1] = f175 (runE G ext n) n a0_1 a1_1 a2_1 a3_1 a4_1 := runE_succ f175_at f175_in

noncomputable def f146 (run : Run) (n : Nat) (a0_1 : Int) (a1_1 : Int) (a2_1 : Int) (a3_1 : Int) (a4_1 : Int) : Option Res := evalK G run n f146_info.keep 0 f146_info.body (retE G f146_info) (f146_info.start [.int a0_1, .int a1_1, .int a2_1, .int a3_1, .int a4_1])
theorem f146_eq (run : Run) (n : Nat) (a0_1 : Int) (a1_1 : Int) (a2_1 : Int) (a3_1 : Int) (a4_1 : Int) : f146 run n a0_1 a1_1 a2_1 a3_1 a4_1 =
  bif leI 0 a0_1 then
    bif leI 0 a1_1 then
    bif leI a0_1 1024 then
    bif leI a1_1 1024 then
    (run 175 [.int (IntKind.wrap .u32 a0_1), .int (IntKind.wrap .u32 a1_1), .int a2_1, .int a3_1, .int a4_1]).bind fun r1 =>
    nilV r1.outs (consV r1.vals fun v1 vs1 =>
    nilV vs1 (some ⟨[.bool v1.toBool], [], f146_fresh⟩))
  else
    some ⟨[.bool false], [], f146_fresh⟩
  else
    some ⟨[.bool false], [], f146_fresh⟩
  else
    some ⟨[.bool false], [], f146_fresh⟩
  else
    some ⟨[.bool false], [], f146_fresh⟩ := by kernel_rfl
theorem f146_run (ext : Run) (n : Nat) (a0_1 : Int) (a1_1 : Int) (a2_1 : Int) (a3_1 : Int) (a4_1 : Int) : runE G ext (n + 1) 146 [.int a0_1, .int a1_1, .int a2_1, .int a3_1, .int a4_1] = f146 (runE G ext n) n a0_1 a1_1 a2_1 a3_1 a4_1 := runE_succ f146_at f146_in

noncomputable def f117_l0 (run : Run) (n : Nat) (k0 : Nat) (x0_1 : List AV) (x1_1 : Int) (x3_1 : Int) (x4_1 : Int) (x11_1 : List AV) (x12_1 : Int) : Option Res :=
  iterK (evalK G run n f117_keep 0 (sub [1, 1, 1, 0, 1, 0, 0] f117_body)) f117_t0 f117_o0 (blockK 0 (seqK (evalK G run n f117_keep 0 (sub [1, 1, 1, 1] f117_body) (retE G f117_info)) (retE G f117_info))) k0
    ⟨[.val (.slice (.int .i64)) none (.slice x0_1), .val (.int .i64) none (.int x1_1), .any, .val (.int .i64) none (.int x3_1), .val (.int .i64) none (.int x4_1), .any, .any, .any, .any, .any, .any, .val (.slice (.int .i64)) (some (11, 0)) (.slice x11_1), .val (.int .i64) none (.int x12_1), .any, .any, .any, .any, .any, .any, .any, .any, .any, .any, .any, .any, .any, .any, .any, .any, .any, .any, .any, .any, .any, .any, .any, .any, .any, .any, .any, .any, .any, .any], [⟨0, none⟩, ⟨0, none⟩, ⟨0, none⟩, ⟨0, none⟩, ⟨0, none⟩, ⟨0, none⟩, ⟨0, none⟩, ⟨0, none⟩, ⟨0, none⟩, ⟨0, none⟩, ⟨0, none⟩, ⟨0, none⟩, ⟨0, none⟩, ⟨0, none⟩, ⟨0, none⟩, ⟨0, none⟩, ⟨0, none⟩, ⟨0, none⟩, ⟨0, none⟩, ⟨0, none⟩, ⟨0, none⟩, ⟨0, none⟩, ⟨0, none⟩, ⟨0, none⟩, ⟨0, none⟩, ⟨0, none⟩, ⟨0, none⟩, ⟨0, none⟩, ⟨0, none⟩, ⟨0, none⟩, ⟨0, none⟩, ⟨0, none⟩, ⟨0, none⟩, ⟨0, none⟩, ⟨0, none⟩, ⟨0, none⟩, ⟨0, none⟩, ⟨0, none⟩, ⟨0, none⟩, ⟨0, none⟩, ⟨0, none⟩, ⟨0, none⟩, ⟨0, none⟩], List.replicate 43 0⟩
theorem f117_l0_eq (run : Run) (n : Nat) (k0 : Nat) (x0_1 : List AV) (x1_1 : Int) (x3_1 : Int) (x4_1 : Int) (x11_1 : List AV) (x12_1 : Int) : f117_l0 run n (k0 + 1) x0_1 x1_1 x3_1 x4_1 x11_1 x12_1 =
  bif leI x12_1 (x11_1.length : Int) then
    bif inR (IntKind.wrap .i64 ((x11_1.length : Int) - x12_1)) x11_1.length then
    (run 146 [.int x12_1, .int (IntKind.wrap .i64 ((x0_1.length : Int) - (nth x11_1 (Int.toNat (IntKind.wrap .i64 ((x11_1.length : Int) - x12_1)))).toInt)), .int x1_1, .int x3_1, .int x4_1]).bind fun r2 =>
    nilV r2.outs (consV r2.vals fun v2 vs2 =>
    nilV vs2 (bif !v2.toBool then
    some ⟨[.bool false], [], f117_fresh⟩
  else
    f117_l0 run n k0 x0_1 x1_1 x3_1 x4_1 x11_1 (IntKind.wrap .i64 (x12_1 + 1))))
  else none
  else
    some ⟨[.bool true], [], f117_fresh⟩ := by kernel_rfl
noncomputable def f117 (run : Run) (n : Nat) (a0_1 : List AV) (a1_1 : Int) (a2_1 : Int) (a3_1 : Int) (a4_1 : Int) : Option Res := evalK G run n f117_info.keep 0 f117_info.body (retE G f117_info) (f117_info.start [.slice a0_1, .int a1_1, .int a2_1, .int a3_1, .int a4_1])
theorem f117_eq (run : Run) (n : Nat) (a0_1 : List AV) (a1_1 : Int) (a2_1 : Int) (a3_1 : Int) (a4_1 : Int) : f117 run n a0_1 a1_1 a2_1 a3_1 a4_1 =
  (run 46 [.slice a0_1, .int 0, .int a1_1]).bind fun r1 =>
    bif r1.fresh then
    nilV r1.outs (consV r1.vals fun v1 vs1 =>
    nilV vs1 (bif ltI 1024 (a0_1.length : Int) then
    some ⟨[.bool false], [], f117_fresh⟩
  else
    f117_l0 run n n a0_1 a1_1 a3_1 a4_1 v1.toSlice (mx2 a2_1 1)))
  else none := by kernel_rfl
theorem f117_run (ext : Run) (n : Nat) (a0_1 : List AV) (a1_1 : Int) (a2_1 : Int) (a3_1 : Int) (a4_1 : Int) : runE G ext (n + 1) 117 [.slice a0_1, .int a1_1, .int a2_1, .int a3_1, .int a4_1] = f117 (runE G ext n) n a0_1 a1_1 a2_1 a3_1 a4_1 := runE_succ f117_at f117_in

noncomputable def f147_l0 (run : Run) (n : Nat) (k0 : Nat) (x1_1 : Int) (m1 : Nat) (x12_1 : List AV) (x13_1 : Int) (x14_1 : Int) (o11_1 : List AV) : Option Res :=
  iterK (evalK G run n f147_keep 0 (sub [1, 1, 0, 1, 0, 0] f147_body)) f147_t0 f147_o0 (blockK 0 (seqK (evalK G run n f147_keep 0 (sub [1, 1, 1] f147_body) (retE G f147_info)) (retE G f147_info))) k0
    ⟨[.any, .val (.int .i64) none (.int x1_1), .any, .any, .any, .ref ⟨(.arr m1 (.int .i64)), 11, 1, []⟩ 0 m1, .any, .any, .any, .any, .any, .any, .val (.slice (.int .i64)) none (.slice x12_1), .val (.int .i64) none (.int x13_1), .val (.int .i64) none (.int x14_1), .any, .any, .any, .any, .any, .any, .any, .any, .any, .any, .any, .any, .any, .any, .any, .any, .any, .any, .any, .any, .any, .any, .any, .any], [⟨0, none⟩, ⟨0, none⟩, ⟨0, none⟩, ⟨0, none⟩, ⟨0, none⟩, ⟨0, none⟩, ⟨0, none⟩, ⟨0, none⟩, ⟨0, none⟩, ⟨0, none⟩, ⟨0, none⟩, ⟨1, some ⟨(.arr m1 (.int .i64)), .agg o11_1⟩⟩, ⟨0, none⟩, ⟨0, none⟩, ⟨0, none⟩, ⟨0, none⟩, ⟨0, none⟩, ⟨0, none⟩, ⟨0, none⟩, ⟨0, none⟩, ⟨0, none⟩, ⟨0, none⟩, ⟨0, none⟩, ⟨0, none⟩, ⟨0, none⟩, ⟨0, none⟩, ⟨0, none⟩, ⟨0, none⟩, ⟨0, none⟩, ⟨0, none⟩, ⟨0, none⟩, ⟨0, none⟩, ⟨0, none⟩, ⟨0, none⟩, ⟨0, none⟩, ⟨0, none⟩, ⟨0, none⟩, ⟨0, none⟩, ⟨0, none⟩], List.replicate 39 0⟩
theorem f147_l0_eq (run : Run) (n : Nat) (k0 : Nat) (x1_1 : Int) (m1 : Nat) (x12_1 : List AV) (x13_1 : Int) (x14_1 : Int) (o11_1 : List AV) : f147_l0 run n (k0 + 1) x1_1 m1 x12_1 x13_1 x14_1 o11_1 =
  bif ltI x14_1 x13_1 then
    bif inR x14_1 x12_1.length then
    bif inR x14_1 m1 then
    bif inR (IntKind.wrap .i64 (x14_1 + 1)) m1 then
    bif leI x1_1 ((nth x12_1 (Int.toNat x14_1)).toInt) then
    bif inR (IntKind.wrap .i64 (x14_1 + 1)) m1 then
    bif inR (IntKind.wrap .i64 (x14_1 + 1)) m1 then
    f147_l0 run n k0 x1_1 m1 x12_1 x13_1 (IntKind.wrap .i64 (x14_1 + 1)) ((o11_1.set (0 + (Int.toNat (IntKind.wrap .i64 (x14_1 + 1)))) (.int ((AV.fld (.agg o11_1) (0 + (Int.toNat x14_1))).toInt))).set (0 + (Int.toNat (IntKind.wrap .i64 (x14_1 + 1)))) (.int (IntKind.wrap .i64 ((AV.fld (.agg (o11_1.set (0 + (Int.toNat (IntKind.wrap .i64 (x14_1 + 1)))) (.int ((AV.fld (.agg o11_1) (0 + (Int.toNat x14_1))).toInt)))) (0 + (Int.toNat (IntKind.wrap .i64 (x14_1 + 1))))).toInt + 1))))
  else none
  else none
  else
    f147_l0 run n k0 x1_1 m1 x12_1 x13_1 (IntKind.wrap .i64 (x14_1 + 1)) (o11_1.set (0 + (Int.toNat (IntKind.wrap .i64 (x14_1 + 1)))) (.int ((AV.fld (.agg o11_1) (0 + (Int.toNat x14_1))).toInt)))
  else none
  else none
  else none
  else
    some ⟨[.slice (List.drop 0 (List.take m1 o11_1))], [], f147_fresh⟩ := by kernel_rfl
noncomputable def f147 (run : Run) (n : Nat) (a0_1 : List AV) (a1_1 : Int) : Option Res := evalK G run n f147_info.keep 0 f147_info.body (retE G f147_info) (f147_info.start [.slice a0_1, .int a1_1])
theorem f147_eq (run : Run) (n : Nat) (a0_1 : List AV) (a1_1 : Int) : f147 run n a0_1 a1_1 =
  bif eqI (IntKind.wrap .i64 ((a0_1.length : Int) + 1)) (IntKind.wrap .i64 ((a0_1.length : Int) + 1)) && leI 0 (IntKind.wrap .i64 ((a0_1.length : Int) + 1)) && Nat.ble (Int.toNat (IntKind.wrap .i64 ((a0_1.length : Int) + 1)) * 8) 140737488355328 then
    f147_l0 run n n a1_1 (Int.toNat (IntKind.wrap .i64 ((a0_1.length : Int) + 1))) a0_1 (a0_1.length : Int) 0 (List.replicate (Int.toNat (IntKind.wrap .i64 ((a0_1.length : Int) + 1))) (.int 0))
  else none := by kernel_rfl
theorem f147_run (ext : Run) (n : Nat) (a0_1 : List AV) (a1_1 : Int) : runE G ext (n + 1) 147 [.slice a0_1, .int a1_1] = f147 (runE G ext n) n a0_1 a1_1 := runE_succ f147_at f147_in

noncomputable def f176 (run : Run) (n : Nat) (a0_1 : Int) (a1_1 : Int) (a2_1 : Int) (a3_1 : Int) (a4_1 : Int) : Option Res := evalK G run n f176_info.keep 0 f176_info.body (retE G f176_info) (f176_info.start [.int a0_1, .int a1_1, .int a2_1, .int a3_1, .int a4_1])
theorem f176_eq (run : Run) (n : Nat) (a0_1 : Int) (a1_1 : Int) (a2_1 : Int) (a3_1 : Int) (a4_1 : Int) : f176 run n a0_1 a1_1 a2_1 a3_1 a4_1 =
  (run 196 [.int a0_1, .int a1_1, .int a2_1, .int a3_1, .int a4_1]).bind fun r1 =>
    nilV r1.outs (consV r1.vals fun v1 vs1 =>
    consV vs1 fun v2 vs2 =>
    consV vs2 fun v3 vs3 =>
    nilV vs3 (bif v3.toBool then
    (run 197 [.agg v1.toAgg, .agg v2.toAgg]).bind fun r2 =>
    nilV r2.outs (consV r2.vals fun v4 vs4 =>
    nilV vs4 (some ⟨[.bool (leI 0 v4.toInt)], [], f176_fresh⟩))
  else
    some ⟨[.bool false], [], f176_fresh⟩)) := by kernel_rfl
theorem f176_run (ext : Run) (n : Nat) (a0_1 : Int) (a1_1 : Int) (a2_1 : Int) (a3_1 : Int) (a4_1 : Int) : runE G ext (n + 1) 176 [.int a0_1, .int a1_1, .int a2_1, .int a3_1, .int a4_1] = f176 (runE G ext n) n a0_1 a1_1 a2_1 a3_1 a4_1 := runE_succ f176_at f176_in

noncomputable def f148_l2 (run : Run) (n : Nat) (k0 : Nat) (k2 : Nat) (x0_2 : List AV) (x1_2 : List AV) (x2_2 : Int) (x3_2 : Int) (x4_2 : Int) (x5_2 : Int) (x13_1 : Int) (x14_1 : Int) (x18_2 : Int) (x19_2 : Int) : Option Res :=
  iterK (evalK G run n f148_keep 2 (sub [1, 0, 1, 0, 0, 1, 1, 0, 0, 1, 1, 0, 0] f148_body)) f148_t2 f148_o2 (blockK 2 (blockK 1 (seqK (evalK G run n f148_keep 0 (sub [1, 0, 1, 0, 0, 1, 1, 1] f148_body) (seqK (fun t => iterK (evalK G run n f148_keep 0 (sub [1, 0, 1, 0, 0] f148_body)) f148_t0 f148_o0 (blockK 0 (seqK (evalK G run n f148_keep 0 (sub [1, 1] f148_body) (retE G f148_info)) (retE G f148_info))) k0 (t.clear f148_t0 f148_o0)) (blockK 0 (seqK (evalK G run n f148_keep 0 (sub [1, 1] f148_body) (retE G f148_info)) (retE G f148_info))))) (seqK (fun t => iterK (evalK G run n f148_keep 0 (sub [1, 0, 1, 0, 0] f148_body)) f148_t0 f148_o0 (blockK 0 (seqK (evalK G run n f148_keep 0 (sub [1, 1] f148_body) (retE G f148_info)) (retE G f148_info))) k0 (t.clear f148_t0 f148_o0)) (blockK 0 (seqK (evalK G run n f148_keep 0 (sub [1, 1] f148_body) (retE G f148_info)) (retE G f148_info))))))) k2
    ⟨[.val (.slice (.int .i64)) none (.slice x0_2), .val (.slice (.int .i64)) none (.slice x1_2), .val (.int .i64) none (.int x2_2), .val (.int .i64) none (.int x3_2), .val (.int .i64) none (.int x4_2), .val (.int .i64) none (.int x5_2), .any, .any, .any, .any, .any, .any, .any, .val (.int .i64) none (.int x13_1), .val (.int .i64) none (.int x14_1), .any, .any, .any, .val (.int .i64) none (.int x18_2), .val (.int .i64) none (.int x19_2), .any, .any, .any, .any, .any, .any, .any, .any, .any, .any, .any, .any, .any, .any, .any, .any, .any, .any, .any, .any, .any, .any, .any, .any, .any, .any, .any, .any, .any, .any, .any, .any, .any, .any, .any, .any, .any, .any, .any, .any, .any, .any, .any], [⟨0, none⟩, ⟨0, none⟩, ⟨0, none⟩, ⟨0, none⟩, ⟨0, none⟩, ⟨0, none⟩, ⟨0, none⟩, ⟨0, none⟩, ⟨0, none⟩, ⟨0, none⟩, ⟨0, none⟩, ⟨0, none⟩, ⟨0, none⟩, ⟨0, none⟩, ⟨0, none⟩, ⟨0, none⟩, ⟨0, none⟩, ⟨0, none⟩, ⟨0, none⟩, ⟨0, none⟩, ⟨0, none⟩, ⟨0, none⟩, ⟨0, none⟩, ⟨0, none⟩, ⟨0, none⟩, ⟨0, none⟩, ⟨0, none⟩, ⟨0, none⟩, ⟨0, none⟩, ⟨0, none⟩, ⟨0, none⟩, ⟨0, none⟩, ⟨0, none⟩, ⟨0, none⟩, ⟨0, none⟩, ⟨0, none⟩, ⟨0, none⟩, ⟨0, none⟩, ⟨0, none⟩, ⟨0, none⟩, ⟨0, none⟩, ⟨0, none⟩, ⟨0, none⟩, ⟨0, none⟩, ⟨0, none⟩, ⟨0, none⟩, ⟨0, none⟩, ⟨0, none⟩, ⟨0, none⟩, ⟨0, none⟩, ⟨0, none⟩, ⟨0, none⟩, ⟨0, none⟩, ⟨0, none⟩, ⟨0, none⟩, ⟨0, none⟩, ⟨0, none⟩, ⟨0, none⟩, ⟨0, none⟩, ⟨0, none⟩, ⟨0, none⟩, ⟨0, none⟩, ⟨0, none⟩], List.replicate 63 0⟩
noncomputable def f148_l0 (run : Run) (n : Nat) (k0 : Nat) (x0_1 : List AV) (x1_1 : List AV) (x2_1 : Int) (x3_1 : Int) (x4_1 : Int) (x5_1 : Int) (x18_1 : Int) (x19_1 : Int) : Option Res :=
  iterK (evalK G run n f148_keep 0 (sub [1, 0, 1, 0, 0] f148_body)) f148_t0 f148_o0 (blockK 0 (seqK (evalK G run n f148_keep 0 (sub [1, 1] f148_body) (retE G f148_info)) (retE G f148_info))) k0
    ⟨[.val (.slice (.int .i64)) none (.slice x0_1), .val (.slice (.int .i64)) none (.slice x1_1), .val (.int .i64) none (.int x2_1), .val (.int .i64) none (.int x3_1), .val (.int .i64) none (.int x4_1), .val (.int .i64) none (.int x5_1), .any, .any, .any, .any, .any, .any, .any, .any, .any, .any, .any, .any, .val (.int .i64) none (.int x18_1), .val (.int .i64) none (.int x19_1), .any, .any, .any, .any, .any, .any, .any, .any, .any, .any, .any, .any, .any, .any, .any, .any, .any, .any, .any, .any, .any, .any, .any, .any, .any, .any, .any, .any, .any, .any, .any, .any, .any, .any, .any, .any, .any, .any, .any, .any, .any, .any, .any], [⟨0, none⟩, ⟨0, none⟩, ⟨0, none⟩, ⟨0, none⟩, ⟨0, none⟩, ⟨0, none⟩, ⟨0, none⟩, ⟨0, none⟩, ⟨0, none⟩, ⟨0, none⟩, ⟨0, none⟩, ⟨0, none⟩, ⟨0, none⟩, ⟨0, none⟩, ⟨0, none⟩, ⟨0, none⟩, ⟨0, none⟩, ⟨0, none⟩, ⟨0, none⟩, ⟨0, none⟩, ⟨0, none⟩, ⟨0, none⟩, ⟨0, none⟩, ⟨0, none⟩, ⟨0, none⟩, ⟨0, none⟩, ⟨0, none⟩, ⟨0, none⟩, ⟨0, none⟩, ⟨0, none⟩, ⟨0, none⟩, ⟨0, none⟩, ⟨0, none⟩, ⟨0, none⟩, ⟨0, none⟩, ⟨0, none⟩, ⟨0, none⟩, ⟨0, none⟩, ⟨0, none⟩, ⟨0, none⟩, ⟨0, none⟩, ⟨0, none⟩, ⟨0, none⟩, ⟨0, none⟩, ⟨0, none⟩, ⟨0, none⟩, ⟨0, none⟩, ⟨0, none⟩, ⟨0, none⟩, ⟨0, none⟩, ⟨0, none⟩, ⟨0, none⟩, ⟨0, none⟩, ⟨0, none⟩, ⟨0, none⟩, ⟨0, none⟩, ⟨0, none⟩, ⟨0, none⟩, ⟨0, none⟩, ⟨0, none⟩, ⟨0, none⟩, ⟨0, none⟩, ⟨0, none⟩], List.replicate 63 0⟩
theorem f148_l2_eq (run : Run) (n : Nat) (k0 : Nat) (k2 : Nat) (x0_2 : List AV) (x1_2 : List AV) (x2_2 : Int) (x3_2 : Int) (x4_2 : Int) (x5_2 : Int) (x13_1 : Int) (x14_1 : Int) (x18_2 : Int) (x19_2 : Int) : f148_l2 run n k0 (k2 + 1) x0_2 x1_2 x2_2 x3_2 x4_2 x5_2 x13_1 x14_1 x18_2 x19_2 =
  bif ltI x14_1 (x1_2.length : Int) then
    bif inR x14_1 x0_2.length then
    bif inR x13_1 x0_2.length then
    bif inR x14_1 x1_2.length then
    bif inR x13_1 x1_2.length then
    bif leI x3_2 (IntKind.wrap .i64 ((nth x1_2 (Int.toNat x14_1)).toInt - (nth x1_2 (Int.toNat x13_1)).toInt)) then
    (run 176 [.int (IntKind.wrap .u32 (IntKind.wrap .i64 ((nth x0_2 (Int.toNat x14_1)).toInt - (nth x0_2 (Int.toNat x13_1)).toInt))), .int (IntKind.wrap .u32 (IntKind.wrap .i64 ((nth x1_2 (Int.toNat x14_1)).toInt - (nth x1_2 (Int.toNat x13_1)).toInt))), .int x2_2, .int x4_2, .int x5_2]).bind fun r1 =>
    nilV r1.outs (consV r1.vals fun v1 vs1 =>
    nilV vs1 (bif !v1.toBool then
    some ⟨[.bool false], [], f148_fresh⟩
  else
    f148_l2 run n k0 k2 x0_2 x1_2 x2_2 x3_2 x4_2 x5_2 x13_1 (IntKind.wrap .i64 (x14_1 + 1)) x18_2 x19_2))
  else
    f148_l2 run n k0 k2 x0_2 x1_2 x2_2 x3_2 x4_2 x5_2 x13_1 (IntKind.wrap .i64 (x14_1 + 1)) x18_2 x19_2
  else none
  else none
  else none
  else none
  else
    f148_l0 run n k0 x0_2 x1_2 x2_2 x3_2 x4_2 x5_2 x18_2 (IntKind.wrap .i64 (x19_2 + 1)) := by kernel_rfl
theorem f148_l0_eq (run : Run) (n : Nat) (k0 : Nat) (x0_1 : List AV) (x1_1 : List AV) (x2_1 : Int) (x3_1 : Int) (x4_1 : Int) (x5_1 : Int) (x18_1 : Int) (x19_1 : Int) : f148_l0 run n (k0 + 1) x0_1 x1_1 x2_1 x3_1 x4_1 x5_1 x18_1 x19_1 =
  bif ltI x19_1 x18_1 then
    f148_l2 run n k0 n x0_1 x1_1 x2_1 x3_1 x4_1 x5_1 x19_1 (IntKind.wrap .i64 (x19_1 + 1)) x18_1 x19_1
  else
    some ⟨[.bool true], [], f148_fresh⟩ := by kernel_rfl
noncomputable def f148 (run : Run) (n : Nat) (a0_1 : List AV) (a1_1 : List AV) (a2_1 : Int) (a3_1 : Int) (a4_1 : Int) (a5_1 : Int) : Option Res := evalK G run n f148_info.keep 0 f148_info.body (retE G f148_info) (f148_info.start [.slice a0_1, .slice a1_1, .int a2_1, .int a3_1, .int a4_1, .int a5_1])
theorem f148_eq (run : Run) (n : Nat) (a0_1 : List AV) (a1_1 : List AV) (a2_1 : Int) (a3_1 : Int) (a4_1 : Int) (a5_1 : Int) : f148 run n a0_1 a1_1 a2_1 a3_1 a4_1 a5_1 =
  f148_l0 run n n a0_1 a1_1 a2_1 a3_1 a4_1 a5_1 (a1_1.length : Int) 0 := by kernel_rfl
theorem f148_run (ext : Run) (n : Nat) (a0_1 : List AV) (a1_1 : List AV) (a2_1 : Int) (a3_1 : Int) (a4_1 : Int) (a5_1 : Int) : runE G ext (n + 1) 148 [.slice a0_1, .slice a1_1, .int a2_1, .int a3_1, .int a4_1, .int a5_1] = f148 (runE G ext n) n a0_1 a1_1 a2_1 a3_1 a4_1 a5_1 := runE_succ f148_at f148_in

noncomputable def f118_l0 (run : Run) (n : Nat) (k0 : Nat) (x0_1 : List AV) (x1_1 : Int) (x2_1 : Int) (x3_1 : Int) (x4_1 : Int) (x11_1 : List AV) (x24_1 : Int) (x25_1 : Int) : Option Res :=
  iterK (evalK G run n f118_keep 0 (sub [1, 1, 1, 0, 1, 0, 0] f118_body)) f118_t0 f118_o0 (blockK 0 (seqK (evalK G run n f118_keep 0 (sub [1, 1, 1, 1] f118_body) (retE G f118_info)) (retE G f118_info))) k0
    ⟨[.val (.slice (.int .i64)) none (.slice x0_1), .val (.int .i64) none (.int x1_1), .val (.int .i64) none (.int x2_1), .val (.int .i64) none (.int x3_1), .val (.int .i64) none (.int x4_1), .any, .any, .any, .any, .any, .any, .val (.slice (.int .i64)) none (.slice x11_1), .any, .any, .any, .any, .any, .any, .any, .any, .any, .any, .any, .any, .val (.int .i64) none (.int x24_1), .val (.int .i64) none (.int x25_1), .any, .any, .any, .any, .any, .any, .any, .any, .any, .any, .any, .any, .any, .any, .any, .any], [⟨0, none⟩, ⟨0, none⟩, ⟨0, none⟩, ⟨0, none⟩, ⟨0, none⟩, ⟨0, none⟩, ⟨0, none⟩, ⟨0, none⟩, ⟨0, none⟩, ⟨0, none⟩, ⟨0, none⟩, ⟨0, none⟩, ⟨0, none⟩, ⟨0, none⟩, ⟨0, none⟩, ⟨0, none⟩, ⟨0, none⟩, ⟨0, none⟩, ⟨0, none⟩, ⟨0, none⟩, ⟨0, none⟩, ⟨0, none⟩, ⟨0, none⟩, ⟨0, none⟩, ⟨0, none⟩, ⟨0, none⟩, ⟨0, none⟩, ⟨0, none⟩, ⟨0, none⟩, ⟨0, none⟩, ⟨0, none⟩, ⟨0, none⟩, ⟨0, none⟩, ⟨0, none⟩, ⟨0, none⟩, ⟨0, none⟩, ⟨0, none⟩, ⟨0, none⟩, ⟨0, none⟩, ⟨0, none⟩, ⟨0, none⟩, ⟨0, none⟩], List.replicate 42 0⟩
theorem f118_l0_eq (run : Run) (n : Nat) (k0 : Nat) (x0_1 : List AV) (x1_1 : Int) (x2_1 : Int) (x3_1 : Int) (x4_1 : Int) (x11_1 : List AV) (x24_1 : Int) (x25_1 : Int) : f118_l0 run n (k0 + 1) x0_1 x1_1 x2_1 x3_1 x4_1 x11_1 x24_1 x25_1 =
  bif ltI x25_1 x24_1 then
    (run 147 [.slice x0_1, .int x25_1]).bind fun r2 =>
    nilV r2.outs (consV r2.vals fun v2 vs2 =>
    nilV vs2 ((run 148 [.slice x11_1, .slice v2.toSlice, .int (IntKind.wrap .i64 (x1_1 - x25_1)), .int (mx2 x2_1 1), .int x3_1, .int x4_1]).bind fun r3 =>
    nilV r3.outs (consV r3.vals fun v3 vs3 =>
    nilV vs3 (bif !v3.toBool then
    some ⟨[.bool false], [], f118_fresh⟩
  else
    f118_l0 run n k0 x0_1 x1_1 x2_1 x3_1 x4_1 x11_1 x24_1 (IntKind.wrap .i64 (x25_1 + 1))))))
  else
    some ⟨[.bool true], [], f118_fresh⟩ := by kernel_rfl
noncomputable def f118 (run : Run) (n : Nat) (a0_1 : List AV) (a1_1 : Int) (a2_1 : Int) (a3_1 : Int) (a4_1 : Int) : Option Res := evalK G run n f118_info.keep 0 f118_info.body (retE G f118_info) (f118_info.start [.slice a0_1, .int a1_1, .int a2_1, .int a3_1, .int a4_1])
theorem f118_eq (run : Run) (n : Nat) (a0_1 : List AV) (a1_1 : Int) (a2_1 : Int) (a3_1 : Int) (a4_1 : Int) : f118 run n a0_1 a1_1 a2_1 a3_1 a4_1 =
  bif ltI 1024 (a0_1.length : Int) then
    some ⟨[.bool false], [], f118_fresh⟩
  else
    bif ltI 255 a1_1 then
    some ⟨[.bool false], [], f118_fresh⟩
  else
    (run 147 [.slice a0_1, .int a1_1]).bind fun r1 =>
    nilV r1.outs (consV r1.vals fun v1 vs1 =>
    nilV vs1 (f118_l0 run n n a0_1 a1_1 a2_1 a3_1 a4_1 v1.toSlice (mx2 a1_1 0) 0)) := by kernel_rfl
theorem f118_run (ext : Run) (n : Nat) (a0_1 : List AV) (a1_1 : Int) (a2_1 : Int) (a3_1 : Int) (a4_1 : Int) : runE G ext (n + 1) 118 [.slice a0_1, .int a1_1, .int a2_1, .int a3_1, .int a4_1] = f118 (runE G ext n) n a0_1 a1_1 a2_1 a3_1 a4_1 := runE_succ f118_at f118_in

noncomputable def f81 (run : Run) (n : Nat) (a0_1 : List AV) (a1_1 : Int) (a2_1 : Int) (a3_1 : Int) (a4_1 : Int) : Option Res := evalK G run n f81_info.keep 0 f81_info.body (retE G f81_info) (f81_info.start [.slice a0_1, .int a1_1, .int a2_1, .int a3_1, .int a4_1])
theorem f81_eq (run : Run) (n : Nat) (a0_1 : List AV) (a1_1 : Int) (a2_1 : Int) (a3_1 : Int) (a4_1 : Int) : f81 run n a0_1 a1_1 a2_1 a3_1 a4_1 =
  (run 117 [.slice a0_1, .int a1_1, .int a2_1, .int a3_1, .int a4_1]).bind fun r1 =>
    nilV r1.outs (consV r1.vals fun v1 vs1 =>
    nilV vs1 (bif v1.toBool then
    (run 118 [.slice a0_1, .int a1_1, .int a2_1, .int a3_1, .int a4_1]).bind fun r2 =>
    nilV r2.outs (consV r2.vals fun v2 vs2 =>
    nilV vs2 (some ⟨[.bool v2.toBool], [], f81_fresh⟩))
  else
    some ⟨[.bool false], [], f81_fresh⟩)) := by kernel_rfl
theorem f81_run (ext : Run) (n : Nat) (a0_1 : List AV) (a1_1 : Int) (a2_1 : Int) (a3_1 : Int) (a4_1 : Int) : runE G ext (n + 1) 81 [.slice a0_1, .int a1_1, .int a2_1, .int a3_1, .int a4_1] = f81 (runE G ext n) n a0_1 a1_1 a2_1 a3_1 a4_1 := runE_succ f81_at f81_in

noncomputable def f47 (run : Run) (n : Nat) (a0_1 : List AV) (a1_1 : Int) (a2_1 : Int) (a3_1 : Int) (a4_1 : Int) (a5_1 : Int) : Option Res := evalK G run n f47_info.keep 0 f47_info.body (retE G f47_info) (f47_info.start [.slice a0_1, .int a1_1, .int a2_1, .int a3_1, .int a4_1, .int a5_1])
theorem f47_eq (run : Run) (n : Nat) (a0_1 : List AV) (a1_1 : Int) (a2_1 : Int) (a3_1 : Int) (a4_1 : Int) (a5_1 : Int) : f47 run n a0_1 a1_1 a2_1 a3_1 a4_1 a5_1 =
  (run 46 [.slice a0_1, .int a1_1, .int a2_1]).bind fun r1 =>
    bif r1.fresh then
    nilV r1.outs (consV r1.vals fun v1 vs1 =>
    nilV vs1 (bif ltI a3_1 1 then
    some ⟨[.int a1_1], [], f47_fresh⟩
  else
    bif leI (v1.toSlice.length : Int) a3_1 then
    some ⟨[.int a1_1], [], f47_fresh⟩
  else
    bif ltI a1_1 0 then
    some ⟨[.int a1_1], [], f47_fresh⟩
  else
    bif boundsOk a1_1 (a0_1.length : Int) (a0_1.length : Int) (a0_1.length : Int) && true then
    (run 81 [.slice (List.drop (Int.toNat a1_1) (List.take (Int.toNat (a0_1.length : Int)) a0_1)), .int a2_1, .int a3_1, .int a4_1, .int a5_1]).bind fun r2 =>
    nilV r2.outs (consV r2.vals fun v2 vs2 =>
    nilV vs2 (bif !v2.toBool then
    some ⟨[.int a1_1], [], f47_fresh⟩
  else
    bif inR (IntKind.wrap .i64 ((v1.toSlice.length : Int) - a3_1)) v1.toSlice.length then
    some ⟨[.int ((nth v1.toSlice (Int.toNat (IntKind.wrap .i64 ((v1.toSlice.length : Int) - a3_1)))).toInt)], [], f47_fresh⟩
  else none))
  else none))
  else none := by kernel_rfl
theorem f47_run (ext : Run) (n : Nat) (a0_1 : List AV) (a1_1 : Int) (a2_1 : Int) (a3_1 : Int) (a4_1 : Int) (a5_1 : Int) : runE G ext (n + 1) 47 [.slice a0_1, .int a1_1, .int a2_1, .int a3_1, .int a4_1, .int a5_1] = f47 (runE G ext n) n a0_1 a1_1 a2_1 a3_1 a4_1 a5_1 := runE_succ f47_at f47_in

noncomputable def f14_l2 (run : Run) (n : Nat) (k0 : Nat) (k2 : Nat) (x1_2 : Int) (x3_2 : Int) (x4_2 : Int) (x11_2 : List AV) (m2 : Nat) (x13_2 : Int) (x14_2 : Int) (x55_1 : List AV) (x56_1 : Int) (x57_1 : Int) (o45_2 : List AV) : Option Res :=
  iterK (evalK G run n f14_keep 2 (sub [1, 1, 1, 1, 1, 0, 1, 0, 0, 1, 0, 0, 0, 1, 0, 0] f14_body)) f14_t2 f14_o2 (blockK 2 (seqK (evalK G run n f14_keep 1 (sub [1, 1, 1, 1, 1, 0, 1, 0, 0, 1, 0, 0, 1] f14_body) (blockK 1 (seqK (evalK G run n f14_keep 0 (sub [1, 1, 1, 1, 1, 0, 1, 0, 0, 1, 1] f14_body) (seqK (fun t => iterK (evalK G run n f14_keep 0 (sub [1, 1, 1, 1, 1, 0, 1, 0, 0] f14_body)) f14_t0 f14_o0 (blockK 0 (seqK (evalK G run n f14_keep 0 (sub [1, 1, 1, 1, 1, 1] f14_body) (retE G f14_info)) (retE G f14_info))) k0 (t.clear f14_t0 f14_o0)) (blockK 0 (seqK (evalK G run n f14_keep 0 (sub [1, 1, 1, 1, 1, 1] f14_body) (retE G f14_info)) (retE G f14_info))))) (seqK (fun t => iterK (evalK G run n f14_keep 0 (sub [1, 1, 1, 1, 1, 0, 1, 0, 0] f14_body)) f14_t0 f14_o0 (blockK 0 (seqK (evalK G run n f14_keep 0 (sub [1, 1, 1, 1, 1, 1] f14_body) (retE G f14_info)) (retE G f14_info))) k0 (t.clear f14_t0 f14_o0)) (blockK 0 (seqK (evalK G run n f14_keep 0 (sub [1, 1, 1, 1, 1, 1] f14_body) (retE G f14_info)) (retE G f14_info))))))) (blockK 1 (seqK (evalK G run n f14_keep 0 (sub [1, 1, 1, 1, 1, 0, 1, 0, 0, 1, 1] f14_body) (seqK (fun t => iterK (evalK G run n f14_keep 0 (sub [1, 1, 1, 1, 1, 0, 1, 0, 0] f14_body)) f14_t0 f14_o0 (blockK 0 (seqK (evalK G run n f14_keep 0 (sub [1, 1, 1, 1, 1, 1] f14_body) (retE G f14_info)) (retE G f14_info))) k0 (t.clear f14_t0 f14_o0)) (blockK 0 (seqK (evalK G run n f14_keep 0 (sub [1, 1, 1, 1, 1, 1] f14_body) (retE G f14_info)) (retE G f14_info))))) (seqK (fun t => iterK (evalK G run n f14_keep 0 (sub [1, 1, 1, 1, 1, 0, 1, 0, 0] f14_body)) f14_t0 f14_o0 (blockK 0 (seqK (evalK G run n f14_keep 0 (sub [1, 1, 1, 1, 1, 1] f14_body) (retE G f14_info)) (retE G f14_info))) k0 (t.clear f14_t0 f14_o0)) (blockK 0 (seqK (evalK G run n f14_keep 0 (sub [1, 1, 1, 1, 1, 1] f14_body) (retE G f14_info)) (retE G f14_info)))))))) k2
    ⟨[.any, .val (.int .i64) none (.int x1_2), .any, .val (.int .i64) none (.int x3_2), .val (.int .i64) none (.int x4_2), .any, .any, .any, .any, .any, .any, .val (.slice (.int .i64)) none (.slice x11_2), .ref ⟨(.arr m2 .bool), 45, 1, []⟩ 0 m2, .val (.int .i64) none (.int x13_2), .val (.int .i64) none (.int x14_2), .any, .any, .any, .any, .any, .any, .any, .any, .any, .any, .any, .any, .any, .any, .any, .any, .any, .any, .any, .any, .any, .any, .any, .any, .any, .any, .any, .any, .any, .any, .any, .any, .any, .any, .any, .any, .any, .any, .any, .any, .val (.slice (.int .i64)) (some (55, 0)) (.slice x55_1), .val (.int .i64) none (.int x56_1), .val (.int .i64) none (.int x57_1), .any, .any, .any, .any, .any, .any, .any, .any, .any, .any, .any, .any, .any, .any, .any, .any, .any, .any, .any, .any, .any, .any, .any, .any, .any, .any, .any, .any], [⟨0, none⟩, ⟨0, none⟩, ⟨0, none⟩, ⟨0, none⟩, ⟨0, none⟩, ⟨0, none⟩, ⟨0, none⟩, ⟨0, none⟩, ⟨0, none⟩, ⟨0, none⟩, ⟨0, none⟩, ⟨0, none⟩, ⟨0, none⟩, ⟨0, none⟩, ⟨0, none⟩, ⟨0, none⟩, ⟨0, none⟩, ⟨0, none⟩, ⟨0, none⟩, ⟨0, none⟩, ⟨0, none⟩, ⟨0, none⟩, ⟨0, none⟩, ⟨0, none⟩, ⟨0, none⟩, ⟨0, none⟩, ⟨0, none⟩, ⟨0, none⟩, ⟨0, none⟩, ⟨0, none⟩, ⟨0, none⟩, ⟨0, none⟩, ⟨0, none⟩, ⟨0, none⟩, ⟨0, none⟩, ⟨0, none⟩, ⟨0, none⟩, ⟨0, none⟩, ⟨0, none⟩, ⟨0, none⟩, ⟨0, none⟩, ⟨0, none⟩, ⟨0, none⟩, ⟨0, none⟩, ⟨0, none⟩, ⟨1, some ⟨(.arr m2 .bool), .agg o45_2⟩⟩, ⟨0, none⟩, ⟨0, none⟩, ⟨0, none⟩, ⟨0, none⟩, ⟨0, none⟩, ⟨0, none⟩, ⟨0, none⟩, ⟨0, none⟩, ⟨0, none⟩, ⟨0, none⟩, ⟨0, none⟩, ⟨0, none⟩, ⟨0, none⟩, ⟨0, none⟩, ⟨0, none⟩, ⟨0, none⟩, ⟨0, none⟩, ⟨0, none⟩, ⟨0, none⟩, ⟨0, none⟩, ⟨0, none⟩, ⟨0, none⟩, ⟨0, none⟩, ⟨0, none⟩, ⟨0, none⟩, ⟨0, none⟩, ⟨0, none⟩, ⟨0, none⟩, ⟨0, none⟩, ⟨0, none⟩, ⟨0, none⟩, ⟨0, none⟩, ⟨0, none⟩, ⟨0, none⟩, ⟨0, none⟩, ⟨0, none⟩, ⟨0, none⟩, ⟨0, none⟩, ⟨0, none⟩, ⟨0, none⟩], List.replicate 86 0⟩
noncomputable def f14_l4 (run : Run) (n : Nat) (_k0 : Nat) (k4 : Nat) (x17_1 : List AV) (m5 : Nat) (x73_1 : Int) (x74_1 : Int) (o45_5 : List AV) : Option Res :=
  iterK (evalK G run n f14_keep 4 (sub [1, 1, 1, 1, 1, 1, 1, 0, 1, 0, 0] f14_body)) f14_t4 f14_o4 (blockK 4 (seqK (evalK G run n f14_keep 0 (sub [1, 1, 1, 1, 1, 1, 1, 1] f14_body) (retE G f14_info)) (retE G f14_info))) k4
    ⟨[.any, .any, .any, .any, .any, .any, .any, .any, .any, .any, .any, .any, .any, .any, .any, .any, .any, .val (.slice (.int .i64)) (some (17, 0)) (.slice x17_1), .any, .any, .any, .any, .any, .any, .any, .any, .any, .any, .any, .any, .any, .any, .any, .any, .any, .any, .any, .any, .any, .any, .any, .any, .any, .any, .any, .any, .any, .any, .any, .any, .any, .any, .any, .any, .any, .any, .any, .any, .any, .any, .any, .any, .any, .any, .any, .any, .any, .any, .any, .any, .any, .any, .ref ⟨(.arr m5 .bool), 45, 1, []⟩ 0 m5, .val (.int .i64) none (.int x73_1), .val (.int .i64) none (.int x74_1), .any, .any, .any, .any, .any, .any, .any, .any, .any, .any, .any], [⟨0, none⟩, ⟨0, none⟩, ⟨0, none⟩, ⟨0, none⟩, ⟨0, none⟩, ⟨0, none⟩, ⟨0, none⟩, ⟨0, none⟩, ⟨0, none⟩, ⟨0, none⟩, ⟨0, none⟩, ⟨0, none⟩, ⟨0, none⟩, ⟨0, none⟩, ⟨0, none⟩, ⟨0, none⟩, ⟨0, none⟩, ⟨0, none⟩, ⟨0, none⟩, ⟨0, none⟩, ⟨0, none⟩, ⟨0, none⟩, ⟨0, none⟩, ⟨0, none⟩, ⟨0, none⟩, ⟨0, none⟩, ⟨0, none⟩, ⟨0, none⟩, ⟨0, none⟩, ⟨0, none⟩, ⟨0, none⟩, ⟨0, none⟩, ⟨0, none⟩, ⟨0, none⟩, ⟨0, none⟩, ⟨0, none⟩, ⟨0, none⟩, ⟨0, none⟩, ⟨0, none⟩, ⟨0, none⟩, ⟨0, none⟩, ⟨0, none⟩, ⟨0, none⟩, ⟨0, none⟩, ⟨0, none⟩, ⟨1, some ⟨(.arr m5 .bool), .agg o45_5⟩⟩, ⟨0, none⟩, ⟨0, none⟩, ⟨0, none⟩, ⟨0, none⟩, ⟨0, none⟩, ⟨0, none⟩, ⟨0, none⟩, ⟨0, none⟩, ⟨0, none⟩, ⟨0, none⟩, ⟨0, none⟩, ⟨0, none⟩, ⟨0, none⟩, ⟨0, none⟩, ⟨0, none⟩, ⟨0, none⟩, ⟨0, none⟩, ⟨0, none⟩, ⟨0, none⟩, ⟨0, none⟩, ⟨0, none⟩, ⟨0, none⟩, ⟨0, none⟩, ⟨0, none⟩, ⟨0, none⟩, ⟨0, none⟩, ⟨0, none⟩, ⟨0, none⟩, ⟨0, none⟩, ⟨0, none⟩, ⟨0, none⟩, ⟨0, none⟩, ⟨0, none⟩, ⟨0, none⟩, ⟨0, none⟩, ⟨0, none⟩, ⟨0, none⟩, ⟨0, none⟩, ⟨0, none⟩, ⟨0, none⟩], List.replicate 86 0⟩
noncomputable def f14_l0 (run : Run) (n : Nat) (k0 : Nat) (x1_1 : Int) (x3_1 : Int) (x4_1 : Int) (x11_1 : List AV) (m1 : Nat) (x13_1 : Int) (x14_1 : Int) (o45_1 : List AV) : Option Res :=
  iterK (evalK G run n f14_keep 0 (sub [1, 1, 1, 1, 1, 0, 1, 0, 0] f14_body)) f14_t0 f14_o0 (blockK 0 (seqK (evalK G run n f14_keep 0 (sub [1, 1, 1, 1, 1, 1] f14_body) (retE G f14_info)) (retE G f14_info))) k0
    ⟨[.any, .val (.int .i64) none (.int x1_1), .any, .val (.int .i64) none (.int x3_1), .val (.int .i64) none (.int x4_1), .any, .any, .any, .any, .any, .any, .val (.slice (.int .i64)) none (.slice x11_1), .ref ⟨(.arr m1 .bool), 45, 1, []⟩ 0 m1, .val (.int .i64) none (.int x13_1), .val (.int .i64) none (.int x14_1), .any, .any, .any, .any, .any, .any, .any, .any, .any, .any, .any, .any, .any, .any, .any, .any, .any, .any, .any, .any, .any, .any, .any, .any, .any, .any, .any, .any, .any, .any, .any, .any, .any, .any, .any, .any, .any, .any, .any, .any, .any, .any, .any, .any, .any, .any, .any, .any, .any, .any, .any, .any, .any, .any, .any, .any, .any, .any, .any, .any, .any, .any, .any, .any, .any, .any, .any, .any, .any, .any, .any], [⟨0, none⟩, ⟨0, none⟩, ⟨0, none⟩, ⟨0, none⟩, ⟨0, none⟩, ⟨0, none⟩, ⟨0, none⟩, ⟨0, none⟩, ⟨0, none⟩, ⟨0, none⟩, ⟨0, none⟩, ⟨0, none⟩, ⟨0, none⟩, ⟨0, none⟩, ⟨0, none⟩, ⟨0, none⟩, ⟨0, none⟩, ⟨0, none⟩, ⟨0, none⟩, ⟨0, none⟩, ⟨0, none⟩, ⟨0, none⟩, ⟨0, none⟩, ⟨0, none⟩, ⟨0, none⟩, ⟨0, none⟩, ⟨0, none⟩, ⟨0, none⟩, ⟨0, none⟩, ⟨0, none⟩, ⟨0, none⟩, ⟨0, none⟩, ⟨0, none⟩, ⟨0, none⟩, ⟨0, none⟩, ⟨0, none⟩, ⟨0, none⟩, ⟨0, none⟩, ⟨0, none⟩, ⟨0, none⟩, ⟨0, none⟩, ⟨0, none⟩, ⟨0, none⟩, ⟨0, none⟩, ⟨0, none⟩, ⟨1, some ⟨(.arr m1 .bool), .agg o45_1⟩⟩, ⟨0, none⟩, ⟨0, none⟩, ⟨0, none⟩, ⟨0, none⟩, ⟨0, none⟩, ⟨0, none⟩, ⟨0, none⟩, ⟨0, none⟩, ⟨0, none⟩, ⟨0, none⟩, ⟨0, none⟩, ⟨0, none⟩, ⟨0, none⟩, ⟨0, none⟩, ⟨0, none⟩, ⟨0, none⟩, ⟨0, none⟩, ⟨0, none⟩, ⟨0, none⟩, ⟨0, none⟩, ⟨0, none⟩, ⟨0, none⟩, ⟨0, none⟩, ⟨0, none⟩, ⟨0, none⟩, ⟨0, none⟩, ⟨0, none⟩, ⟨0, none⟩, ⟨0, none⟩, ⟨0, none⟩, ⟨0, none⟩, ⟨0, none⟩, ⟨0, none⟩, ⟨0, none⟩, ⟨0, none⟩, ⟨0, none⟩, ⟨0, none⟩, ⟨0, none⟩, ⟨0, none⟩, ⟨0, none⟩], List.replicate 86 0⟩
theorem f14_l2_eq (run : Run) (n : Nat) (k0 : Nat) (k2 : Nat) (x1_2 : Int) (x3_2 : Int) (x4_2 : Int) (x11_2 : List AV) (m2 : Nat) (x13_2 : Int) (x14_2 : Int) (x55_1 : List AV) (x56_1 : Int) (x57_1 : Int) (o45_2 : List AV) : f14_l2 run n k0 (k2 + 1) x1_2 x3_2 x4_2 x11_2 m2 x13_2 x14_2 x55_1 x56_1 x57_1 o45_2 =
  bif ltI x57_1 x56_1 then
    bif inR x57_1 x55_1.length then
    bif inR ((nth x55_1 (Int.toNat x57_1)).toInt) m2 then
    f14_l2 run n k0 k2 x1_2 x3_2 x4_2 x11_2 m2 x13_2 x14_2 x55_1 x56_1 (IntKind.wrap .i64 (x57_1 + 1)) (o45_2.set (0 + (Int.toNat ((nth x55_1 (Int.toNat x57_1)).toInt))) (.bool true))
  else none
  else none
  else
    (run 47 [.slice x11_2, .int x13_2, .int x14_2, .int x1_2, .int x3_2, .int x4_2]).bind fun r4 =>
    nilV r4.outs (consV r4.vals fun v4 vs4 =>
    nilV vs4 (f14_l0 run n k0 x1_2 x3_2 x4_2 x11_2 m2 v4.toInt (IntKind.wrap .i64 (x14_2 - 1)) o45_2)) := by kernel_rfl
theorem f14_l4_eq (run : Run) (n : Nat) (k0 : Nat) (k4 : Nat) (x17_1 : List AV) (m5 : Nat) (x73_1 : Int) (x74_1 : Int) (o45_5 : List AV) : f14_l4 run n k0 (k4 + 1) x17_1 m5 x73_1 x74_1 o45_5 =
  bif ltI x74_1 x73_1 then
    bif inR x74_1 m5 then
    bif (AV.fld (.agg o45_5) (0 + (Int.toNat x74_1))).toBool then
    bif Nat.ble ((x17_1.length + 1) * 8) 140737488355328 then
    f14_l4 run n k0 k4 (x17_1 ++ [.int x74_1]) m5 x73_1 (IntKind.wrap .i64 (x74_1 + 1)) o45_5
  else none
  else
    f14_l4 run n k0 k4 x17_1 m5 x73_1 (IntKind.wrap .i64 (x74_1 + 1)) o45_5
  else none
  else
    some ⟨[.slice x17_1], [], f14_fresh⟩ := by kernel_rfl
theorem f14_l0_eq (run : Run) (n : Nat) (k0 : Nat) (x1_1 : Int) (x3_1 : Int) (x4_1 : Int) (x11_1 : List AV) (m1 : Nat) (x13_1 : Int) (x14_1 : Int) (o45_1 : List AV) : f14_l0 run n (k0 + 1) x1_1 x3_1 x4_1 x11_1 m1 x13_1 x14_1 o45_1 =
  bif leI 0 x14_1 then
    (run 46 [.slice x11_1, .int x13_1, .int x14_1]).bind fun r3 =>
    bif r3.fresh then
    nilV r3.outs (consV r3.vals fun v3 vs3 =>
    nilV vs3 (f14_l2 run n k0 n x1_1 x3_1 x4_1 x11_1 m1 x13_1 x14_1 v3.toSlice (v3.toSlice.length : Int) 0 o45_1))
  else none
  else
    f14_l4 run n k0 n [] m1 (m1 : Int) 0 o45_1 := by kernel_rfl
noncomputable def f14 (run : Run) (n : Nat) (a0_1 : List AV) (a1_1 : Int) (a2_1 : Int) (a3_1 : Int) (a4_1 : Int) : Option Res := evalK G run n f14_info.keep 0 f14_info.body (retE G f14_info) (f14_info.start [.slice a0_1, .int a1_1, .int a2_1, .int a3_1, .int a4_1])
theorem f14_eq (run : Run) (n : Nat) (a0_1 : List AV) (a1_1 : Int) (a2_1 : Int) (a3_1 : Int) (a4_1 : Int) : f14 run n a0_1 a1_1 a2_1 a3_1 a4_1 =
  (run 10 [.int a1_1, .int a2_1, .int a3_1, .int a4_1]).bind fun r1 =>
    nilV r1.outs (consV r1.vals fun v1 vs1 =>
    nilV vs1 (bif !v1.toBool then
    some ⟨[.slice []], [], f14_fresh⟩
  else
    bif leI (a0_1.length : Int) a2_1 then
    some ⟨[.slice []], [], f14_fresh⟩
  else
    bif ltI 1024 (a0_1.length : Int) then
    some ⟨[.slice []], [], f14_fresh⟩
  else
    bif boundsOk 0 (IntKind.wrap .i64 ((a0_1.length : Int) - a2_1)) (a0_1.length : Int) (a0_1.length : Int) && true then
    bif eqI ((List.drop 0 (List.take (Int.toNat (IntKind.wrap .i64 ((a0_1.length : Int) - a2_1))) a0_1)).length : Int) ((List.drop 0 (List.take (Int.toNat (IntKind.wrap .i64 ((a0_1.length : Int) - a2_1))) a0_1)).length : Int) && leI 0 ((List.drop 0 (List.take (Int.toNat (IntKind.wrap .i64 ((a0_1.length : Int) - a2_1))) a0_1)).length : Int) && Nat.ble (Int.toNat ((List.drop 0 (List.take (Int.toNat (IntKind.wrap .i64 ((a0_1.length : Int) - a2_1))) a0_1)).length : Int) * 1) 140737488355328 then
    (run 45 [.slice (List.drop 0 (List.take (Int.toNat (IntKind.wrap .i64 ((a0_1.length : Int) - a2_1))) a0_1))]).bind fun r2 =>
    nilV r2.outs (consV r2.vals fun v2 vs2 =>
    nilV vs2 (f14_l0 run n n a1_1 a3_1 a4_1 (List.drop 0 (List.take (Int.toNat (IntKind.wrap .i64 ((a0_1.length : Int) - a2_1))) a0_1)) (Int.toNat ((List.drop 0 (List.take (Int.toNat (IntKind.wrap .i64 ((a0_1.length : Int) - a2_1))) a0_1)).length : Int)) 0 v2.toInt (List.replicate (Int.toNat ((List.drop 0 (List.take (Int.toNat (IntKind.wrap .i64 ((a0_1.length : Int) - a2_1))) a0_1)).length : Int)) (.bool false))))
  else none
  else none)) := by kernel_rfl
theorem f14_run (ext : Run) (n : Nat) (a0_1 : List AV) (a1_1 : Int) (a2_1 : Int) (a3_1 : Int) (a4_1 : Int) : runE G ext (n + 1) 14 [.slice a0_1, .int a1_1, .int a2_1, .int a3_1, .int a4_1] = f14 (runE G ext n) n a0_1 a1_1 a2_1 a3_1 a4_1 := runE_succ f14_at f14_in

noncomputable def f21_l0 (run : Run) (n : Nat) (k0 : Nat) (x1_1 : List AV) (x5_1 : List AV) (x6_1 : Int) : Option Res :=
  iterK (evalK G run n f21_keep 0 (sub [1, 1, 0, 1, 0, 0] f21_body)) f21_t0 f21_o0 (blockK 0 (seqK (evalK G run n f21_keep 0 (sub [1, 1, 1] f21_body) (retE G f21_info)) (retE G f21_info))) k0
    ⟨[.any, .val (.slice (.struct [(.struct [(.int .u32), (.blob 32), (.blob 32), (.int .u64)]), (.slice .str)])) none (.slice x1_1), .any, .any, .any, .val (.slice (.int .i64)) (some (5, 0)) (.slice x5_1), .val (.int .i64) none (.int x6_1), .any, .any, .any, .any, .any, .any, .any, .any, .any, .any, .any, .any, .any, .any, .any, .any, .any, .any, .any, .any, .any, .any, .any, .any, .any, .any, .any, .any, .any, .any, .any, .any, .any, .any, .any, .any], [⟨0, none⟩, ⟨0, none⟩, ⟨0, none⟩, ⟨0, none⟩, ⟨0, none⟩, ⟨0, none⟩, ⟨0, none⟩, ⟨0, none⟩, ⟨0, none⟩, ⟨0, none⟩, ⟨0, none⟩, ⟨0, none⟩, ⟨0, none⟩, ⟨0, none⟩, ⟨0, none⟩, ⟨0, none⟩, ⟨0, none⟩, ⟨0, none⟩, ⟨0, none⟩, ⟨0, none⟩, ⟨0, none⟩, ⟨0, none⟩, ⟨0, none⟩, ⟨0, none⟩, ⟨0, none⟩, ⟨0, none⟩, ⟨0, none⟩, ⟨0, none⟩, ⟨0, none⟩, ⟨0, none⟩, ⟨0, none⟩, ⟨0, none⟩, ⟨0, none⟩, ⟨0, none⟩, ⟨0, none⟩, ⟨0, none⟩, ⟨0, none⟩, ⟨0, none⟩, ⟨0, none⟩, ⟨0, none⟩, ⟨0, none⟩, ⟨0, none⟩, ⟨0, none⟩], List.replicate 43 0⟩
theorem f21_l0_eq (run : Run) (n : Nat) (k0 : Nat) (x1_1 : List AV) (x5_1 : List AV) (x6_1 : Int) : f21_l0 run n (k0 + 1) x1_1 x5_1 x6_1 =
  bif ltI x6_1 (x1_1.length : Int) then
    bif ltI 0 (x5_1.length : Int) then
    bif Nat.ble ((x5_1.length + 1) * 8) 140737488355328 then
    f21_l0 run n k0 x1_1 (x5_1 ++ [.int x6_1]) (IntKind.wrap .i64 (x6_1 + 1))
  else none
  else
    some ⟨[.slice x5_1], [], f21_fresh⟩
  else
    some ⟨[.slice x5_1], [], f21_fresh⟩ := by kernel_rfl
noncomputable def f21 (run : Run) (n : Nat) (a0_1 : Int) (a0_2 : List UInt8) (a0_3 : List UInt8) (a0_4 : Int) (a0_5 : List UInt8) (a0_6 : Int) (a0_7 : Int) (a0_8 : Int) (a0_9 : Int) (a0_10 : Int) (a0_11 : Int) (a1_1 : List AV) : Option Res := evalK G run n f21_info.keep 0 f21_info.body (retE G f21_info) (f21_info.start [.agg [.agg [.int a0_1, .blob a0_2, .blob a0_3, .int a0_4], .blob a0_5, .int a0_6, .int a0_7, .int a0_8, .int a0_9, .int a0_10, .int a0_11], .slice a1_1])
theorem f21_eq (run : Run) (n : Nat) (a0_1 : Int) (a0_2 : List UInt8) (a0_3 : List UInt8) (a0_4 : Int) (a0_5 : List UInt8) (a0_6 : Int) (a0_7 : Int) (a0_8 : Int) (a0_9 : Int) (a0_10 : Int) (a0_11 : Int) (a1_1 : List AV) : f21 run n a0_1 a0_2 a0_3 a0_4 a0_5 a0_6 a0_7 a0_8 a0_9 a0_10 a0_11 a1_1 =
  (run 13 [.blob a0_5, .slice a1_1]).bind fun r1 =>
    bif r1.fresh then
    nilV r1.outs (consV r1.vals fun v1 vs1 =>
    nilV vs1 ((run 14 [.slice v1.toSlice, .int a0_6, .int a0_7, .int a0_8, .int a0_9]).bind fun r2 =>
    bif r2.fresh then
    nilV r2.outs (consV r2.vals fun v2 vs2 =>
    nilV vs2 (f21_l0 run n n a1_1 v2.toSlice (mx2 0 (IntKind.wrap .i64 ((a1_1.length : Int) - mx2 a0_7 0)))))
  else none))
  else none := by kernel_rfl
theorem f21_run (ext : Run) (n : Nat) (a0_1 : Int) (a0_2 : List UInt8) (a0_3 : List UInt8) (a0_4 : Int) (a0_5 : List UInt8) (a0_6 : Int) (a0_7 : Int) (a0_8 : Int) (a0_9 : Int) (a0_10 : Int) (a0_11 : Int) (a1_1 : List AV) : runE G ext (n + 1) 21 [.agg [.agg [.int a0_1, .blob a0_2, .blob a0_3, .int a0_4], .blob a0_5, .int a0_6, .int a0_7, .int a0_8, .int a0_9, .int a0_10, .int a0_11], .slice a1_1] = f21 (runE G ext n) n a0_1 a0_2 a0_3 a0_4 a0_5 a0_6 a0_7 a0_8 a0_9 a0_10 a0_11 a1_1 := runE_succ f21_at f21_in

noncomputable def f83_l0 (run : Run) (n : Nat) (k0 : Nat) (x5_1 : List AV) (x9_1 : List AV) (x10_1 : Int) (x11_1 : Int) (o2_1 : List UInt8) : Option Res :=
  iterK (evalK G run n f83_keep 0 (sub [1, 1, 0, 1, 0, 0] f83_body)) f83_t0 f83_o0 (blockK 0 (seqK (evalK G run n f83_keep 0 (sub [1, 1, 1] f83_body) (retE G f83_info)) (retE G f83_info))) k0
    ⟨[.any, .any, .ptr ⟨(.blob 32), 2, 1, []⟩, .any, .any, .val (.slice (.slice (.blob 32))) (some (5, 0)) (.slice x5_1), .any, .any, .any, .val (.slice (.struct [(.struct [(.int .u32), (.blob 32), (.blob 32), (.int .u64)]), (.slice .str)])) none (.slice x9_1), .val (.int .i64) none (.int x10_1), .val (.int .i64) none (.int x11_1), .any, .any, .any, .any, .any, .any, .any, .any, .any, .any, .any, .any, .any, .any, .any, .any, .any], [⟨0, none⟩, ⟨0, none⟩, ⟨1, some ⟨(.blob 32), .blob o2_1⟩⟩, ⟨0, none⟩, ⟨0, none⟩, ⟨0, none⟩, ⟨0, none⟩, ⟨0, none⟩, ⟨0, none⟩, ⟨0, none⟩, ⟨0, none⟩, ⟨0, none⟩, ⟨0, none⟩, ⟨0, none⟩, ⟨0, none⟩, ⟨0, none⟩, ⟨0, none⟩, ⟨0, none⟩, ⟨0, none⟩, ⟨0, none⟩, ⟨0, none⟩, ⟨0, none⟩, ⟨0, none⟩, ⟨0, none⟩, ⟨0, none⟩, ⟨0, none⟩, ⟨0, none⟩, ⟨0, none⟩, ⟨0, none⟩], List.replicate 29 0⟩
theorem f83_l0_eq (run : Run) (n : Nat) (k0 : Nat) (x5_1 : List AV) (x9_1 : List AV) (x10_1 : Int) (x11_1 : Int) (o2_1 : List UInt8) : f83_l0 run n (k0 + 1) x5_1 x9_1 x10_1 x11_1 o2_1 =
  bif ltI x11_1 x10_1 then
    bif inR x11_1 x9_1.length then
    bif inR x11_1 x5_1.length then
    (run 42 [.blob o2_1, .slice ((nth x5_1 (Int.toNat x11_1)).toSlice), .agg [.agg [.int ((((nth x9_1 (Int.toNat x11_1)).fld 0).fld 0).toInt), .blob ((((nth x9_1 (Int.toNat x11_1)).fld 0).fld 1).toBlob), .blob ((((nth x9_1 (Int.toNat x11_1)).fld 0).fld 2).toBlob), .int ((((nth x9_1 (Int.toNat x11_1)).fld 0).fld 3).toInt)], .slice (((nth x9_1 (Int.toNat x11_1)).fld 1).toSlice)], .int x11_1]).bind fun r1 =>
    nilV r1.outs (consV r1.vals fun v1 vs1 =>
    nilV vs1 (bif Nat.ble ((x5_1.length + 1) * 24) 140737488355328 then
    f83_l0 run n k0 (x5_1 ++ [.slice v1.toSlice]) x9_1 x10_1 (IntKind.wrap .i64 (x11_1 + 1)) o2_1
  else none))
  else none
  else none
  else
    some ⟨[.slice x5_1], [], f83_fresh⟩ := by kernel_rfl
noncomputable def f83 (run : Run) (n : Nat) (a0_1 : List UInt8) (a1_1 : List AV) : Option Res := evalK G run n f83_info.keep 0 f83_info.body (retE G f83_info) (f83_info.start [.blob a0_1, .slice a1_1])
theorem f83_eq (run : Run) (n : Nat) (a0_1 : List UInt8) (a1_1 : List AV) : f83 run n a0_1 a1_1 =
  f83_l0 run n n [.slice []] a1_1 (a1_1.length : Int) 0 a0_1 := by kernel_rfl
theorem f83_run (ext : Run) (n : Nat) (a0_1 : List UInt8) (a1_1 : List AV) : runE G ext (n + 1) 83 [.blob a0_1, .slice a1_1] = f83 (runE G ext n) n a0_1 a1_1 := runE_succ f83_at f83_in

noncomputable def f49_l0 (run : Run) (n : Nat) (k0 : Nat) (x0_1 : List AV) (x2_1 : Int) (x7_1 : Int) : Option Res :=
  iterK (evalK G run n f49_keep 0 (sub [1, 0, 1, 0, 0] f49_body)) f49_t0 f49_o0 (blockK 0 (seqK (evalK G run n f49_keep 0 (sub [1, 1] f49_body) (retE G f49_info)) (retE G f49_info))) k0
    ⟨[.val (.slice (.int .i64)) none (.slice x0_1), .any, .val (.int .i64) none (.int x2_1), .any, .any, .any, .any, .val (.int .i64) none (.int x7_1), .any, .any, .any, .any, .any, .any, .any, .any, .any, .any, .any, .any, .any, .any, .any, .any], [⟨0, none⟩, ⟨0, none⟩, ⟨0, none⟩, ⟨0, none⟩, ⟨0, none⟩, ⟨0, none⟩, ⟨0, none⟩, ⟨0, none⟩, ⟨0, none⟩, ⟨0, none⟩, ⟨0, none⟩, ⟨0, none⟩, ⟨0, none⟩, ⟨0, none⟩, ⟨0, none⟩, ⟨0, none⟩, ⟨0, none⟩, ⟨0, none⟩, ⟨0, none⟩, ⟨0, none⟩, ⟨0, none⟩, ⟨0, none⟩, ⟨0, none⟩, ⟨0, none⟩], List.replicate 24 0⟩
theorem f49_l0_eq (run : Run) (n : Nat) (k0 : Nat) (x0_1 : List AV) (x2_1 : Int) (x7_1 : Int) : f49_l0 run n (k0 + 1) x0_1 x2_1 x7_1 =
  bif leI 0 x7_1 then
    bif inR x7_1 x0_1.length then
    bif leI x2_1 ((nth x0_1 (Int.toNat x7_1)).toInt) then
    some ⟨[.int x7_1], [], f49_fresh⟩
  else
    f49_l0 run n k0 x0_1 x2_1 (IntKind.wrap .i64 (x7_1 - 1))
  else none
  else
    some ⟨[.int (-1)], [], f49_fresh⟩ := by kernel_rfl
noncomputable def f49 (run : Run) (n : Nat) (a0_1 : List AV) (a1_1 : Int) (a2_1 : Int) : Option Res := evalK G run n f49_info.keep 0 f49_info.body (retE G f49_info) (f49_info.start [.slice a0_1, .int a1_1, .int a2_1])
theorem f49_eq (run : Run) (n : Nat) (a0_1 : List AV) (a1_1 : Int) (a2_1 : Int) : f49 run n a0_1 a1_1 a2_1 =
  f49_l0 run n n a0_1 a2_1 (IntKind.wrap .i64 (mn2 a1_1 (a0_1.length : Int) - 1)) := by kernel_rfl
theorem f49_run (ext : Run) (n : Nat) (a0_1 : List AV) (a1_1 : Int) (a2_1 : Int) : runE G ext (n + 1) 49 [.slice a0_1, .int a1_1, .int a2_1] = f49 (runE G ext n) n a0_1 a1_1 a2_1 := runE_succ f49_at f49_in

noncomputable def f16_l0 (run : Run) (n : Nat) (k0 : Nat) (x0_1 : List AV) (x1_1 : Int) (x5_1 : List AV) (x17_1 : Int) : Option Res :=
  iterK (evalK G run n f16_keep 0 (sub [1, 1, 1, 0, 1, 0, 0] f16_body)) f16_t0 f16_o0 (blockK 0 (seqK (evalK G run n f16_keep 0 (sub [1, 1, 1, 1] f16_body) (retE G f16_info)) (retE G f16_info))) k0
    ⟨[.val (.slice (.int .i64)) none (.slice x0_1), .val (.int .i64) none (.int x1_1), .any, .any, .any, .val (.slice (.int .i64)) (some (5, 0)) (.slice x5_1), .any, .any, .any, .any, .any, .any, .any, .any, .any, .any, .any, .val (.int .i64) none (.int x17_1), .any, .any, .any, .any, .any, .any, .any, .any, .any, .any, .any, .any, .any, .any, .any, .any], [⟨0, none⟩, ⟨0, none⟩, ⟨0, none⟩, ⟨0, none⟩, ⟨0, none⟩, ⟨0, none⟩, ⟨0, none⟩, ⟨0, none⟩, ⟨0, none⟩, ⟨0, none⟩, ⟨0, none⟩, ⟨0, none⟩, ⟨0, none⟩, ⟨0, none⟩, ⟨0, none⟩, ⟨0, none⟩, ⟨0, none⟩, ⟨0, none⟩, ⟨0, none⟩, ⟨0, none⟩, ⟨0, none⟩, ⟨0, none⟩, ⟨0, none⟩, ⟨0, none⟩, ⟨0, none⟩, ⟨0, none⟩, ⟨0, none⟩, ⟨0, none⟩, ⟨0, none⟩, ⟨0, none⟩, ⟨0, none⟩, ⟨0, none⟩, ⟨0, none⟩, ⟨0, none⟩], List.replicate 34 0⟩
theorem f16_l0_eq (run : Run) (n : Nat) (k0 : Nat) (x0_1 : List AV) (x1_1 : Int) (x5_1 : List AV) (x17_1 : Int) : f16_l0 run n (k0 + 1) x0_1 x1_1 x5_1 x17_1 =
  bif ltI x17_1 257 then
    (run 49 [.slice x0_1, .int x1_1, .int x17_1]).bind fun r1 =>
    nilV r1.outs (consV r1.vals fun v1 vs1 =>
    nilV vs1 (bif ltI v1.toInt 0 then
    some ⟨[.slice x5_1], [], f16_fresh⟩
  else
    bif Nat.ble ((x5_1.length + 1) * 8) 140737488355328 then
    bif eqI v1.toInt 0 then
    some ⟨[.slice (x5_1 ++ [.int v1.toInt])], [], f16_fresh⟩
  else
    f16_l0 run n k0 x0_1 x1_1 (x5_1 ++ [.int v1.toInt]) (IntKind.wrap .i64 (x17_1 + 1))
  else none))
  else
    some ⟨[.slice x5_1], [], f16_fresh⟩ := by kernel_rfl
noncomputable def f16 (run : Run) (n : Nat) (a0_1 : List AV) (a1_1 : Int) : Option Res := evalK G run n f16_info.keep 0 f16_info.body (retE G f16_info) (f16_info.start [.slice a0_1, .int a1_1])
theorem f16_eq (run : Run) (n : Nat) (a0_1 : List AV) (a1_1 : Int) : f16 run n a0_1 a1_1 =
  bif ltI a1_1 1 then
    some ⟨[.slice []], [], f16_fresh⟩
  else
    bif ltI (a0_1.length : Int) a1_1 then
    some ⟨[.slice []], [], f16_fresh⟩
  else
    f16_l0 run n n a0_1 a1_1 [] 0 := by kernel_rfl
theorem f16_run (ext : Run) (n : Nat) (a0_1 : List AV) (a1_1 : Int) : runE G ext (n + 1) 16 [.slice a0_1, .int a1_1] = f16 (runE G ext n) n a0_1 a1_1 := runE_succ f16_at f16_in

noncomputable def f84_l0 (run : Run) (n : Nat) (k0 : Nat) (x2_1 : Int) (x11_1 : List AV) (x12_1 : Int) (x13_1 : Int) : Option Res :=
  iterK (evalK G run n f84_keep 0 (sub [1, 0, 1, 0, 0] f84_body)) f84_t0 f84_o0 (blockK 0 (seqK (evalK G run n f84_keep 0 (sub [1, 1] f84_body) (retE G f84_info)) (retE G f84_info))) k0
    ⟨[.any, .any, .val (.int .i64) none (.int x2_1), .any, .any, .any, .any, .any, .any, .any, .any, .val (.slice (.int .i64)) (some (11, 0)) (.slice x11_1), .val (.int .i64) none (.int x12_1), .val (.int .i64) none (.int x13_1), .any, .any, .any, .any, .any, .any, .any, .any, .any], [⟨0, none⟩, ⟨0, none⟩, ⟨0, none⟩, ⟨0, none⟩, ⟨0, none⟩, ⟨0, none⟩, ⟨0, none⟩, ⟨0, none⟩, ⟨0, none⟩, ⟨0, none⟩, ⟨0, none⟩, ⟨0, none⟩, ⟨0, none⟩, ⟨0, none⟩, ⟨0, none⟩, ⟨0, none⟩, ⟨0, none⟩, ⟨0, none⟩, ⟨0, none⟩, ⟨0, none⟩, ⟨0, none⟩, ⟨0, none⟩, ⟨0, none⟩], List.replicate 23 0⟩
theorem f84_l0_eq (run : Run) (n : Nat) (k0 : Nat) (x2_1 : Int) (x11_1 : List AV) (x12_1 : Int) (x13_1 : Int) : f84_l0 run n (k0 + 1) x2_1 x11_1 x12_1 x13_1 =
  bif ltI x13_1 x12_1 then
    bif inR x13_1 x11_1.length then
    bif eqI ((nth x11_1 (Int.toNat x13_1)).toInt) x2_1 then
    some ⟨[.int x13_1], [], f84_fresh⟩
  else
    f84_l0 run n k0 x2_1 x11_1 x12_1 (IntKind.wrap .i64 (x13_1 + 1))
  else none
  else
    some ⟨[.int (-1)], [], f84_fresh⟩ := by kernel_rfl
noncomputable def f84 (run : Run) (n : Nat) (a0_1 : List AV) (a1_1 : Int) (a2_1 : Int) : Option Res := evalK G run n f84_info.keep 0 f84_info.body (retE G f84_info) (f84_info.start [.slice a0_1, .int a1_1, .int a2_1])
theorem f84_eq (run : Run) (n : Nat) (a0_1 : List AV) (a1_1 : Int) (a2_1 : Int) : f84 run n a0_1 a1_1 a2_1 =
  (run 16 [.slice a0_1, .int a1_1]).bind fun r1 =>
    bif r1.fresh then
    nilV r1.outs (consV r1.vals fun v1 vs1 =>
    nilV vs1 (f84_l0 run n n a2_1 v1.toSlice (v1.toSlice.length : Int) 0))
  else none := by kernel_rfl
theorem f84_run (ext : Run) (n : Nat) (a0_1 : List AV) (a1_1 : Int) (a2_1 : Int) : runE G ext (n + 1) 84 [.slice a0_1, .int a1_1, .int a2_1] = f84 (runE G ext n) n a0_1 a1_1 a2_1 := runE_succ f84_at f84_in

noncomputable def f133 (run : Run) (n : Nat) (a0_1 : List AV) (a1_1 : Int) : Option Res := evalK G run n f133_info.keep 0 f133_info.body (retE G f133_info) (f133_info.start [.slice a0_1, .int a1_1])
theorem f133_eq (run : Run) (n : Nat) (a0_1 : List AV) (a1_1 : Int) : f133 run n a0_1 a1_1 =
  bif ltI (a0_1.length : Int) 2 then
    some ⟨[.slice []], [], f133_fresh⟩
  else
    (run 162 [.int (a0_1.length : Int)]).bind fun r1 =>
    nilV r1.outs (consV r1.vals fun v1 vs1 =>
    nilV vs1 (bif ltI a1_1 v1.toInt then
    bif boundsOk 0 v1.toInt (a0_1.length : Int) (a0_1.length : Int) && true then
    (run 133 [.slice (List.drop 0 (List.take (Int.toNat v1.toInt) a0_1)), .int a1_1]).bind fun r2 =>
    bif r2.fresh then
    nilV r2.outs (consV r2.vals fun v2 vs2 =>
    nilV vs2 (bif boundsOk v1.toInt (a0_1.length : Int) (a0_1.length : Int) (a0_1.length : Int) && true then
    (run 163 [.slice (List.drop (Int.toNat v1.toInt) (List.take (Int.toNat (a0_1.length : Int)) a0_1))]).bind fun r3 =>
    nilV r3.outs (consV r3.vals fun v3 vs3 =>
    nilV vs3 (bif Nat.ble ((v2.toSlice.length + 1) * 32) 140737488355328 then
    some ⟨[.slice (v2.toSlice ++ [.blob v3.toBlob])], [], f133_fresh⟩
  else none))
  else none))
  else none
  else none
  else
    bif boundsOk v1.toInt (a0_1.length : Int) (a0_1.length : Int) (a0_1.length : Int) && true then
    (run 133 [.slice (List.drop (Int.toNat v1.toInt) (List.take (Int.toNat (a0_1.length : Int)) a0_1)), .int (IntKind.wrap .i64 (a1_1 - v1.toInt))]).bind fun r4 =>
    bif r4.fresh then
    nilV r4.outs (consV r4.vals fun v4 vs4 =>
    nilV vs4 (bif boundsOk 0 v1.toInt (a0_1.length : Int) (a0_1.length : Int) && true then
    (run 163 [.slice (List.drop 0 (List.take (Int.toNat v1.toInt) a0_1))]).bind fun r5 =>
    nilV r5.outs (consV r5.vals fun v5 vs5 =>
    nilV vs5 (bif Nat.ble ((v4.toSlice.length + 1) * 32) 140737488355328 then
    some ⟨[.slice (v4.toSlice ++ [.blob v5.toBlob])], [], f133_fresh⟩
  else none))
  else none))
  else none
  else none)) := by kernel_rfl
theorem f133_run (ext : Run) (n : Nat) (a0_1 : List AV) (a1_1 : Int) : runE G ext (n + 1) 133 [.slice a0_1, .int a1_1] = f133 (runE G ext n) n a0_1 a1_1 := runE_succ f133_at f133_in

noncomputable def f98 (run : Run) (n : Nat) (a0_1 : List AV) (a1_1 : Int) : Option Res := evalK G run n f98_info.keep 0 f98_info.body (retE G f98_info) (f98_info.start [.slice a0_1, .int a1_1])
theorem f98_eq (run : Run) (n : Nat) (a0_1 : List AV) (a1_1 : Int) : f98 run n a0_1 a1_1 =
  bif ltI 1048576 (a0_1.length : Int) then
    some ⟨[.agg [.int 0, .int 0, .slice []], .int 4], [], f98_fresh⟩
  else
    bif ltI a1_1 0 then
    some ⟨[.agg [.int 0, .int 0, .slice []], .int 3], [], f98_fresh⟩
  else
    bif leI (a0_1.length : Int) a1_1 then
    some ⟨[.agg [.int 0, .int 0, .slice []], .int 3], [], f98_fresh⟩
  else
    (run 134 [.slice a0_1]).bind fun r1 =>
    bif r1.fresh then
    nilV r1.outs (consV r1.vals fun v1 vs1 =>
    nilV vs1 ((run 133 [.slice v1.toSlice, .int a1_1]).bind fun r2 =>
    bif r2.fresh then
    nilV r2.outs (consV r2.vals fun v2 vs2 =>
    nilV vs2 (some ⟨[.agg [.int a1_1, .int (a0_1.length : Int), .slice v2.toSlice], .int 0], [], f98_fresh⟩))
  else none))
  else none := by kernel_rfl
theorem f98_run (ext : Run) (n : Nat) (a0_1 : List AV) (a1_1 : Int) : runE G ext (n + 1) 98 [.slice a0_1, .int a1_1] = f98 (runE G ext n) n a0_1 a1_1 := runE_succ f98_at f98_in

noncomputable def f85 (run : Run) (n : Nat) (a0_1 : List AV) (a1_1 : Int) : Option Res := evalK G run n f85_info.keep 0 f85_info.body (retE G f85_info) (f85_info.start [.slice a0_1, .int a1_1])
theorem f85_eq (run : Run) (n : Nat) (a0_1 : List AV) (a1_1 : Int) : f85 run n a0_1 a1_1 =
  (run 119 [.slice a0_1]).bind fun r1 =>
    bif r1.fresh then
    nilV r1.outs (consV r1.vals fun v1 vs1 =>
    nilV vs1 ((run 98 [.slice v1.toSlice, .int a1_1]).bind fun r2 =>
    nilV r2.outs (consV r2.vals fun v2 vs2 =>
    consV vs2 fun v3 vs3 =>
    nilV vs3 (some ⟨[.agg [.int ((v2.fld 0).toInt), .int ((v2.fld 1).toInt), .slice ((v2.fld 2).toSlice)], .int v3.toInt], [], f85_fresh⟩))))
  else none := by kernel_rfl
theorem f85_run (ext : Run) (n : Nat) (a0_1 : List AV) (a1_1 : Int) : runE G ext (n + 1) 85 [.slice a0_1, .int a1_1] = f85 (runE G ext n) n a0_1 a1_1 := runE_succ f85_at f85_in

noncomputable def f50_l0 (run : Run) (n : Nat) (k0 : Nat) (x1_1 : List AV) (x2_1 : List AV) (x8_1 : List AV) (x9_1 : List AV) (x10_1 : List AV) (x23_1 : List AV) (x24_1 : Int) (x25_1 : Int) : Option Res :=
  iterK (evalK G run n f50_keep 0 (sub [1, 1, 1, 0, 1, 0, 0] f50_body)) f50_t0 f50_o0 (blockK 0 (seqK (evalK G run n f50_keep 0 (sub [1, 1, 1, 1] f50_body) (retE G f50_info)) (retE G f50_info))) k0
    ⟨[.any, .val (.slice (.struct [(.struct [(.int .u32), (.blob 32), (.blob 32), (.int .u64)]), (.slice .str)])) none (.slice x1_1), .val (.slice (.int .i64)) none (.slice x2_1), .any, .any, .any, .any, .any, .val (.slice (.int .i64)) (some (8, 0)) (.slice x8_1), .val (.slice (.slice (.blob 32))) (some (9, 0)) (.slice x9_1), .val (.slice (.struct [(.struct [(.int .u32), (.blob 32), (.blob 32), (.int .u64)]), (.struct [(.int .i64), (.int .i64), (.slice (.blob 32))])])) (some (10, 0)) (.slice x10_1), .any, .any, .any, .any, .any, .any, .any, .any, .any, .any, .any, .any, .val (.slice (.int .i64)) none (.slice x23_1), .val (.int .i64) none (.int x24_1), .val (.int .i64) none (.int x25_1), .any, .any, .any, .any, .any, .any, .any, .any, .any, .any, .any, .any, .any, .any, .any, .any, .any, .any, .any, .any, .any, .any, .any, .any, .any, .any, .any, .any, .any, .any, .any, .any, .any, .any, .any, .any, .any, .any, .any, .any, .any, .any, .any, .any, .any, .any, .any, .any, .any, .any], [⟨0, none⟩, ⟨0, none⟩, ⟨0, none⟩, ⟨0, none⟩, ⟨0, none⟩, ⟨0, none⟩, ⟨0, none⟩, ⟨0, none⟩, ⟨0, none⟩, ⟨0, none⟩, ⟨0, none⟩, ⟨0, none⟩, ⟨0, none⟩, ⟨0, none⟩, ⟨0, none⟩, ⟨0, none⟩, ⟨0, none⟩, ⟨0, none⟩, ⟨0, none⟩, ⟨0, none⟩, ⟨0, none⟩, ⟨0, none⟩, ⟨0, none⟩, ⟨0, none⟩, ⟨0, none⟩, ⟨0, none⟩, ⟨0, none⟩, ⟨0, none⟩, ⟨0, none⟩, ⟨0, none⟩, ⟨0, none⟩, ⟨0, none⟩, ⟨0, none⟩, ⟨0, none⟩, ⟨0, none⟩, ⟨0, none⟩, ⟨0, none⟩, ⟨0, none⟩, ⟨0, none⟩, ⟨0, none⟩, ⟨0, none⟩, ⟨0, none⟩, ⟨0, none⟩, ⟨0, none⟩, ⟨0, none⟩, ⟨0, none⟩, ⟨0, none⟩, ⟨0, none⟩, ⟨0, none⟩, ⟨0, none⟩, ⟨0, none⟩, ⟨0, none⟩, ⟨0, none⟩, ⟨0, none⟩, ⟨0, none⟩, ⟨0, none⟩, ⟨0, none⟩, ⟨0, none⟩, ⟨0, none⟩, ⟨0, none⟩, ⟨0, none⟩, ⟨0, none⟩, ⟨0, none⟩, ⟨0, none⟩, ⟨0, none⟩, ⟨0, none⟩, ⟨0, none⟩, ⟨0, none⟩, ⟨0, none⟩, ⟨0, none⟩, ⟨0, none⟩, ⟨0, none⟩, ⟨0, none⟩, ⟨0, none⟩, ⟨0, none⟩, ⟨0, none⟩], List.replicate 76 0⟩
theorem f50_l0_eq (run : Run) (n : Nat) (k0 : Nat) (x1_1 : List AV) (x2_1 : List AV) (x8_1 : List AV) (x9_1 : List AV) (x10_1 : List AV) (x23_1 : List AV) (x24_1 : Int) (x25_1 : Int) : f50_l0 run n (k0 + 1) x1_1 x2_1 x8_1 x9_1 x10_1 x23_1 x24_1 x25_1 =
  bif ltI x25_1 x24_1 then
    bif inR x25_1 x23_1.length then
    bif ltI ((nth x23_1 (Int.toNat x25_1)).toInt) 0 then
    some ⟨[.slice [], .int 15], [], f50_fresh⟩
  else
    bif leI (x1_1.length : Int) ((nth x23_1 (Int.toNat x25_1)).toInt) then
    some ⟨[.slice [], .int 15], [], f50_fresh⟩
  else
    bif inR ((nth x23_1 (Int.toNat x25_1)).toInt) x1_1.length then
    bif ltI 0 x25_1 then
    bif inR (IntKind.wrap .i64 (x25_1 - 1)) x2_1.length then
    (run 84 [.slice x8_1, .int ((nth x23_1 (Int.toNat x25_1)).toInt), .int ((nth x2_1 (Int.toNat (IntKind.wrap .i64 (x25_1 - 1)))).toInt)]).bind fun r3 =>
    nilV r3.outs (consV r3.vals fun v3 vs3 =>
    nilV vs3 (bif ltI v3.toInt 0 then
    some ⟨[.slice [], .int 10], [], f50_fresh⟩
  else
    bif inR ((nth x23_1 (Int.toNat x25_1)).toInt) x9_1.length then
    (run 85 [.slice ((nth x9_1 (Int.toNat ((nth x23_1 (Int.toNat x25_1)).toInt))).toSlice), .int v3.toInt]).bind fun r4 =>
    nilV r4.outs (consV r4.vals fun v4 vs4 =>
    consV vs4 fun v5 vs5 =>
    nilV vs5 (bif !(eqI v5.toInt 0) then
    some ⟨[.slice [], .int v5.toInt], [], f50_fresh⟩
  else
    bif Nat.ble ((x10_1.length + 1) * 120) 140737488355328 then
    f50_l0 run n k0 x1_1 x2_1 x8_1 x9_1 (x10_1 ++ [.agg [.agg [.int ((((nth x1_1 (Int.toNat ((nth x23_1 (Int.toNat x25_1)).toInt))).fld 0).fld 0).toInt), .blob ((((nth x1_1 (Int.toNat ((nth x23_1 (Int.toNat x25_1)).toInt))).fld 0).fld 1).toBlob), .blob ((((nth x1_1 (Int.toNat ((nth x23_1 (Int.toNat x25_1)).toInt))).fld 0).fld 2).toBlob), .int ((((nth x1_1 (Int.toNat ((nth x23_1 (Int.toNat x25_1)).toInt))).fld 0).fld 3).toInt)], .agg [.int ((v4.fld 0).toInt), .int ((v4.fld 1).toInt), .slice ((v4.fld 2).toSlice)]]]) x23_1 x24_1 (IntKind.wrap .i64 (x25_1 + 1))
  else none))
  else none))
  else none
  else
    bif Nat.ble ((x10_1.length + 1) * 120) 140737488355328 then
    f50_l0 run n k0 x1_1 x2_1 x8_1 x9_1 (x10_1 ++ [.agg [.agg [.int ((((nth x1_1 (Int.toNat ((nth x23_1 (Int.toNat x25_1)).toInt))).fld 0).fld 0).toInt), .blob ((((nth x1_1 (Int.toNat ((nth x23_1 (Int.toNat x25_1)).toInt))).fld 0).fld 1).toBlob), .blob ((((nth x1_1 (Int.toNat ((nth x23_1 (Int.toNat x25_1)).toInt))).fld 0).fld 2).toBlob), .int ((((nth x1_1 (Int.toNat ((nth x23_1 (Int.toNat x25_1)).toInt))).fld 0).fld 3).toInt)], .agg [.int 0, .int 0, .slice []]]]) x23_1 x24_1 (IntKind.wrap .i64 (x25_1 + 1))
  else none
  else none
  else none
  else
    some ⟨[.slice x10_1, .int 0], [], f50_fresh⟩ := by kernel_rfl
noncomputable def f50 (run : Run) (n : Nat) (a0_1 : List UInt8) (a1_1 : List AV) (a2_1 : List AV) : Option Res := evalK G run n f50_info.keep 0 f50_info.body (retE G f50_info) (f50_info.start [.blob a0_1, .slice a1_1, .slice a2_1])
theorem f50_eq (run : Run) (n : Nat) (a0_1 : List UInt8) (a1_1 : List AV) (a2_1 : List AV) : f50 run n a0_1 a1_1 a2_1 =
  (run 13 [.blob a0_1, .slice a1_1]).bind fun r1 =>
    bif r1.fresh then
    nilV r1.outs (consV r1.vals fun v1 vs1 =>
    nilV vs1 ((run 83 [.blob a0_1, .slice a1_1]).bind fun r2 =>
    bif r2.fresh then
    nilV r2.outs (consV r2.vals fun v2 vs2 =>
    nilV vs2 (f50_l0 run n n a1_1 a2_1 v1.toSlice v2.toSlice [] a2_1 (a2_1.length : Int) 0))
  else none))
  else none := by kernel_rfl
theorem f50_run (ext : Run) (n : Nat) (a0_1 : List UInt8) (a1_1 : List AV) (a2_1 : List AV) : runE G ext (n + 1) 50 [.blob a0_1, .slice a1_1, .slice a2_1] = f50 (runE G ext n) n a0_1 a1_1 a2_1 := runE_succ f50_at f50_in

noncomputable def f18 (run : Run) (n : Nat) (a0_1 : Int) (a0_2 : List UInt8) (a0_3 : List UInt8) (a0_4 : Int) (a0_5 : List UInt8) (a0_6 : Int) (a0_7 : Int) (a0_8 : Int) (a0_9 : Int) (a0_10 : Int) (a0_11 : Int) (a1_1 : List AV) : Option Res := evalK G run n f18_info.keep 0 f18_info.body (retE G f18_info) (f18_info.start [.agg [.agg [.int a0_1, .blob a0_2, .blob a0_3, .int a0_4], .blob a0_5, .int a0_6, .int a0_7, .int a0_8, .int a0_9, .int a0_10, .int a0_11], .slice a1_1])
theorem f18_eq (run : Run) (n : Nat) (a0_1 : Int) (a0_2 : List UInt8) (a0_3 : List UInt8) (a0_4 : Int) (a0_5 : List UInt8) (a0_6 : Int) (a0_7 : Int) (a0_8 : Int) (a0_9 : Int) (a0_10 : Int) (a0_11 : Int) (a1_1 : List AV) : f18 run n a0_1 a0_2 a0_3 a0_4 a0_5 a0_6 a0_7 a0_8 a0_9 a0_10 a0_11 a1_1 =
  (run 24 [.agg [.agg [.int a0_1, .blob a0_2, .blob a0_3, .int a0_4], .blob a0_5, .int a0_6, .int a0_7, .int a0_8, .int a0_9, .int a0_10, .int a0_11], .slice a1_1]).bind fun r1 =>
    nilV r1.outs (consV r1.vals fun v1 vs1 =>
    nilV vs1 (bif !(eqI v1.toInt 0) then
    some ⟨[.slice [], .int v1.toInt], [], f18_fresh⟩
  else
    (run 21 [.agg [.agg [.int a0_1, .blob a0_2, .blob a0_3, .int a0_4], .blob a0_5, .int a0_6, .int a0_7, .int a0_8, .int a0_9, .int a0_10, .int a0_11], .slice a1_1]).bind fun r2 =>
    bif r2.fresh then
    nilV r2.outs (consV r2.vals fun v2 vs2 =>
    nilV vs2 ((run 50 [.blob a0_5, .slice a1_1, .slice v2.toSlice]).bind fun r3 =>
    nilV r3.outs (consV r3.vals fun v3 vs3 =>
    consV vs3 fun v4 vs4 =>
    nilV vs4 (some ⟨[.slice v3.toSlice, .int v4.toInt], [], f18_fresh⟩))))
  else none)) := by kernel_rfl
theorem f18_run (ext : Run) (n : Nat) (a0_1 : Int) (a0_2 : List UInt8) (a0_3 : List UInt8) (a0_4 : Int) (a0_5 : List UInt8) (a0_6 : Int) (a0_7 : Int) (a0_8 : Int) (a0_9 : Int) (a0_10 : Int) (a0_11 : Int) (a1_1 : List AV) : runE G ext (n + 1) 18 [.agg [.agg [.int a0_1, .blob a0_2, .blob a0_3, .int a0_4], .blob a0_5, .int a0_6, .int a0_7, .int a0_8, .int a0_9, .int a0_10, .int a0_11], .slice a1_1] = f18 (runE G ext n) n a0_1 a0_2 a0_3 a0_4 a0_5 a0_6 a0_7 a0_8 a0_9 a0_10 a0_11 a1_1 := runE_succ f18_at f18_in

noncomputable def f61 (run : Run) (n : Nat) (a0_1 : List AV) (a1_1 : Int) : Option Res := evalK G run n f61_info.keep 0 f61_info.body (retE G f61_info) (f61_info.start [.slice a0_1, .int a1_1])
theorem f61_eq (run : Run) (n : Nat) (a0_1 : List AV) (a1_1 : Int) : f61 run n a0_1 a1_1 =
  (run 97 [.slice a0_1]).bind fun r1 =>
    nilV r1.outs (consV r1.vals fun v1 vs1 =>
    nilV vs1 (bif !(eqI v1.toInt 0) then
    some ⟨[.agg [.int 0, .int 0, .slice []], .int v1.toInt], [], f61_fresh⟩
  else
    (run 99 [.slice a0_1]).bind fun r2 =>
    bif r2.fresh then
    nilV r2.outs (consV r2.vals fun v2 vs2 =>
    nilV vs2 ((run 98 [.slice v2.toSlice, .int a1_1]).bind fun r3 =>
    nilV r3.outs (consV r3.vals fun v3 vs3 =>
    consV vs3 fun v4 vs4 =>
    nilV vs4 (some ⟨[.agg [.int ((v3.fld 0).toInt), .int ((v3.fld 1).toInt), .slice ((v3.fld 2).toSlice)], .int v4.toInt], [], f61_fresh⟩))))
  else none)) := by kernel_rfl
theorem f61_run (ext : Run) (n : Nat) (a0_1 : List AV) (a1_1 : Int) : runE G ext (n + 1) 61 [.slice a0_1, .int a1_1] = f61 (runE G ext n) n a0_1 a1_1 := runE_succ f61_at f61_in

noncomputable def f62_l0 (run : Run) (n : Nat) (k0 : Nat) (x0_1 : List AV) (x1_1 : Int) (x7_1 : List AV) (x8_1 : Int) (x9_1 : Int) : Option Res :=
  iterK (evalK G run n f62_keep 0 (sub [1, 0, 1, 0, 0] f62_body)) f62_t0 f62_o0 (blockK 0 (seqK (evalK G run n f62_keep 0 (sub [1, 1] f62_body) (retE G f62_info)) (retE G f62_info))) k0
    ⟨[.val (.slice (.int .i64)) none (.slice x0_1), .val (.int .i64) none (.int x1_1), .any, .any, .any, .any, .any, .val (.slice (.int .i64)) none (.slice x7_1), .val (.int .i64) none (.int x8_1), .val (.int .i64) none (.int x9_1), .any, .any, .any, .any, .any, .any, .any, .any, .any, .any, .any], [⟨0, none⟩, ⟨0, none⟩, ⟨0, none⟩, ⟨0, none⟩, ⟨0, none⟩, ⟨0, none⟩, ⟨0, none⟩, ⟨0, none⟩, ⟨0, none⟩, ⟨0, none⟩, ⟨0, none⟩, ⟨0, none⟩, ⟨0, none⟩, ⟨0, none⟩, ⟨0, none⟩, ⟨0, none⟩, ⟨0, none⟩, ⟨0, none⟩, ⟨0, none⟩, ⟨0, none⟩, ⟨0, none⟩], List.replicate 21 0⟩
theorem f62_l0_eq (run : Run) (n : Nat) (k0 : Nat) (x0_1 : List AV) (x1_1 : Int) (x7_1 : List AV) (x8_1 : Int) (x9_1 : Int) : f62_l0 run n (k0 + 1) x0_1 x1_1 x7_1 x8_1 x9_1 =
  bif ltI x9_1 x8_1 then
    bif inR x9_1 x7_1.length then
    bif leI x1_1 ((nth x7_1 (Int.toNat x9_1)).toInt) then
    some ⟨[.int x9_1], [], f62_fresh⟩
  else
    f62_l0 run n k0 x0_1 x1_1 x7_1 x8_1 (IntKind.wrap .i64 (x9_1 + 1))
  else none
  else
    some ⟨[.int (x0_1.length : Int)], [], f62_fresh⟩ := by kernel_rfl
noncomputable def f62 (run : Run) (n : Nat) (a0_1 : List AV) (a1_1 : Int) : Option Res := evalK G run n f62_info.keep 0 f62_info.body (retE G f62_info) (f62_info.start [.slice a0_1, .int a1_1])
theorem f62_eq (run : Run) (n : Nat) (a0_1 : List AV) (a1_1 : Int) : f62 run n a0_1 a1_1 =
  f62_l0 run n n a0_1 a1_1 a0_1 (a0_1.length : Int) 0 := by kernel_rfl
theorem f62_run (ext : Run) (n : Nat) (a0_1 : List AV) (a1_1 : Int) : runE G ext (n + 1) 62 [.slice a0_1, .int a1_1] = f62 (runE G ext n) n a0_1 a1_1 := runE_succ f62_at f62_in

noncomputable def f63 (run : Run) (n : Nat) (a0_1 : List UInt8) (a1_1 : List AV) (a2_1 : List AV) (a3_1 : Int) (a4_1 : Int) (a4_2 : List AV) (a4_3 : Int) (a4_4 : Int) (a4_5 : List AV) (a4_6 : Int) (a4_7 : List UInt8) (a4_8 : Int) (a4_9 : Int) (a4_10 : List AV) : Option Res := evalK G run n f63_info.keep 0 f63_info.body (retE G f63_info) (f63_info.start [.blob a0_1, .slice a1_1, .slice a2_1, .int a3_1, .agg [.int a4_1, .slice a4_2, .agg [.int a4_3, .int a4_4, .slice a4_5], .int a4_6, .str a4_7, .agg [.int a4_8, .int a4_9, .slice a4_10]]])
theorem f63_eq (run : Run) (n : Nat) (a0_1 : List UInt8) (a1_1 : List AV) (a2_1 : List AV) (a3_1 : Int) (a4_1 : Int) (a4_2 : List AV) (a4_3 : Int) (a4_4 : Int) (a4_5 : List AV) (a4_6 : Int) (a4_7 : List UInt8) (a4_8 : Int) (a4_9 : Int) (a4_10 : List AV) : f63 run n a0_1 a1_1 a2_1 a3_1 a4_1 a4_2 a4_3 a4_4 a4_5 a4_6 a4_7 a4_8 a4_9 a4_10 =
  bif inR (IntKind.wrap .i64 (a4_1 - 1)) a2_1.length then
    bif inR a4_1 a2_1.length then
    (run 13 [.blob a0_1, .slice a1_1]).bind fun r1 =>
    bif r1.fresh then
    nilV r1.outs (consV r1.vals fun v1 vs1 =>
    nilV vs1 ((run 27 [.slice v1.toSlice, .int ((nth a2_1 (Int.toNat a4_1)).toInt), .int a3_1, .int ((nth a2_1 (Int.toNat (IntKind.wrap .i64 (a4_1 - 1)))).toInt)]).bind fun r2 =>
    nilV r2.outs (consV r2.vals fun v2 vs2 =>
    nilV vs2 (bif Nat.ble ((1 + v2.toSlice.length) * 8) 140737488355328 then
    bif Nat.ble ((([.int ((nth a2_1 (Int.toNat (IntKind.wrap .i64 (a4_1 - 1)))).toInt)] ++ v2.toSlice : List AV).length + 1) * 8) 140737488355328 then
    (run 50 [.blob a0_1, .slice a1_1, .slice (([.int ((nth a2_1 (Int.toNat (IntKind.wrap .i64 (a4_1 - 1)))).toInt)] ++ v2.toSlice) ++ [.int ((nth a2_1 (Int.toNat a4_1)).toInt)])]).bind fun r3 =>
    nilV r3.outs (consV r3.vals fun v3 vs3 =>
    consV vs3 fun v4 vs4 =>
    nilV vs4 (bif !(eqI v4.toInt 0) then
    some ⟨[.agg [.int 0, .slice [], .agg [.int 0, .int 0, .slice []], .int 0, .str [], .agg [.int 0, .int 0, .slice []]], .int v4.toInt], [], f63_fresh⟩
  else
    bif boundsOk 1 (IntKind.wrap .i64 ((v3.toSlice.length : Int) - 1)) (v3.toSlice.length : Int) (v3.toSlice.length : Int) && true then
    bif inR (IntKind.wrap .i64 ((v3.toSlice.length : Int) - 1)) v3.toSlice.length then
    (run 62 [.slice v2.toSlice, .int a3_1]).bind fun r4 =>
    nilV r4.outs (consV r4.vals fun v5 vs5 =>
    nilV vs5 (some ⟨[.agg [.int a4_1, .slice (List.drop 1 (List.take (Int.toNat (IntKind.wrap .i64 ((v3.toSlice.length : Int) - 1))) v3.toSlice)), .agg [.int ((((nth v3.toSlice (Int.toNat (IntKind.wrap .i64 ((v3.toSlice.length : Int) - 1)))).fld 1).fld 0).toInt), .int ((((nth v3.toSlice (Int.toNat (IntKind.wrap .i64 ((v3.toSlice.length : Int) - 1)))).fld 1).fld 1).toInt), .slice ((((nth v3.toSlice (Int.toNat (IntKind.wrap .i64 ((v3.toSlice.length : Int) - 1)))).fld 1).fld 2).toSlice)], .int v5.toInt, .str a4_7, .agg [.int a4_8, .int a4_9, .slice a4_10]], .int 0], [], f63_fresh⟩))
  else none
  else none))
  else none
  else none))))
  else none
  else none
  else none := by kernel_rfl
theorem f63_run (ext : Run) (n : Nat) (a0_1 : List UInt8) (a1_1 : List AV) (a2_1 : List AV) (a3_1 : Int) (a4_1 : Int) (a4_2 : List AV) (a4_3 : Int) (a4_4 : Int) (a4_5 : List AV) (a4_6 : Int) (a4_7 : List UInt8) (a4_8 : Int) (a4_9 : Int) (a4_10 : List AV) : runE G ext (n + 1) 63 [.blob a0_1, .slice a1_1, .slice a2_1, .int a3_1, .agg [.int a4_1, .slice a4_2, .agg [.int a4_3, .int a4_4, .slice a4_5], .int a4_6, .str a4_7, .agg [.int a4_8, .int a4_9, .slice a4_10]]] = f63 (runE G ext n) n a0_1 a1_1 a2_1 a3_1 a4_1 a4_2 a4_3 a4_4 a4_5 a4_6 a4_7 a4_8 a4_9 a4_10 := runE_succ f63_at f63_in

end Go.Proofs.YtogehijjhibdkaaGreat.Ev
