/- What the evaluator does with the functions, as programs over plain values: printed by gen.py, checked by the kernel. -/
import Derived.Test.YtddcooedbibehaaEvFA
namespace Go.Proofs.Ytddcooedbibehaa.Ev
open Go Go.RowKit
set_option maxRecDepth 100000


noncomputable def f10_l0 (run : Run) (n : Nat) (k0 : Nat) (x0_1 : List AV) (x3_1 : Int) (x4_1 : Int) : Option Res :=
  iterK (evalK G run n f10_keep 0 (sub [1, 1, 0, 1, 0, 0] f10_body)) f10_t0 f10_o0 (blockK 0 (seqK (evalK G run n f10_keep 0 (sub [1, 1, 1] f10_body) (retE G f10_info)) (retE G f10_info))) k0
    ⟨[.val (.slice .str) none (.slice x0_1), .any, .any, .val (.int .i64) none (.int x3_1), .val (.int .i64) none (.int x4_1), .any, .any, .any, .any, .any, .any, .any, .any, .any, .any, .any, .any, .any, .any, .any, .any, .any, .any, .any, .any, .any, .any, .any, .any, .any], [⟨0, none⟩, ⟨0, none⟩, ⟨0, none⟩, ⟨0, none⟩, ⟨0, none⟩, ⟨0, none⟩, ⟨0, none⟩, ⟨0, none⟩, ⟨0, none⟩, ⟨0, none⟩, ⟨0, none⟩, ⟨0, none⟩, ⟨0, none⟩, ⟨0, none⟩, ⟨0, none⟩, ⟨0, none⟩, ⟨0, none⟩, ⟨0, none⟩, ⟨0, none⟩, ⟨0, none⟩, ⟨0, none⟩, ⟨0, none⟩, ⟨0, none⟩, ⟨0, none⟩, ⟨0, none⟩, ⟨0, none⟩, ⟨0, none⟩, ⟨0, none⟩, ⟨0, none⟩, ⟨0, none⟩], List.replicate 30 0⟩
theorem f10_l0_eq (run : Run) (n : Nat) (k0 : Nat) (x0_1 : List AV) (x3_1 : Int) (x4_1 : Int) : f10_l0 run n (k0 + 1) x0_1 x3_1 x4_1 =
  bif ltI x4_1 (x0_1.length : Int) then
    bif ltI x4_1 101 then
    bif inR x4_1 x0_1.length then
    f10_l0 run n k0 x0_1 (mn2 (IntKind.wrap .i64 (x3_1 + (((nth x0_1 (Int.toNat x4_1)).toStr).length : Int))) 1048576) (IntKind.wrap .i64 (x4_1 + 1))
  else none
  else
    bif ltI 100 (x0_1.length : Int) then
    some ⟨[.bool true], [], f10_fresh⟩
  else
    some ⟨[.bool (ltI 5000 x3_1)], [], f10_fresh⟩
  else
    bif ltI 100 (x0_1.length : Int) then
    some ⟨[.bool true], [], f10_fresh⟩
  else
    some ⟨[.bool (ltI 5000 x3_1)], [], f10_fresh⟩ := by kernel_rfl
noncomputable def f10 (run : Run) (n : Nat) (a0_1 : List AV) : Option Res := evalK G run n f10_info.keep 0 f10_info.body (retE G f10_info) (f10_info.start [.slice a0_1])
theorem f10_eq (run : Run) (n : Nat) (a0_1 : List AV) : f10 run n a0_1 =
  f10_l0 run n n a0_1 0 0 := by kernel_rfl
theorem f10_run (ext : Run) (n : Nat) (a0_1 : List AV) : runE G ext (n + 1) 10 [.slice a0_1] = f10 (runE G ext n) n a0_1 := runE_succ f10_at f10_in

noncomputable def f63_l0 (run : Run) (n : Nat) (k0 : Nat) (x0_1 : Int) (x1_1 : List AV) (x7_1 : List AV) (x8_1 : Int) (x9_1 : Int) : Option Res :=
  iterK (evalK G run n f63_keep 0 (sub [1, 0, 1, 0, 0] f63_body)) f63_t0 f63_o0 (blockK 0 (seqK (evalK G run n f63_keep 0 (sub [1, 1] f63_body) (retE G f63_info)) (retE G f63_info))) k0
    ⟨[.val (.int .i64) none (.int x0_1), .val (.slice (.int .i64)) none (.slice x1_1), .any, .any, .any, .any, .any, .val (.slice (.int .i64)) none (.slice x7_1), .val (.int .i64) none (.int x8_1), .val (.int .i64) none (.int x9_1), .any, .any, .any, .any, .any, .any, .any, .any, .any, .any, .any, .any, .any, .any, .any, .any, .any, .any, .any, .any, .any, .any, .any, .any, .any, .any, .any, .any], [⟨0, none⟩, ⟨0, none⟩, ⟨0, none⟩, ⟨0, none⟩, ⟨0, none⟩, ⟨0, none⟩, ⟨0, none⟩, ⟨0, none⟩, ⟨0, none⟩, ⟨0, none⟩, ⟨0, none⟩, ⟨0, none⟩, ⟨0, none⟩, ⟨0, none⟩, ⟨0, none⟩, ⟨0, none⟩, ⟨0, none⟩, ⟨0, none⟩, ⟨0, none⟩, ⟨0, none⟩, ⟨0, none⟩, ⟨0, none⟩, ⟨0, none⟩, ⟨0, none⟩, ⟨0, none⟩, ⟨0, none⟩, ⟨0, none⟩, ⟨0, none⟩, ⟨0, none⟩, ⟨0, none⟩, ⟨0, none⟩, ⟨0, none⟩, ⟨0, none⟩, ⟨0, none⟩, ⟨0, none⟩, ⟨0, none⟩, ⟨0, none⟩, ⟨0, none⟩], List.replicate 38 0⟩
theorem f63_l0_eq (run : Run) (n : Nat) (k0 : Nat) (x0_1 : Int) (x1_1 : List AV) (x7_1 : List AV) (x8_1 : Int) (x9_1 : Int) : f63_l0 run n (k0 + 1) x0_1 x1_1 x7_1 x8_1 x9_1 =
  bif ltI x9_1 x8_1 then
    bif inR x9_1 x7_1.length then
    bif ltI ((nth x7_1 (Int.toNat x9_1)).toInt) 0 then
    some ⟨[.bool false], [], f63_fresh⟩
  else
    bif leI x0_1 ((nth x7_1 (Int.toNat x9_1)).toInt) then
    some ⟨[.bool false], [], f63_fresh⟩
  else
    bif ltI 0 x9_1 then
    bif inR (IntKind.wrap .i64 (x9_1 - 1)) x1_1.length then
    bif leI ((nth x7_1 (Int.toNat x9_1)).toInt) ((nth x1_1 (Int.toNat (IntKind.wrap .i64 (x9_1 - 1)))).toInt) then
    some ⟨[.bool false], [], f63_fresh⟩
  else
    f63_l0 run n k0 x0_1 x1_1 x7_1 x8_1 (IntKind.wrap .i64 (x9_1 + 1))
  else none
  else
    f63_l0 run n k0 x0_1 x1_1 x7_1 x8_1 (IntKind.wrap .i64 (x9_1 + 1))
  else none
  else
    some ⟨[.bool (ltI 0 (x1_1.length : Int))], [], f63_fresh⟩ := by kernel_rfl
noncomputable def f63 (run : Run) (n : Nat) (a0_1 : Int) (a1_1 : List AV) : Option Res := evalK G run n f63_info.keep 0 f63_info.body (retE G f63_info) (f63_info.start [.int a0_1, .slice a1_1])
theorem f63_eq (run : Run) (n : Nat) (a0_1 : Int) (a1_1 : List AV) : f63 run n a0_1 a1_1 =
  f63_l0 run n n a0_1 a1_1 a1_1 (a1_1.length : Int) 0 := by kernel_rfl
theorem f63_run (ext : Run) (n : Nat) (a0_1 : Int) (a1_1 : List AV) : runE G ext (n + 1) 63 [.int a0_1, .slice a1_1] = f63 (runE G ext n) n a0_1 a1_1 := runE_succ f63_at f63_in

noncomputable def f36_l0 (run : Run) (n : Nat) (k0 : Nat) (x0_1 : Int) (x3_1 : Int) : Option Res :=
  iterK (evalK G run n f36_keep 0 (sub [1, 1, 1, 0, 0, 0] f36_body)) f36_t0 f36_o0 (blockK 0 (seqK (evalK G run n f36_keep 0 (sub [1, 1, 1, 1] f36_body) (retE G f36_info)) (retE G f36_info))) k0
    ⟨[.val (.int .i64) none (.int x0_1), .any, .any, .val (.int .i64) none (.int x3_1), .any, .any, .any, .any, .any, .any, .any, .any, .any, .any], [⟨0, none⟩, ⟨0, none⟩, ⟨0, none⟩, ⟨0, none⟩, ⟨0, none⟩, ⟨0, none⟩, ⟨0, none⟩, ⟨0, none⟩, ⟨0, none⟩, ⟨0, none⟩, ⟨0, none⟩, ⟨0, none⟩, ⟨0, none⟩, ⟨0, none⟩], List.replicate 14 0⟩
theorem f36_l0_eq (run : Run) (n : Nat) (k0 : Nat) (x0_1 : Int) (x3_1 : Int) : f36_l0 run n (k0 + 1) x0_1 x3_1 =
  bif leI x3_1 (IntKind.wrap .i64 (Int.tdiv (IntKind.wrap .i64 (x0_1 - 1)) 2)) then
    f36_l0 run n k0 x0_1 (IntKind.wrap .i64 (x3_1 * 2))
  else
    some ⟨[.int x3_1], [], f36_fresh⟩ := by kernel_rfl
noncomputable def f36 (run : Run) (n : Nat) (a0_1 : Int) : Option Res := evalK G run n f36_info.keep 0 f36_info.body (retE G f36_info) (f36_info.start [.int a0_1])
theorem f36_eq (run : Run) (n : Nat) (a0_1 : Int) : f36 run n a0_1 =
  bif ltI a0_1 2 then
    some ⟨[.int 0], [], f36_fresh⟩
  else
    f36_l0 run n n a0_1 1 := by kernel_rfl
theorem f36_run (ext : Run) (n : Nat) (a0_1 : Int) : runE G ext (n + 1) 36 [.int a0_1] = f36 (runE G ext n) n a0_1 := runE_succ f36_at f36_in

noncomputable def f37_l2 (run : Run) (n : Nat) (_k0 : Nat) (k2 : Nat) (x0_3 : List AV) (x1_3 : Int) (x6_3 : Int) (x7_1 : List AV) (x26_1 : List AV) (x27_1 : Int) (x28_1 : Int) : Option Res :=
  iterK (evalK G run n f37_keep 2 (sub [1, 1, 1, 1, 0, 1, 0, 0] f37_body)) f37_t2 f37_o2 (blockK 2 (seqK (evalK G run n f37_keep 0 (sub [1, 1, 1, 1, 1] f37_body) (retE G f37_info)) (retE G f37_info))) k2
    ⟨[.val (.slice (.int .i64)) none (.slice x0_3), .val (.int .i64) none (.int x1_3), .any, .any, .any, .any, .val (.int .i64) none (.int x6_3), .val (.slice (.int .i64)) (some (7, 0)) (.slice x7_1), .any, .any, .any, .any, .any, .any, .any, .any, .any, .any, .any, .any, .any, .any, .any, .any, .any, .any, .val (.slice (.int .i64)) none (.slice x26_1), .val (.int .i64) none (.int x27_1), .val (.int .i64) none (.int x28_1), .any, .any, .any, .any, .any, .any, .any, .any, .any, .any, .any, .any, .any, .any], [⟨0, none⟩, ⟨0, none⟩, ⟨0, none⟩, ⟨0, none⟩, ⟨0, none⟩, ⟨0, none⟩, ⟨0, none⟩, ⟨0, none⟩, ⟨0, none⟩, ⟨0, none⟩, ⟨0, none⟩, ⟨0, none⟩, ⟨0, none⟩, ⟨0, none⟩, ⟨0, none⟩, ⟨0, none⟩, ⟨0, none⟩, ⟨0, none⟩, ⟨0, none⟩, ⟨0, none⟩, ⟨0, none⟩, ⟨0, none⟩, ⟨0, none⟩, ⟨0, none⟩, ⟨0, none⟩, ⟨0, none⟩, ⟨0, none⟩, ⟨0, none⟩, ⟨0, none⟩, ⟨0, none⟩, ⟨0, none⟩, ⟨0, none⟩, ⟨0, none⟩, ⟨0, none⟩, ⟨0, none⟩, ⟨0, none⟩, ⟨0, none⟩, ⟨0, none⟩, ⟨0, none⟩, ⟨0, none⟩, ⟨0, none⟩, ⟨0, none⟩, ⟨0, none⟩], List.replicate 43 0⟩
noncomputable def f37_l0 (run : Run) (n : Nat) (k0 : Nat) (x0_1 : List AV) (x1_1 : Int) (x6_1 : Int) : Option Res :=
  iterK (evalK G run n f37_keep 0 (sub [1, 1, 0, 0, 0] f37_body)) f37_t0 f37_o0 (blockK 0 (seqK (evalK G run n f37_keep 0 (sub [1, 1, 1] f37_body) (retE G f37_info)) (retE G f37_info))) k0
    ⟨[.val (.slice (.int .i64)) none (.slice x0_1), .val (.int .i64) none (.int x1_1), .any, .any, .any, .any, .val (.int .i64) none (.int x6_1), .any, .any, .any, .any, .any, .any, .any, .any, .any, .any, .any, .any, .any, .any, .any, .any, .any, .any, .any, .any, .any, .any, .any, .any, .any, .any, .any, .any, .any, .any, .any, .any, .any, .any, .any, .any], [⟨0, none⟩, ⟨0, none⟩, ⟨0, none⟩, ⟨0, none⟩, ⟨0, none⟩, ⟨0, none⟩, ⟨0, none⟩, ⟨0, none⟩, ⟨0, none⟩, ⟨0, none⟩, ⟨0, none⟩, ⟨0, none⟩, ⟨0, none⟩, ⟨0, none⟩, ⟨0, none⟩, ⟨0, none⟩, ⟨0, none⟩, ⟨0, none⟩, ⟨0, none⟩, ⟨0, none⟩, ⟨0, none⟩, ⟨0, none⟩, ⟨0, none⟩, ⟨0, none⟩, ⟨0, none⟩, ⟨0, none⟩, ⟨0, none⟩, ⟨0, none⟩, ⟨0, none⟩, ⟨0, none⟩, ⟨0, none⟩, ⟨0, none⟩, ⟨0, none⟩, ⟨0, none⟩, ⟨0, none⟩, ⟨0, none⟩, ⟨0, none⟩, ⟨0, none⟩, ⟨0, none⟩, ⟨0, none⟩, ⟨0, none⟩, ⟨0, none⟩, ⟨0, none⟩], List.replicate 43 0⟩
theorem f37_l2_eq (run : Run) (n : Nat) (k0 : Nat) (k2 : Nat) (x0_3 : List AV) (x1_3 : Int) (x6_3 : Int) (x7_1 : List AV) (x26_1 : List AV) (x27_1 : Int) (x28_1 : Int) : f37_l2 run n k0 (k2 + 1) x0_3 x1_3 x6_3 x7_1 x26_1 x27_1 x28_1 =
  bif ltI x28_1 x27_1 then
    bif inR x28_1 x26_1.length then
    bif Nat.ble ((x7_1.length + 1) * 8) 140737488355328 then
    f37_l2 run n k0 k2 x0_3 x1_3 x6_3 (x7_1 ++ [.int (IntKind.wrap .i64 ((nth x26_1 (Int.toNat x28_1)).toInt - x1_3))]) x26_1 x27_1 (IntKind.wrap .i64 (x28_1 + 1))
  else none
  else none
  else
    bif boundsOk 0 x6_3 (x0_3.length : Int) (x0_3.length : Int) && true then
    some ⟨[.slice (List.drop 0 (List.take (Int.toNat x6_3) x0_3)), .slice x7_1], [], f37_fresh⟩
  else none := by kernel_rfl
theorem f37_l0_eq (run : Run) (n : Nat) (k0 : Nat) (x0_1 : List AV) (x1_1 : Int) (x6_1 : Int) : f37_l0 run n (k0 + 1) x0_1 x1_1 x6_1 =
  bif ltI x6_1 (x0_1.length : Int) then
    bif inR x6_1 x0_1.length then
    bif ltI ((nth x0_1 (Int.toNat x6_1)).toInt) x1_1 then
    f37_l0 run n k0 x0_1 x1_1 (IntKind.wrap .i64 (x6_1 + 1))
  else
    bif boundsOk x6_1 (x0_1.length : Int) (x0_1.length : Int) (x0_1.length : Int) && true then
    f37_l2 run n k0 n x0_1 x1_1 x6_1 [] (List.drop (Int.toNat x6_1) (List.take (Int.toNat (x0_1.length : Int)) x0_1)) ((List.drop (Int.toNat x6_1) (List.take (Int.toNat (x0_1.length : Int)) x0_1)).length : Int) 0
  else none
  else none
  else
    bif boundsOk x6_1 (x0_1.length : Int) (x0_1.length : Int) (x0_1.length : Int) && true then
    f37_l2 run n k0 n x0_1 x1_1 x6_1 [] (List.drop (Int.toNat x6_1) (List.take (Int.toNat (x0_1.length : Int)) x0_1)) ((List.drop (Int.toNat x6_1) (List.take (Int.toNat (x0_1.length : Int)) x0_1)).length : Int) 0
  else none := by kernel_rfl
noncomputable def f37 (run : Run) (n : Nat) (a0_1 : List AV) (a1_1 : Int) : Option Res := evalK G run n f37_info.keep 0 f37_info.body (retE G f37_info) (f37_info.start [.slice a0_1, .int a1_1])
theorem f37_eq (run : Run) (n : Nat) (a0_1 : List AV) (a1_1 : Int) : f37 run n a0_1 a1_1 =
  f37_l0 run n n a0_1 a1_1 0 := by kernel_rfl
theorem f37_run (ext : Run) (n : Nat) (a0_1 : List AV) (a1_1 : Int) : runE G ext (n + 1) 37 [.slice a0_1, .int a1_1] = f37 (runE G ext n) n a0_1 a1_1 := runE_succ f37_at f37_in

noncomputable def f64 (run : Run) (n : Nat) (a0_1 : Int) (a1_1 : List AV) : Option Res := evalK G run n f64_info.keep 0 f64_info.body (retE G f64_info) (f64_info.start [.int a0_1, .slice a1_1])
theorem f64_eq (run : Run) (n : Nat) (a0_1 : Int) (a1_1 : List AV) : f64 run n a0_1 a1_1 =
  bif eqI (a1_1.length : Int) 0 then
    some ⟨[.int 1], [], f64_fresh⟩
  else
    bif eqI a0_1 1 then
    some ⟨[.int 0], [], f64_fresh⟩
  else
    (run 36 [.int a0_1]).bind fun r1 =>
    nilV r1.outs (consV r1.vals fun v1 vs1 =>
    nilV vs1 ((run 37 [.slice a1_1, .int v1.toInt]).bind fun r2 =>
    nilV r2.outs (consV r2.vals fun v2 vs2 =>
    consV vs2 fun v3 vs3 =>
    nilV vs3 ((run 64 [.int v1.toInt, .slice v2.toSlice]).bind fun r3 =>
    nilV r3.outs (consV r3.vals fun v4 vs4 =>
    nilV vs4 ((run 64 [.int (IntKind.wrap .i64 (a0_1 - v1.toInt)), .slice v3.toSlice]).bind fun r4 =>
    nilV r4.outs (consV r4.vals fun v5 vs5 =>
    nilV vs5 (some ⟨[.int (IntKind.wrap .i64 (v4.toInt + v5.toInt))], [], f64_fresh⟩)))))))) := by kernel_rfl
theorem f64_run (ext : Run) (n : Nat) (a0_1 : Int) (a1_1 : List AV) : runE G ext (n + 1) 64 [.int a0_1, .slice a1_1] = f64 (runE G ext n) n a0_1 a1_1 := runE_succ f64_at f64_in

noncomputable def f32 (run : Run) (n : Nat) (a0_1 : Int) (a1_1 : List AV) : Option Res := evalK G run n f32_info.keep 0 f32_info.body (retE G f32_info) (f32_info.start [.int a0_1, .slice a1_1])
theorem f32_eq (run : Run) (n : Nat) (a0_1 : Int) (a1_1 : List AV) : f32 run n a0_1 a1_1 =
  (run 63 [.int a0_1, .slice a1_1]).bind fun r1 =>
    nilV r1.outs (consV r1.vals fun v1 vs1 =>
    nilV vs1 (bif !v1.toBool then
    some ⟨[.int (-1)], [], f32_fresh⟩
  else
    (run 64 [.int a0_1, .slice a1_1]).bind fun r2 =>
    nilV r2.outs (consV r2.vals fun v2 vs2 =>
    nilV vs2 (some ⟨[.int v2.toInt], [], f32_fresh⟩)))) := by kernel_rfl
theorem f32_run (ext : Run) (n : Nat) (a0_1 : Int) (a1_1 : List AV) : runE G ext (n + 1) 32 [.int a0_1, .slice a1_1] = f32 (runE G ext n) n a0_1 a1_1 := runE_succ f32_at f32_in

noncomputable def f11 (run : Run) (n : Nat) : Option Res := evalK G run n f11_info.keep 0 f11_info.body (retE G f11_info) (f11_info.start [])
theorem f11_eq (run : Run) (n : Nat) : f11 run n  =
  (run 32 [.int 4, .slice [.int 0, .int 1]]).bind fun r1 =>
    nilV r1.outs (consV r1.vals fun v1 vs1 =>
    nilV vs1 (bif eqI v1.toInt 1 then
    (run 32 [.int 4, .slice [.int 0, .int 1, .int 2, .int 3]]).bind fun r2 =>
    nilV r2.outs (consV r2.vals fun v2 vs2 =>
    nilV vs2 (bif eqI v2.toInt 0 then
    (run 32 [.int 4, .slice []]).bind fun r3 =>
    nilV r3.outs (consV r3.vals fun v3 vs3 =>
    nilV vs3 (some ⟨[.bool (eqI v3.toInt (-1))], [], f11_fresh⟩))
  else
    some ⟨[.bool false], [], f11_fresh⟩))
  else
    some ⟨[.bool false], [], f11_fresh⟩)) := by kernel_rfl
theorem f11_run (ext : Run) (n : Nat) : runE G ext (n + 1) 11 [] = f11 (runE G ext n) n  := runE_succ f11_at f11_in

noncomputable def f33 (run : Run) (n : Nat) (a0_1 : Int) (a1_1 : Int) (a1_2 : List AV) (a1_3 : List AV) : Option Res := evalK G run n f33_info.keep 0 f33_info.body (retE G f33_info) (f33_info.start [.int a0_1, .agg [.int a1_1, .slice a1_2, .slice a1_3]])
theorem f33_eq (run : Run) (n : Nat) (a0_1 : Int) (a1_1 : Int) (a1_2 : List AV) (a1_3 : List AV) : f33 run n a0_1 a1_1 a1_2 a1_3 =
  bif ltI a1_1 1 then
    some ⟨[.int 3], [], f33_fresh⟩
  else
    bif ltI 1048576 a1_1 then
    some ⟨[.int 3], [], f33_fresh⟩
  else
    (run 63 [.int a1_1, .slice a1_2]).bind fun r1 =>
    nilV r1.outs (consV r1.vals fun v1 vs1 =>
    nilV vs1 (bif !v1.toBool then
    some ⟨[.int 3], [], f33_fresh⟩
  else
    bif !(eqI a0_1 (a1_2.length : Int)) then
    some ⟨[.int 2], [], f33_fresh⟩
  else
    (run 64 [.int a1_1, .slice a1_2]).bind fun r2 =>
    nilV r2.outs (consV r2.vals fun v2 vs2 =>
    nilV vs2 (bif !(eqI (a1_3.length : Int) v2.toInt) then
    some ⟨[.int 2], [], f33_fresh⟩
  else
    some ⟨[.int 0], [], f33_fresh⟩)))) := by kernel_rfl
theorem f33_run (ext : Run) (n : Nat) (a0_1 : Int) (a1_1 : Int) (a1_2 : List AV) (a1_3 : List AV) : runE G ext (n + 1) 33 [.int a0_1, .agg [.int a1_1, .slice a1_2, .slice a1_3]] = f33 (runE G ext n) n a0_1 a1_1 a1_2 a1_3 := runE_succ f33_at f33_in

noncomputable def f98 (run : Run) (n : Nat) (a0_1 : Int) (a1_1 : List AV) : Option Res := evalK G run n f98_info.keep 0 f98_info.body (retE G f98_info) (f98_info.start [.int a0_1, .slice a1_1])
theorem f98_eq (run : Run) (n : Nat) (a0_1 : Int) (a1_1 : List AV) : f98 run n a0_1 a1_1 =
  (run 118 [.slice a1_1, .str []]).bind fun r1 =>
    nilV r1.outs (consV r1.vals fun v1 vs1 =>
    nilV vs1 (bif Nat.ble ((bytesOf [.int a0_1]).length + v1.toStr.length) maxLen then
    some ⟨[.str ((bytesOf [.int a0_1]) ++ v1.toStr)], [], f98_fresh⟩
  else none)) := by kernel_rfl
theorem f98_run (ext : Run) (n : Nat) (a0_1 : Int) (a1_1 : List AV) : runE G ext (n + 1) 98 [.int a0_1, .slice a1_1] = f98 (runE G ext n) n a0_1 a1_1 := runE_succ f98_at f98_in

noncomputable def f99 (run : Run) (n : Nat) (a0_1 : List UInt8) : Option Res := evalK G run n f99_info.keep 0 f99_info.body (retE G f99_info) (f99_info.start [.str a0_1])
theorem f99_eq (run : Run) (n : Nat) (a0_1 : List UInt8) : f99 run n a0_1 =
  (run 98 [.int 0, .slice [.str a0_1]]).bind fun r1 =>
    nilV r1.outs (consV r1.vals fun v1 vs1 =>
    nilV vs1 (some ⟨[.str v1.toStr], [], f99_fresh⟩)) := by kernel_rfl
theorem f99_run (ext : Run) (n : Nat) (a0_1 : List UInt8) : runE G ext (n + 1) 99 [.str a0_1] = f99 (runE G ext n) n a0_1 := runE_succ f99_at f99_in

noncomputable def f95 (run : Run) (n : Nat) : Option Res := evalK G run n f95_info.keep 0 f95_info.body (retE G f95_info) (f95_info.start [])
theorem f95_eq (run : Run) (n : Nat) : f95 run n  =
  some ⟨[.agg [.agg (List.replicate 8 (.int 0)), .str [], .int 0, .bool false]], [], f95_fresh⟩ := by kernel_rfl
theorem f95_run (ext : Run) (n : Nat) : runE G ext (n + 1) 95 [] = f95 (runE G ext n) n  := runE_succ f95_at f95_in

noncomputable def f115 (run : Run) (n : Nat) : Option Res := evalK G run n f115_info.keep 0 f115_info.body (retE G f115_info) (f115_info.start [])
theorem f115_eq (run : Run) (n : Nat) : f115 run n  =
  some ⟨[.agg [.int 1779033703, .int 3144134277, .int 1013904242, .int 2773480762, .int 1359893119, .int 2600822924, .int 528734635, .int 1541459225]], [], f115_fresh⟩ := by kernel_rfl
theorem f115_run (ext : Run) (n : Nat) : runE G ext (n + 1) 115 [] = f115 (runE G ext n) n  := runE_succ f115_at f115_in

noncomputable def f104_l0 (run : Run) (n : Nat) (k0 : Nat) (x0_1 : List UInt8) (x1_1 : Int) (x7_1 : Int) (x9_1 : Int) (x10_1 : Int) : Option Res :=
  iterK (evalK G run n f104_keep 0 (sub [1, 1, 0, 1, 0, 0] f104_body)) f104_t0 f104_o0 (blockK 0 (seqK (evalK G run n f104_keep 0 (sub [1, 1, 1] f104_body) (retE G f104_info)) (retE G f104_info))) k0
    ⟨[.val .str none (.str x0_1), .val (.int .i64) none (.int x1_1), .any, .any, .any, .any, .any, .val (.int .u64) none (.int x7_1), .any, .val (.int .i64) none (.int x9_1), .val (.int .i64) none (.int x10_1), .any, .any, .any, .any, .any, .any, .any, .any, .any, .any, .any, .any, .any, .any, .any, .any, .any, .any, .any, .any, .any, .any, .any, .any, .any, .any, .any, .any, .any, .any], [⟨0, none⟩, ⟨0, none⟩, ⟨0, none⟩, ⟨0, none⟩, ⟨0, none⟩, ⟨0, none⟩, ⟨0, none⟩, ⟨0, none⟩, ⟨0, none⟩, ⟨0, none⟩, ⟨0, none⟩, ⟨0, none⟩, ⟨0, none⟩, ⟨0, none⟩, ⟨0, none⟩, ⟨0, none⟩, ⟨0, none⟩, ⟨0, none⟩, ⟨0, none⟩, ⟨0, none⟩, ⟨0, none⟩, ⟨0, none⟩, ⟨0, none⟩, ⟨0, none⟩, ⟨0, none⟩, ⟨0, none⟩, ⟨0, none⟩, ⟨0, none⟩, ⟨0, none⟩, ⟨0, none⟩, ⟨0, none⟩, ⟨0, none⟩, ⟨0, none⟩, ⟨0, none⟩, ⟨0, none⟩, ⟨0, none⟩, ⟨0, none⟩, ⟨0, none⟩, ⟨0, none⟩, ⟨0, none⟩, ⟨0, none⟩], List.replicate 41 0⟩
theorem f104_l0_eq (run : Run) (n : Nat) (k0 : Nat) (x0_1 : List UInt8) (x1_1 : Int) (x7_1 : Int) (x9_1 : Int) (x10_1 : Int) : f104_l0 run n (k0 + 1) x0_1 x1_1 x7_1 x9_1 x10_1 =
  bif ltI x10_1 x9_1 then
    bif leI 0 x1_1 then
    bif ltI x1_1 (x0_1.length : Int) then
    bif ltI x10_1 (IntKind.wrap .i64 ((x0_1.length : Int) - x1_1)) then
    bif inR (IntKind.wrap .i64 (x1_1 + x10_1)) x0_1.length then
    f104_l0 run n k0 x0_1 x1_1 (IntKind.wrap .u64 (BitVec.toNat (BitVec.ofInt 64 (IntKind.wrap .u64 (x7_1 * 2 ^ 8)) ||| BitVec.ofInt 64 (IntKind.wrap .u64 ((x0_1.getD (Int.toNat (IntKind.wrap .i64 (x1_1 + x10_1))) 0).toNat : Int))))) x9_1 (IntKind.wrap .i64 (x10_1 + 1))
  else none
  else
    f104_l0 run n k0 x0_1 x1_1 (IntKind.wrap .u64 (x7_1 * 2 ^ 8)) x9_1 (IntKind.wrap .i64 (x10_1 + 1))
  else
    f104_l0 run n k0 x0_1 x1_1 (IntKind.wrap .u64 (x7_1 * 2 ^ 8)) x9_1 (IntKind.wrap .i64 (x10_1 + 1))
  else
    f104_l0 run n k0 x0_1 x1_1 (IntKind.wrap .u64 (x7_1 * 2 ^ 8)) x9_1 (IntKind.wrap .i64 (x10_1 + 1))
  else
    some ⟨[.int x7_1], [], f104_fresh⟩ := by kernel_rfl
noncomputable def f104 (run : Run) (n : Nat) (a0_1 : List UInt8) (a1_1 : Int) (a2_1 : Int) : Option Res := evalK G run n f104_info.keep 0 f104_info.body (retE G f104_info) (f104_info.start [.str a0_1, .int a1_1, .int a2_1])
theorem f104_eq (run : Run) (n : Nat) (a0_1 : List UInt8) (a1_1 : Int) (a2_1 : Int) : f104 run n a0_1 a1_1 a2_1 =
  f104_l0 run n n a0_1 a1_1 0 a2_1 0 := by kernel_rfl
theorem f104_run (ext : Run) (n : Nat) (a0_1 : List UInt8) (a1_1 : Int) (a2_1 : Int) : runE G ext (n + 1) 104 [.str a0_1, .int a1_1, .int a2_1] = f104 (runE G ext n) n a0_1 a1_1 a2_1 := runE_succ f104_at f104_in

noncomputable def f135 (run : Run) (n : Nat) (a0_1 : List UInt8) (a1_1 : Int) : Option Res := evalK G run n f135_info.keep 0 f135_info.body (retE G f135_info) (f135_info.start [.str a0_1, .int a1_1])
theorem f135_eq (run : Run) (n : Nat) (a0_1 : List UInt8) (a1_1 : Int) : f135 run n a0_1 a1_1 =
  (run 104 [.str a0_1, .int a1_1, .int 4]).bind fun r1 =>
    nilV r1.outs (consV r1.vals fun v1 vs1 =>
    nilV vs1 (some ⟨[.int (IntKind.wrap .u32 v1.toInt)], [], f135_fresh⟩)) := by kernel_rfl
theorem f135_run (ext : Run) (n : Nat) (a0_1 : List UInt8) (a1_1 : Int) : runE G ext (n + 1) 135 [.str a0_1, .int a1_1] = f135 (runE G ext n) n a0_1 a1_1 := runE_succ f135_at f135_in

noncomputable def f126 (run : Run) (n : Nat) (a0_1 : Int) (a1_1 : Int) : Option Res := evalK G run n f126_info.keep 0 f126_info.body (retE G f126_info) (f126_info.start [.int a0_1, .int a1_1])
theorem f126_eq (run : Run) (n : Nat) (a0_1 : Int) (a1_1 : Int) : f126 run n a0_1 a1_1 =
  bif leI 0 (IntKind.wrap .u64 (BitVec.toNat (BitVec.ofInt 64 (IntKind.wrap .u64 a1_1) &&& BitVec.ofInt 64 31))) then
    bif leI 0 (IntKind.wrap .u64 (32 - IntKind.wrap .u64 (BitVec.toNat (BitVec.ofInt 64 (IntKind.wrap .u64 a1_1) &&& BitVec.ofInt 64 31)))) then
    some ⟨[.int (IntKind.wrap .u32 (BitVec.toNat (BitVec.ofInt 32 (Int.fdiv a0_1 (2 ^ (min (Int.toNat (IntKind.wrap .u64 (BitVec.toNat (BitVec.ofInt 64 (IntKind.wrap .u64 a1_1) &&& BitVec.ofInt 64 31)))) 32))) ||| BitVec.ofInt 32 (IntKind.wrap .u32 (a0_1 * 2 ^ (min (Int.toNat (IntKind.wrap .u64 (32 - IntKind.wrap .u64 (BitVec.toNat (BitVec.ofInt 64 (IntKind.wrap .u64 a1_1) &&& BitVec.ofInt 64 31))))) 32))))))], [], f126_fresh⟩
  else none
  else none := by kernel_rfl
theorem f126_run (ext : Run) (n : Nat) (a0_1 : Int) (a1_1 : Int) : runE G ext (n + 1) 126 [.int a0_1, .int a1_1] = f126 (runE G ext n) n a0_1 a1_1 := runE_succ f126_at f126_in

noncomputable def f124_l0 (run : Run) (n : Nat) (k0 : Nat) (x0_1 : List UInt8) (x9_1 : Int) (o2_1 : List AV) (o3_1 : List AV) : Option Res :=
  iterK (evalK G run n f124_keep 0 (sub [1, 1, 0, 1, 0, 0] f124_body)) f124_t0 f124_o0 (blockK 0 (seqK (evalK G run n f124_keep 0 (sub [1, 1, 1] f124_body) (retE G f124_info)) (retE G f124_info))) k0
    ⟨[.val .str none (.str x0_1), .any, .ptr ⟨(.arr 64 (.int .u32)), 2, 1, []⟩, .ptr ⟨(.arr 64 (.int .u32)), 3, 1, []⟩, .any, .any, .any, .any, .any, .val (.int .i64) none (.int x9_1), .any, .any, .any, .any, .any, .any, .any, .any, .any, .any, .any, .any, .any, .any, .any, .any, .any, .any, .any, .any, .any, .any, .any, .any, .any, .any, .any, .any, .any, .any, .any, .any, .any, .any, .any, .any, .any, .any, .any, .any, .any, .any, .any, .any, .any, .any, .any, .any, .any, .any, .any], [⟨0, none⟩, ⟨0, none⟩, ⟨1, some ⟨(.arr 64 (.int .u32)), .agg o2_1⟩⟩, ⟨1, some ⟨(.arr 64 (.int .u32)), .agg o3_1⟩⟩, ⟨0, none⟩, ⟨0, none⟩, ⟨0, none⟩, ⟨0, none⟩, ⟨0, none⟩, ⟨0, none⟩, ⟨0, none⟩, ⟨0, none⟩, ⟨0, none⟩, ⟨0, none⟩, ⟨0, none⟩, ⟨0, none⟩, ⟨0, none⟩, ⟨0, none⟩, ⟨0, none⟩, ⟨0, none⟩, ⟨0, none⟩, ⟨0, none⟩, ⟨0, none⟩, ⟨0, none⟩, ⟨0, none⟩, ⟨0, none⟩, ⟨0, none⟩, ⟨0, none⟩, ⟨0, none⟩, ⟨0, none⟩, ⟨0, none⟩, ⟨0, none⟩, ⟨0, none⟩, ⟨0, none⟩, ⟨0, none⟩, ⟨0, none⟩, ⟨0, none⟩, ⟨0, none⟩, ⟨0, none⟩, ⟨0, none⟩, ⟨0, none⟩, ⟨0, none⟩, ⟨0, none⟩, ⟨0, none⟩, ⟨0, none⟩, ⟨0, none⟩, ⟨0, none⟩, ⟨0, none⟩, ⟨0, none⟩, ⟨0, none⟩, ⟨0, none⟩, ⟨0, none⟩, ⟨0, none⟩, ⟨0, none⟩, ⟨0, none⟩, ⟨0, none⟩, ⟨0, none⟩, ⟨0, none⟩, ⟨0, none⟩, ⟨0, none⟩, ⟨0, none⟩], List.replicate 61 0⟩
theorem f124_l0_eq (run : Run) (n : Nat) (k0 : Nat) (x0_1 : List UInt8) (x9_1 : Int) (o2_1 : List AV) (o3_1 : List AV) : f124_l0 run n (k0 + 1) x0_1 x9_1 o2_1 o3_1 =
  bif ltI x9_1 64 then
    bif ltI x9_1 16 then
    (run 135 [.str x0_1, .int (IntKind.wrap .i64 (4 * x9_1))]).bind fun r1 =>
    nilV r1.outs (consV r1.vals fun v1 vs1 =>
    nilV vs1 (bif inR x9_1 64 then
    f124_l0 run n k0 x0_1 (IntKind.wrap .i64 (x9_1 + 1)) o2_1 (o3_1.set (Int.toNat x9_1) (.int v1.toInt))
  else none))
  else
    bif inR (IntKind.wrap .i64 (x9_1 - 15)) 64 then
    bif inR (IntKind.wrap .i64 (x9_1 - 2)) 64 then
    (run 126 [.int ((AV.fld (.agg o3_1) (Int.toNat (IntKind.wrap .i64 (x9_1 - 15)))).toInt), .int 7]).bind fun r2 =>
    nilV r2.outs (consV r2.vals fun v2 vs2 =>
    nilV vs2 ((run 126 [.int ((AV.fld (.agg o3_1) (Int.toNat (IntKind.wrap .i64 (x9_1 - 15)))).toInt), .int 18]).bind fun r3 =>
    nilV r3.outs (consV r3.vals fun v3 vs3 =>
    nilV vs3 ((run 126 [.int ((AV.fld (.agg o3_1) (Int.toNat (IntKind.wrap .i64 (x9_1 - 2)))).toInt), .int 17]).bind fun r4 =>
    nilV r4.outs (consV r4.vals fun v4 vs4 =>
    nilV vs4 ((run 126 [.int ((AV.fld (.agg o3_1) (Int.toNat (IntKind.wrap .i64 (x9_1 - 2)))).toInt), .int 19]).bind fun r5 =>
    nilV r5.outs (consV r5.vals fun v5 vs5 =>
    nilV vs5 (bif inR (IntKind.wrap .i64 (x9_1 - 16)) 64 then
    bif inR (IntKind.wrap .i64 (x9_1 - 7)) 64 then
    bif inR x9_1 64 then
    f124_l0 run n k0 x0_1 (IntKind.wrap .i64 (x9_1 + 1)) o2_1 (o3_1.set (Int.toNat x9_1) (.int (IntKind.wrap .u32 (IntKind.wrap .u32 (IntKind.wrap .u32 ((AV.fld (.agg o3_1) (Int.toNat (IntKind.wrap .i64 (x9_1 - 16)))).toInt + IntKind.wrap .u32 (BitVec.toNat (BitVec.ofInt 32 (IntKind.wrap .u32 (BitVec.toNat (BitVec.ofInt 32 v2.toInt ^^^ BitVec.ofInt 32 v3.toInt))) ^^^ BitVec.ofInt 32 (Int.fdiv ((AV.fld (.agg o3_1) (Int.toNat (IntKind.wrap .i64 (x9_1 - 15)))).toInt) (2 ^ 3))))) + (AV.fld (.agg o3_1) (Int.toNat (IntKind.wrap .i64 (x9_1 - 7)))).toInt) + IntKind.wrap .u32 (BitVec.toNat (BitVec.ofInt 32 (IntKind.wrap .u32 (BitVec.toNat (BitVec.ofInt 32 v4.toInt ^^^ BitVec.ofInt 32 v5.toInt))) ^^^ BitVec.ofInt 32 (Int.fdiv ((AV.fld (.agg o3_1) (Int.toNat (IntKind.wrap .i64 (x9_1 - 2)))).toInt) (2 ^ 10))))))))
  else none
  else none
  else none))))))))
  else none
  else none
  else
    some ⟨[.agg o3_1], [], f124_fresh⟩ := by kernel_rfl
noncomputable def f124 (run : Run) (n : Nat) (a0_1 : List UInt8) : Option Res := evalK G run n f124_info.keep 0 f124_info.body (retE G f124_info) (f124_info.start [.str a0_1])
theorem f124_eq (run : Run) (n : Nat) (a0_1 : List UInt8) : f124 run n a0_1 =
  f124_l0 run n n a0_1 0 (List.replicate 64 (.int 0)) (List.replicate 64 (.int 0)) := by kernel_rfl
theorem f124_run (ext : Run) (n : Nat) (a0_1 : List UInt8) : runE G ext (n + 1) 124 [.str a0_1] = f124 (runE G ext n) n a0_1 := runE_succ f124_at f124_in

noncomputable def f125 (run : Run) (n : Nat) : Option Res := evalK G run n f125_info.keep 0 f125_info.body (retE G f125_info) (f125_info.start [])
theorem f125_eq (run : Run) (n : Nat) : f125 run n  =
  some ⟨[.agg [.int 1116352408, .int 1899447441, .int 3049323471, .int 3921009573, .int 961987163, .int 1508970993, .int 2453635748, .int 2870763221, .int 3624381080, .int 310598401, .int 607225278, .int 1426881987, .int 1925078388, .int 2162078206, .int 2614888103, .int 3248222580, .int 3835390401, .int 4022224774, .int 264347078, .int 604807628, .int 770255983, .int 1249150122, .int 1555081692, .int 1996064986, .int 2554220882, .int 2821834349, .int 2952996808, .int 3210313671, .int 3336571891, .int 3584528711, .int 113926993, .int 338241895, .int 666307205, .int 773529912, .int 1294757372, .int 1396182291, .int 1695183700, .int 1986661051, .int 2177026350, .int 2456956037, .int 2730485921, .int 2820302411, .int 3259730800, .int 3345764771, .int 3516065817, .int 3600352804, .int 4094571909, .int 275423344, .int 430227734, .int 506948616, .int 659060556, .int 883997877, .int 958139571, .int 1322822218, .int 1537002063, .int 1747873779, .int 1955562222, .int 2024104815, .int 2227730452, .int 2361852424, .int 2428436474, .int 2756734187, .int 3204031479, .int 3329325298]], [], f125_fresh⟩ := by kernel_rfl
theorem f125_run (ext : Run) (n : Nat) : runE G ext (n + 1) 125 [] = f125 (runE G ext n) n  := runE_succ f125_at f125_in

noncomputable def f116_l2 (run : Run) (n : Nat) (_k0 : Nat) (k2 : Nat) (x109_1 : Int) (o2_3 : List AV) (o4_3 : List AV) (o7_3 : List AV) : Option Res :=
  iterK (evalK G run n f116_keep 2 (sub [1, 1, 1, 1, 0, 1, 0, 0] f116_body)) f116_t2 f116_o2 (blockK 2 (seqK (evalK G run n f116_keep 0 (sub [1, 1, 1, 1, 1] f116_body) (retE G f116_info)) (retE G f116_info))) k2
    ⟨[.any, .any, .ptr ⟨(.arr 8 (.int .u32)), 2, 1, []⟩, .any, .ptr ⟨(.arr 8 (.int .u32)), 4, 1, []⟩, .any, .any, .ptr ⟨(.arr 8 (.int .u32)), 7, 1, []⟩, .any, .any, .any, .any, .any, .any, .any, .any, .any, .any, .any, .any, .any, .any, .any, .any, .any, .any, .any, .any, .any, .any, .any, .any, .any, .any, .any, .any, .any, .any, .any, .any, .any, .any, .any, .any, .any, .any, .any, .any, .any, .any, .any, .any, .any, .any, .any, .any, .any, .any, .any, .any, .any, .any, .any, .any, .any, .any, .any, .any, .any, .any, .any, .any, .any, .any, .any, .any, .any, .any, .any, .any, .any, .any, .any, .any, .any, .any, .any, .any, .any, .any, .any, .any, .any, .any, .any, .any, .any, .any, .any, .any, .any, .any, .any, .any, .any, .any, .any, .any, .any, .val (.int .i64) none (.int x109_1), .any, .any, .any, .any, .any, .any, .any, .any, .any, .any, .any, .any], [⟨0, none⟩, ⟨0, none⟩, ⟨1, some ⟨(.arr 8 (.int .u32)), .agg o2_3⟩⟩, ⟨0, none⟩, ⟨1, some ⟨(.arr 8 (.int .u32)), .agg o4_3⟩⟩, ⟨0, none⟩, ⟨0, none⟩, ⟨1, some ⟨(.arr 8 (.int .u32)), .agg o7_3⟩⟩, ⟨0, none⟩, ⟨0, none⟩, ⟨0, none⟩, ⟨0, none⟩, ⟨0, none⟩, ⟨0, none⟩, ⟨0, none⟩, ⟨0, none⟩, ⟨0, none⟩, ⟨0, none⟩, ⟨0, none⟩, ⟨0, none⟩, ⟨0, none⟩, ⟨0, none⟩, ⟨0, none⟩, ⟨0, none⟩, ⟨0, none⟩, ⟨0, none⟩, ⟨0, none⟩, ⟨0, none⟩, ⟨0, none⟩, ⟨0, none⟩, ⟨0, none⟩, ⟨0, none⟩, ⟨0, none⟩, ⟨0, none⟩, ⟨0, none⟩, ⟨0, none⟩, ⟨0, none⟩, ⟨0, none⟩, ⟨0, none⟩, ⟨0, none⟩, ⟨0, none⟩, ⟨0, none⟩, ⟨0, none⟩, ⟨0, none⟩, ⟨0, none⟩, ⟨0, none⟩, ⟨0, none⟩, ⟨0, none⟩, ⟨0, none⟩, ⟨0, none⟩, ⟨0, none⟩, ⟨0, none⟩, ⟨0, none⟩, ⟨0, none⟩, ⟨0, none⟩, ⟨0, none⟩, ⟨0, none⟩, ⟨0, none⟩, ⟨0, none⟩, ⟨0, none⟩, ⟨0, none⟩, ⟨0, none⟩, ⟨0, none⟩, ⟨0, none⟩, ⟨0, none⟩, ⟨0, none⟩, ⟨0, none⟩, ⟨0, none⟩, ⟨0, none⟩, ⟨0, none⟩, ⟨0, none⟩, ⟨0, none⟩, ⟨0, none⟩, ⟨0, none⟩, ⟨0, none⟩, ⟨0, none⟩, ⟨0, none⟩, ⟨0, none⟩, ⟨0, none⟩, ⟨0, none⟩, ⟨0, none⟩, ⟨0, none⟩, ⟨0, none⟩, ⟨0, none⟩, ⟨0, none⟩, ⟨0, none⟩, ⟨0, none⟩, ⟨0, none⟩, ⟨0, none⟩, ⟨0, none⟩, ⟨0, none⟩, ⟨0, none⟩, ⟨0, none⟩, ⟨0, none⟩, ⟨0, none⟩, ⟨0, none⟩, ⟨0, none⟩, ⟨0, none⟩, ⟨0, none⟩, ⟨0, none⟩, ⟨0, none⟩, ⟨0, none⟩, ⟨0, none⟩, ⟨0, none⟩, ⟨0, none⟩, ⟨0, none⟩, ⟨0, none⟩, ⟨0, none⟩, ⟨0, none⟩, ⟨0, none⟩, ⟨0, none⟩, ⟨0, none⟩, ⟨0, none⟩, ⟨0, none⟩, ⟨0, none⟩, ⟨0, none⟩, ⟨0, none⟩, ⟨0, none⟩, ⟨0, none⟩, ⟨0, none⟩, ⟨0, none⟩, ⟨0, none⟩], List.replicate 122 0⟩
noncomputable def f116_l0 (run : Run) (n : Nat) (k0 : Nat) (x18_1 : Int) (o2_1 : List AV) (o4_1 : List AV) (o5_1 : List AV) (o6_1 : List AV) (o7_1 : List AV) : Option Res :=
  iterK (evalK G run n f116_keep 0 (sub [1, 1, 1, 0, 1, 0, 0] f116_body)) f116_t0 f116_o0 (blockK 0 (seqK (evalK G run n f116_keep 0 (sub [1, 1, 1, 1] f116_body) (retE G f116_info)) (retE G f116_info))) k0
    ⟨[.any, .any, .ptr ⟨(.arr 8 (.int .u32)), 2, 1, []⟩, .any, .ptr ⟨(.arr 8 (.int .u32)), 4, 1, []⟩, .ptr ⟨(.arr 64 (.int .u32)), 5, 1, []⟩, .ptr ⟨(.arr 64 (.int .u32)), 6, 1, []⟩, .ptr ⟨(.arr 8 (.int .u32)), 7, 1, []⟩, .any, .any, .any, .any, .any, .any, .any, .any, .any, .any, .val (.int .i64) none (.int x18_1), .any, .any, .any, .any, .any, .any, .any, .any, .any, .any, .any, .any, .any, .any, .any, .any, .any, .any, .any, .any, .any, .any, .any, .any, .any, .any, .any, .any, .any, .any, .any, .any, .any, .any, .any, .any, .any, .any, .any, .any, .any, .any, .any, .any, .any, .any, .any, .any, .any, .any, .any, .any, .any, .any, .any, .any, .any, .any, .any, .any, .any, .any, .any, .any, .any, .any, .any, .any, .any, .any, .any, .any, .any, .any, .any, .any, .any, .any, .any, .any, .any, .any, .any, .any, .any, .any, .any, .any, .any, .any, .any, .any, .any, .any, .any, .any, .any, .any, .any, .any, .any, .any, .any], [⟨0, none⟩, ⟨0, none⟩, ⟨1, some ⟨(.arr 8 (.int .u32)), .agg o2_1⟩⟩, ⟨0, none⟩, ⟨1, some ⟨(.arr 8 (.int .u32)), .agg o4_1⟩⟩, ⟨1, some ⟨(.arr 64 (.int .u32)), .agg o5_1⟩⟩, ⟨1, some ⟨(.arr 64 (.int .u32)), .agg o6_1⟩⟩, ⟨1, some ⟨(.arr 8 (.int .u32)), .agg o7_1⟩⟩, ⟨0, none⟩, ⟨0, none⟩, ⟨0, none⟩, ⟨0, none⟩, ⟨0, none⟩, ⟨0, none⟩, ⟨0, none⟩, ⟨0, none⟩, ⟨0, none⟩, ⟨0, none⟩, ⟨0, none⟩, ⟨0, none⟩, ⟨0, none⟩, ⟨0, none⟩, ⟨0, none⟩, ⟨0, none⟩, ⟨0, none⟩, ⟨0, none⟩, ⟨0, none⟩, ⟨0, none⟩, ⟨0, none⟩, ⟨0, none⟩, ⟨0, none⟩, ⟨0, none⟩, ⟨0, none⟩, ⟨0, none⟩, ⟨0, none⟩, ⟨0, none⟩, ⟨0, none⟩, ⟨0, none⟩, ⟨0, none⟩, ⟨0, none⟩, ⟨0, none⟩, ⟨0, none⟩, ⟨0, none⟩, ⟨0, none⟩, ⟨0, none⟩, ⟨0, none⟩, ⟨0, none⟩, ⟨0, none⟩, ⟨0, none⟩, ⟨0, none⟩, ⟨0, none⟩, ⟨0, none⟩, ⟨0, none⟩, ⟨0, none⟩, ⟨0, none⟩, ⟨0, none⟩, ⟨0, none⟩, ⟨0, none⟩, ⟨0, none⟩, ⟨0, none⟩, ⟨0, none⟩, ⟨0, none⟩, ⟨0, none⟩, ⟨0, none⟩, ⟨0, none⟩, ⟨0, none⟩, ⟨0, none⟩, ⟨0, none⟩, ⟨0, none⟩, ⟨0, none⟩, ⟨0, none⟩, ⟨0, none⟩, ⟨0, none⟩, ⟨0, none⟩, ⟨0, none⟩, ⟨0, none⟩, ⟨0, none⟩, ⟨0, none⟩, ⟨0, none⟩, ⟨0, none⟩, ⟨0, none⟩, ⟨0, none⟩, ⟨0, none⟩, ⟨0, none⟩, ⟨0, none⟩, ⟨0, none⟩, ⟨0, none⟩, ⟨0, none⟩, ⟨0, none⟩, ⟨0, none⟩, ⟨0, none⟩, ⟨0, none⟩, ⟨0, none⟩, ⟨0, none⟩, ⟨0, none⟩, ⟨0, none⟩, ⟨0, none⟩, ⟨0, none⟩, ⟨0, none⟩, ⟨0, none⟩, ⟨0, none⟩, ⟨0, none⟩, ⟨0, none⟩, ⟨0, none⟩, ⟨0, none⟩, ⟨0, none⟩, ⟨0, none⟩, ⟨0, none⟩, ⟨0, none⟩, ⟨0, none⟩, ⟨0, none⟩, ⟨0, none⟩, ⟨0, none⟩, ⟨0, none⟩, ⟨0, none⟩, ⟨0, none⟩, ⟨0, none⟩, ⟨0, none⟩, ⟨0, none⟩, ⟨0, none⟩, ⟨0, none⟩, ⟨0, none⟩], List.replicate 122 0⟩
theorem f116_l2_eq (run : Run) (n : Nat) (k0 : Nat) (k2 : Nat) (x109_1 : Int) (o2_3 : List AV) (o4_3 : List AV) (o7_3 : List AV) : f116_l2 run n k0 (k2 + 1) x109_1 o2_3 o4_3 o7_3 =
  bif ltI x109_1 8 then
    bif inR x109_1 8 then
    bif inR x109_1 8 then
    bif inR x109_1 8 then
    f116_l2 run n k0 k2 (IntKind.wrap .i64 (x109_1 + 1)) (o2_3.set (Int.toNat x109_1) (.int (IntKind.wrap .u32 ((AV.fld (.agg o2_3) (Int.toNat x109_1)).toInt + (AV.fld (.agg o7_3) (Int.toNat x109_1)).toInt)))) o4_3 o7_3
  else none
  else none
  else none
  else
    some ⟨[.agg o2_3], [], f116_fresh⟩ := by kernel_rfl
theorem f116_l0_eq (run : Run) (n : Nat) (k0 : Nat) (x18_1 : Int) (o2_1 : List AV) (o4_1 : List AV) (o5_1 : List AV) (o6_1 : List AV) (o7_1 : List AV) : f116_l0 run n (k0 + 1) x18_1 o2_1 o4_1 o5_1 o6_1 o7_1 =
  bif ltI x18_1 64 then
    (run 126 [.int ((AV.fld (.agg o7_1) 4).toInt), .int 6]).bind fun r3 =>
    nilV r3.outs (consV r3.vals fun v3 vs3 =>
    nilV vs3 ((run 126 [.int ((AV.fld (.agg o7_1) 4).toInt), .int 11]).bind fun r4 =>
    nilV r4.outs (consV r4.vals fun v4 vs4 =>
    nilV vs4 ((run 126 [.int ((AV.fld (.agg o7_1) 4).toInt), .int 25]).bind fun r5 =>
    nilV r5.outs (consV r5.vals fun v5 vs5 =>
    nilV vs5 (bif inR x18_1 64 then
    bif inR x18_1 64 then
    (run 126 [.int ((AV.fld (.agg o7_1) 0).toInt), .int 2]).bind fun r6 =>
    nilV r6.outs (consV r6.vals fun v6 vs6 =>
    nilV vs6 ((run 126 [.int ((AV.fld (.agg o7_1) 0).toInt), .int 13]).bind fun r7 =>
    nilV r7.outs (consV r7.vals fun v7 vs7 =>
    nilV vs7 ((run 126 [.int ((AV.fld (.agg o7_1) 0).toInt), .int 22]).bind fun r8 =>
    nilV r8.outs (consV r8.vals fun v8 vs8 =>
    nilV vs8 (f116_l0 run n k0 (IntKind.wrap .i64 (x18_1 + 1)) o2_1 o4_1 o5_1 o6_1 [.int (IntKind.wrap .u32 (IntKind.wrap .u32 (IntKind.wrap .u32 (IntKind.wrap .u32 (IntKind.wrap .u32 (IntKind.wrap .u32 ((AV.fld (.agg o7_1) 7).toInt + IntKind.wrap .u32 (BitVec.toNat (BitVec.ofInt 32 (IntKind.wrap .u32 (BitVec.toNat (BitVec.ofInt 32 v3.toInt ^^^ BitVec.ofInt 32 v4.toInt))) ^^^ BitVec.ofInt 32 v5.toInt))) + IntKind.wrap .u32 (BitVec.toNat (BitVec.ofInt 32 (IntKind.wrap .u32 (BitVec.toNat (BitVec.ofInt 32 ((AV.fld (.agg o7_1) 4).toInt) &&& BitVec.ofInt 32 ((AV.fld (.agg o7_1) 5).toInt)))) ^^^ BitVec.ofInt 32 (IntKind.wrap .u32 (BitVec.toNat (BitVec.ofInt 32 (IntKind.wrap .u32 (BitVec.toNat (BitVec.ofInt 32 4294967295 ^^^ BitVec.ofInt 32 ((AV.fld (.agg o7_1) 4).toInt)))) &&& BitVec.ofInt 32 ((AV.fld (.agg o7_1) 6).toInt))))))) + (AV.fld (.agg o6_1) (Int.toNat x18_1)).toInt) + (AV.fld (.agg o5_1) (Int.toNat x18_1)).toInt) + IntKind.wrap .u32 (BitVec.toNat (BitVec.ofInt 32 (IntKind.wrap .u32 (BitVec.toNat (BitVec.ofInt 32 v6.toInt ^^^ BitVec.ofInt 32 v7.toInt))) ^^^ BitVec.ofInt 32 v8.toInt))) + IntKind.wrap .u32 (BitVec.toNat (BitVec.ofInt 32 (IntKind.wrap .u32 (BitVec.toNat (BitVec.ofInt 32 (IntKind.wrap .u32 (BitVec.toNat (BitVec.ofInt 32 ((AV.fld (.agg o7_1) 0).toInt) &&& BitVec.ofInt 32 ((AV.fld (.agg o7_1) 1).toInt)))) ^^^ BitVec.ofInt 32 (IntKind.wrap .u32 (BitVec.toNat (BitVec.ofInt 32 ((AV.fld (.agg o7_1) 0).toInt) &&& BitVec.ofInt 32 ((AV.fld (.agg o7_1) 2).toInt))))))) ^^^ BitVec.ofInt 32 (IntKind.wrap .u32 (BitVec.toNat (BitVec.ofInt 32 ((AV.fld (.agg o7_1) 1).toInt) &&& BitVec.ofInt 32 ((AV.fld (.agg o7_1) 2).toInt)))))))), .int ((AV.fld (.agg o7_1) 0).toInt), .int ((AV.fld (.agg o7_1) 1).toInt), .int ((AV.fld (.agg o7_1) 2).toInt), .int (IntKind.wrap .u32 ((AV.fld (.agg o7_1) 3).toInt + IntKind.wrap .u32 (IntKind.wrap .u32 (IntKind.wrap .u32 (IntKind.wrap .u32 ((AV.fld (.agg o7_1) 7).toInt + IntKind.wrap .u32 (BitVec.toNat (BitVec.ofInt 32 (IntKind.wrap .u32 (BitVec.toNat (BitVec.ofInt 32 v3.toInt ^^^ BitVec.ofInt 32 v4.toInt))) ^^^ BitVec.ofInt 32 v5.toInt))) + IntKind.wrap .u32 (BitVec.toNat (BitVec.ofInt 32 (IntKind.wrap .u32 (BitVec.toNat (BitVec.ofInt 32 ((AV.fld (.agg o7_1) 4).toInt) &&& BitVec.ofInt 32 ((AV.fld (.agg o7_1) 5).toInt)))) ^^^ BitVec.ofInt 32 (IntKind.wrap .u32 (BitVec.toNat (BitVec.ofInt 32 (IntKind.wrap .u32 (BitVec.toNat (BitVec.ofInt 32 4294967295 ^^^ BitVec.ofInt 32 ((AV.fld (.agg o7_1) 4).toInt)))) &&& BitVec.ofInt 32 ((AV.fld (.agg o7_1) 6).toInt))))))) + (AV.fld (.agg o6_1) (Int.toNat x18_1)).toInt) + (AV.fld (.agg o5_1) (Int.toNat x18_1)).toInt))), .int ((AV.fld (.agg o7_1) 4).toInt), .int ((AV.fld (.agg o7_1) 5).toInt), .int ((AV.fld (.agg o7_1) 6).toInt)]))))))
  else none
  else none))))))
  else
    f116_l2 run n k0 n 0 o2_1 o4_1 o7_1 := by kernel_rfl
noncomputable def f116 (run : Run) (n : Nat) (a0_1 : List AV) (a1_1 : List UInt8) : Option Res := evalK G run n f116_info.keep 0 f116_info.body (retE G f116_info) (f116_info.start [.agg a0_1, .str a1_1])
theorem f116_eq (run : Run) (n : Nat) (a0_1 : List AV) (a1_1 : List UInt8) : f116 run n a0_1 a1_1 =
  (run 124 [.str a1_1]).bind fun r1 =>
    nilV r1.outs (consV r1.vals fun v1 vs1 =>
    nilV vs1 ((run 125 []).bind fun r2 =>
    nilV r2.outs (consV r2.vals fun v2 vs2 =>
    nilV vs2 (f116_l0 run n n 0 a0_1 (List.replicate 8 (.int 0)) v1.toAgg v2.toAgg a0_1)))) := by kernel_rfl
theorem f116_run (ext : Run) (n : Nat) (a0_1 : List AV) (a1_1 : List UInt8) : runE G ext (n + 1) 116 [.agg a0_1, .str a1_1] = f116 (runE G ext n) n a0_1 a1_1 := runE_succ f116_at f116_in

noncomputable def f96_l0 (run : Run) (n : Nat) (k0 : Nat) (x4_1 : Int) (o0_1 : List AV) (o0_2 : List UInt8) (o0_3 : Int) (o0_4 : Bool) : Option Res :=
  iterK (evalK G run n f96_keep 0 (sub [1, 1, 1, 1, 1, 0, 0, 0] f96_body)) f96_t0 f96_o0 (blockK 0 (seqK (evalK G run n f96_keep 0 (sub [1, 1, 1, 1, 1, 1] f96_body) (retE G f96_info)) (retE G f96_info))) k0
    ⟨[.ptr ⟨(.struct [(.arr 8 (.int .u32)), .str, (.int .u64), .bool]), 0, 0, []⟩, .any, .any, .any, .val (.int .i64) none (.int x4_1), .any, .any, .any, .any, .any, .any, .any, .any, .any, .any, .any, .any, .any, .any, .any, .any, .any, .any, .any, .any, .any, .any, .any, .any, .any, .any, .any, .any, .any, .any, .any, .any, .any, .any, .any, .any, .any, .any, .any, .any, .any, .any, .any, .any, .any, .any, .any, .any, .any, .any, .any, .any, .any, .any, .any, .any, .any, .any, .any, .any, .any, .any, .any, .any, .any, .any, .any], [⟨0, some ⟨(.struct [(.arr 8 (.int .u32)), .str, (.int .u64), .bool]), .agg [.agg o0_1, .str o0_2, .int o0_3, .bool o0_4]⟩⟩, ⟨0, none⟩, ⟨0, none⟩, ⟨0, none⟩, ⟨0, none⟩, ⟨0, none⟩, ⟨0, none⟩, ⟨0, none⟩, ⟨0, none⟩, ⟨0, none⟩, ⟨0, none⟩, ⟨0, none⟩, ⟨0, none⟩, ⟨0, none⟩, ⟨0, none⟩, ⟨0, none⟩, ⟨0, none⟩, ⟨0, none⟩, ⟨0, none⟩, ⟨0, none⟩, ⟨0, none⟩, ⟨0, none⟩, ⟨0, none⟩, ⟨0, none⟩, ⟨0, none⟩, ⟨0, none⟩, ⟨0, none⟩, ⟨0, none⟩, ⟨0, none⟩, ⟨0, none⟩, ⟨0, none⟩, ⟨0, none⟩, ⟨0, none⟩, ⟨0, none⟩, ⟨0, none⟩, ⟨0, none⟩, ⟨0, none⟩, ⟨0, none⟩, ⟨0, none⟩, ⟨0, none⟩, ⟨0, none⟩, ⟨0, none⟩, ⟨0, none⟩, ⟨0, none⟩, ⟨0, none⟩, ⟨0, none⟩, ⟨0, none⟩, ⟨0, none⟩, ⟨0, none⟩, ⟨0, none⟩, ⟨0, none⟩, ⟨0, none⟩, ⟨0, none⟩, ⟨0, none⟩, ⟨0, none⟩, ⟨0, none⟩, ⟨0, none⟩, ⟨0, none⟩, ⟨0, none⟩, ⟨0, none⟩, ⟨0, none⟩, ⟨0, none⟩, ⟨0, none⟩, ⟨0, none⟩, ⟨0, none⟩, ⟨0, none⟩, ⟨0, none⟩, ⟨0, none⟩, ⟨0, none⟩, ⟨0, none⟩, ⟨0, none⟩, ⟨0, none⟩], List.replicate 72 0⟩
theorem f96_l0_eq (run : Run) (n : Nat) (k0 : Nat) (x4_1 : Int) (o0_1 : List AV) (o0_2 : List UInt8) (o0_3 : Int) (o0_4 : Bool) : f96_l0 run n (k0 + 1) x4_1 o0_1 o0_2 o0_3 o0_4 =
  bif leI 64 (IntKind.wrap .i64 ((o0_2.length : Int) - x4_1)) then
    bif boundsOk x4_1 (IntKind.wrap .i64 (x4_1 + 64)) (o0_2.length : Int) (o0_2.length : Int) then
    (run 116 [.agg o0_1, .str (List.drop (Int.toNat x4_1) (List.take (Int.toNat (IntKind.wrap .i64 (x4_1 + 64))) o0_2))]).bind fun r2 =>
    nilV r2.outs (consV r2.vals fun v2 vs2 =>
    nilV vs2 (f96_l0 run n k0 (IntKind.wrap .i64 (x4_1 + 64)) v2.toAgg o0_2 o0_3 o0_4))
  else none
  else
    bif boundsOk x4_1 (o0_2.length : Int) (o0_2.length : Int) (o0_2.length : Int) then
    some ⟨[], [.agg [.agg o0_1, .str (List.drop (Int.toNat x4_1) (List.take (Int.toNat (o0_2.length : Int)) o0_2)), .int o0_3, .bool o0_4]], f96_fresh⟩
  else none := by kernel_rfl
noncomputable def f96 (run : Run) (n : Nat) (a0_1 : List AV) (a0_2 : List UInt8) (a0_3 : Int) (a0_4 : Bool) (a1_1 : List UInt8) : Option Res := evalK G run n f96_info.keep 0 f96_info.body (retE G f96_info) (f96_info.start [.agg [.agg a0_1, .str a0_2, .int a0_3, .bool a0_4], .str a1_1])
theorem f96_eq (run : Run) (n : Nat) (a0_1 : List AV) (a0_2 : List UInt8) (a0_3 : Int) (a0_4 : Bool) (a1_1 : List UInt8) : f96 run n a0_1 a0_2 a0_3 a0_4 a1_1 =
  bif !a0_4 then
    (run 115 []).bind fun r1 =>
    nilV r1.outs (consV r1.vals fun v1 vs1 =>
    nilV vs1 (bif Nat.ble (a0_2.length + a1_1.length) maxLen then
    f96_l0 run n n 0 v1.toAgg (a0_2 ++ a1_1) (IntKind.wrap .u64 (a0_3 + IntKind.wrap .u64 (a1_1.length : Int))) true
  else none))
  else
    bif Nat.ble (a0_2.length + a1_1.length) maxLen then
    f96_l0 run n n 0 a0_1 (a0_2 ++ a1_1) (IntKind.wrap .u64 (a0_3 + IntKind.wrap .u64 (a1_1.length : Int))) a0_4
  else none := by kernel_rfl
theorem f96_run (ext : Run) (n : Nat) (a0_1 : List AV) (a0_2 : List UInt8) (a0_3 : Int) (a0_4 : Bool) (a1_1 : List UInt8) : runE G ext (n + 1) 96 [.agg [.agg a0_1, .str a0_2, .int a0_3, .bool a0_4], .str a1_1] = f96 (runE G ext n) n a0_1 a0_2 a0_3 a0_4 a1_1 := runE_succ f96_at f96_in

noncomputable def f105_l0 (run : Run) (n : Nat) (k0 : Nat) (x0_1 : Int) (x1_1 : Int) (m1 : Nat) (x9_1 : Int) (x10_1 : Int) (o8_1 : List AV) : Option Res :=
  iterK (evalK G run n f105_keep 0 (sub [1, 1, 0, 1, 0, 0] f105_body)) f105_t0 f105_o0 (blockK 0 (seqK (evalK G run n f105_keep 0 (sub [1, 1, 1] f105_body) (retE G f105_info)) (retE G f105_info))) k0
    ⟨[.val (.int .u64) none (.int x0_1), .val (.int .i64) none (.int x1_1), .any, .any, .any, .ref ⟨(.arr m1 (.int .u8)), 8, 1, []⟩ 0 m1, .any, .any, .any, .val (.int .i64) none (.int x9_1), .val (.int .i64) none (.int x10_1), .any, .any, .any, .any, .any, .any, .any, .any, .any, .any, .any, .any, .any, .any, .any], [⟨0, none⟩, ⟨0, none⟩, ⟨0, none⟩, ⟨0, none⟩, ⟨0, none⟩, ⟨0, none⟩, ⟨0, none⟩, ⟨0, none⟩, ⟨1, some ⟨(.arr m1 (.int .u8)), .agg o8_1⟩⟩, ⟨0, none⟩, ⟨0, none⟩, ⟨0, none⟩, ⟨0, none⟩, ⟨0, none⟩, ⟨0, none⟩, ⟨0, none⟩, ⟨0, none⟩, ⟨0, none⟩, ⟨0, none⟩, ⟨0, none⟩, ⟨0, none⟩, ⟨0, none⟩, ⟨0, none⟩, ⟨0, none⟩, ⟨0, none⟩, ⟨0, none⟩], List.replicate 26 0⟩
theorem f105_l0_eq (run : Run) (n : Nat) (k0 : Nat) (x0_1 : Int) (x1_1 : Int) (m1 : Nat) (x9_1 : Int) (x10_1 : Int) (o8_1 : List AV) : f105_l0 run n (k0 + 1) x0_1 x1_1 m1 x9_1 x10_1 o8_1 =
  bif ltI x10_1 x9_1 then
    bif inR (IntKind.wrap .i64 (IntKind.wrap .i64 (x1_1 - 1) - x10_1)) m1 then
    f105_l0 run n k0 (Int.fdiv x0_1 (2 ^ 8)) x1_1 m1 x9_1 (IntKind.wrap .i64 (x10_1 + 1)) (o8_1.set (0 + (Int.toNat (IntKind.wrap .i64 (IntKind.wrap .i64 (x1_1 - 1) - x10_1)))) (.int (IntKind.wrap .u8 x0_1)))
  else none
  else
    some ⟨[.str (bytesOf (List.drop 0 (List.take m1 o8_1)))], [], f105_fresh⟩ := by kernel_rfl
noncomputable def f105 (run : Run) (n : Nat) (a0_1 : Int) (a1_1 : Int) : Option Res := evalK G run n f105_info.keep 0 f105_info.body (retE G f105_info) (f105_info.start [.int a0_1, .int a1_1])
theorem f105_eq (run : Run) (n : Nat) (a0_1 : Int) (a1_1 : Int) : f105 run n a0_1 a1_1 =
  bif eqI a1_1 a1_1 && leI 0 a1_1 && Nat.ble (Int.toNat a1_1 * 1) 140737488355328 then
    f105_l0 run n n a0_1 a1_1 (Int.toNat a1_1) a1_1 0 (List.replicate (Int.toNat a1_1) (.int 0))
  else none := by kernel_rfl
theorem f105_run (ext : Run) (n : Nat) (a0_1 : Int) (a1_1 : Int) : runE G ext (n + 1) 105 [.int a0_1, .int a1_1] = f105 (runE G ext n) n a0_1 a1_1 := runE_succ f105_at f105_in

noncomputable def f79 (run : Run) (n : Nat) (a0_1 : Int) : Option Res := evalK G run n f79_info.keep 0 f79_info.body (retE G f79_info) (f79_info.start [.int a0_1])
theorem f79_eq (run : Run) (n : Nat) (a0_1 : Int) : f79 run n a0_1 =
  (run 105 [.int a0_1, .int 8]).bind fun r1 =>
    nilV r1.outs (consV r1.vals fun v1 vs1 =>
    nilV vs1 (some ⟨[.str v1.toStr], [], f79_fresh⟩)) := by kernel_rfl
theorem f79_run (ext : Run) (n : Nat) (a0_1 : Int) : runE G ext (n + 1) 79 [.int a0_1] = f79 (runE G ext n) n a0_1 := runE_succ f79_at f79_in

noncomputable def f117 (run : Run) (n : Nat) (a0_1 : Int) : Option Res := evalK G run n f117_info.keep 0 f117_info.body (retE G f117_info) (f117_info.start [.int a0_1])
theorem f117_eq (run : Run) (n : Nat) (a0_1 : Int) : f117 run n a0_1 =
  (run 127 [.str [0], .int (IntKind.wrap .i64 (Int.tmod (IntKind.wrap .u64 (119 - Int.tmod a0_1 64)) 64))]).bind fun r1 =>
    nilV r1.outs (consV r1.vals fun v1 vs1 =>
    nilV vs1 (bif Nat.ble (1 + v1.toStr.length) maxLen then
    (run 79 [.int (IntKind.wrap .u64 (8 * a0_1))]).bind fun r2 =>
    nilV r2.outs (consV r2.vals fun v2 vs2 =>
    nilV vs2 (bif Nat.ble (([128] ++ v1.toStr).length + v2.toStr.length) maxLen then
    some ⟨[.str (([128] ++ v1.toStr) ++ v2.toStr)], [], f117_fresh⟩
  else none))
  else none)) := by kernel_rfl
theorem f117_run (ext : Run) (n : Nat) (a0_1 : Int) : runE G ext (n + 1) 117 [.int a0_1] = f117 (runE G ext n) n a0_1 := runE_succ f117_at f117_in

noncomputable def f78 (run : Run) (n : Nat) (a0_1 : Int) : Option Res := evalK G run n f78_info.keep 0 f78_info.body (retE G f78_info) (f78_info.start [.int a0_1])
theorem f78_eq (run : Run) (n : Nat) (a0_1 : Int) : f78 run n a0_1 =
  (run 105 [.int (IntKind.wrap .u64 a0_1), .int 4]).bind fun r1 =>
    nilV r1.outs (consV r1.vals fun v1 vs1 =>
    nilV vs1 (some ⟨[.str v1.toStr], [], f78_fresh⟩)) := by kernel_rfl
theorem f78_run (ext : Run) (n : Nat) (a0_1 : Int) : runE G ext (n + 1) 78 [.int a0_1] = f78 (runE G ext n) n a0_1 := runE_succ f78_at f78_in

noncomputable def f97_l0 (run : Run) (n : Nat) (k0 : Nat) (x18_1 : List AV) (x19_1 : Int) (o0_1 : List AV) (o0_2 : List UInt8) (o0_3 : Int) (o0_4 : Bool) (o2_1 : List UInt8) (o4_1 : List UInt8) : Option Res :=
  iterK (evalK G run n f97_keep 0 (sub [1, 1, 1, 1, 1, 0, 1, 0, 0] f97_body)) f97_t0 f97_o0 (blockK 0 (seqK (evalK G run n f97_keep 0 (sub [1, 1, 1, 1, 1, 1] f97_body) (retE G f97_info)) (retE G f97_info))) k0
    ⟨[.ptr ⟨(.struct [(.arr 8 (.int .u32)), .str, (.int .u64), .bool]), 0, 0, []⟩, .any, .ptr ⟨(.blob 32), 2, 1, []⟩, .any, .ptr ⟨(.blob 32), 4, 1, []⟩, .any, .any, .any, .any, .any, .any, .any, .any, .any, .any, .any, .any, .any, .val (.arr 8 (.int .u32)) none (.agg x18_1), .val (.int .i64) none (.int x19_1), .any, .any, .any, .any, .any, .any, .any, .any, .any, .any, .any, .any, .any, .any, .any, .any, .any], [⟨0, some ⟨(.struct [(.arr 8 (.int .u32)), .str, (.int .u64), .bool]), .agg [.agg o0_1, .str o0_2, .int o0_3, .bool o0_4]⟩⟩, ⟨0, none⟩, ⟨1, some ⟨(.blob 32), .blob o2_1⟩⟩, ⟨0, none⟩, ⟨1, some ⟨(.blob 32), .blob o4_1⟩⟩, ⟨0, none⟩, ⟨0, none⟩, ⟨0, none⟩, ⟨0, none⟩, ⟨0, none⟩, ⟨0, none⟩, ⟨0, none⟩, ⟨0, none⟩, ⟨0, none⟩, ⟨0, none⟩, ⟨0, none⟩, ⟨0, none⟩, ⟨0, none⟩, ⟨0, none⟩, ⟨0, none⟩, ⟨0, none⟩, ⟨0, none⟩, ⟨0, none⟩, ⟨0, none⟩, ⟨0, none⟩, ⟨0, none⟩, ⟨0, none⟩, ⟨0, none⟩, ⟨0, none⟩, ⟨0, none⟩, ⟨0, none⟩, ⟨0, none⟩, ⟨0, none⟩, ⟨0, none⟩, ⟨0, none⟩, ⟨0, none⟩, ⟨0, none⟩], List.replicate 37 0⟩
theorem f97_l0_eq (run : Run) (n : Nat) (k0 : Nat) (x18_1 : List AV) (x19_1 : Int) (o0_1 : List AV) (o0_2 : List UInt8) (o0_3 : Int) (o0_4 : Bool) (o2_1 : List UInt8) (o4_1 : List UInt8) : f97_l0 run n (k0 + 1) x18_1 x19_1 o0_1 o0_2 o0_3 o0_4 o2_1 o4_1 =
  bif ltI x19_1 8 then
    bif inR x19_1 8 then
    bif boundsOk (IntKind.wrap .i64 (4 * x19_1)) (IntKind.wrap .i64 (IntKind.wrap .i64 (4 * x19_1) + 4)) (IntKind.wrap .i64 (IntKind.wrap .i64 (4 * x19_1) + 4)) 32 && true then
    (run 78 [.int ((AV.fld (.agg x18_1) (Int.toNat x19_1)).toInt)]).bind fun r3 =>
    nilV r3.outs (consV r3.vals fun v2 vs2 =>
    nilV vs2 (f97_l0 run n k0 x18_1 (IntKind.wrap .i64 (x19_1 + 1)) o0_1 o0_2 o0_3 o0_4 o2_1 (bytesOf (splice (ofBytes o4_1) (Int.toNat (IntKind.wrap .i64 (4 * x19_1))) (List.take ((Int.toNat (IntKind.wrap .i64 (IntKind.wrap .i64 (4 * x19_1) + 4))) - (Int.toNat (IntKind.wrap .i64 (4 * x19_1)))) (ofBytes v2.toStr))))))
  else none
  else none
  else
    some ⟨[.blob o4_1], [.agg [.agg o0_1, .str o0_2, .int o0_3, .bool o0_4]], f97_fresh⟩ := by kernel_rfl
noncomputable def f97 (run : Run) (n : Nat) (a0_1 : List AV) (a0_2 : List UInt8) (a0_3 : Int) (a0_4 : Bool) : Option Res := evalK G run n f97_info.keep 0 f97_info.body (retE G f97_info) (f97_info.start [.agg [.agg a0_1, .str a0_2, .int a0_3, .bool a0_4]])
theorem f97_eq (run : Run) (n : Nat) (a0_1 : List AV) (a0_2 : List UInt8) (a0_3 : Int) (a0_4 : Bool) : f97 run n a0_1 a0_2 a0_3 a0_4 =
  (run 117 [.int a0_3]).bind fun r1 =>
    nilV r1.outs (consV r1.vals fun v1 vs1 =>
    nilV vs1 ((run 96 [.agg [.agg a0_1, .str a0_2, .int a0_3, .bool a0_4], .str v1.toStr]).bind fun r2 =>
    consV r2.outs fun y1 ys1 =>
    nilV ys1 (nilV r2.vals (f97_l0 run n n ((y1.fld 0).toAgg) 0 a0_1 a0_2 a0_3 a0_4 (List.replicate 32 0) (List.replicate 32 0))))) := by kernel_rfl
theorem f97_run (ext : Run) (n : Nat) (a0_1 : List AV) (a0_2 : List UInt8) (a0_3 : Int) (a0_4 : Bool) : runE G ext (n + 1) 97 [.agg [.agg a0_1, .str a0_2, .int a0_3, .bool a0_4]] = f97 (runE G ext n) n a0_1 a0_2 a0_3 a0_4 := runE_succ f97_at f97_in

noncomputable def f65 (run : Run) (n : Nat) (a0_1 : List UInt8) : Option Res := evalK G run n f65_info.keep 0 f65_info.body (retE G f65_info) (f65_info.start [.str a0_1])
theorem f65_eq (run : Run) (n : Nat) (a0_1 : List UInt8) : f65 run n a0_1 =
  (run 95 []).bind fun r1 =>
    nilV r1.outs (consV r1.vals fun v1 vs1 =>
    nilV vs1 ((run 96 [.agg [.agg ((v1.fld 0).toAgg), .str ((v1.fld 1).toStr), .int ((v1.fld 2).toInt), .bool ((v1.fld 3).toBool)], .str a0_1]).bind fun r2 =>
    consV r2.outs fun y1 ys1 =>
    nilV ys1 (nilV r2.vals ((run 97 [.agg [.agg ((y1.fld 0).toAgg), .str ((y1.fld 1).toStr), .int ((y1.fld 2).toInt), .bool ((y1.fld 3).toBool)]]).bind fun r3 =>
    consV r3.outs fun _y2 ys2 =>
    nilV ys2 (consV r3.vals fun v2 vs2 =>
    nilV vs2 (some ⟨[.blob v2.toBlob], [], f65_fresh⟩)))))) := by kernel_rfl
theorem f65_run (ext : Run) (n : Nat) (a0_1 : List UInt8) : runE G ext (n + 1) 65 [.str a0_1] = f65 (runE G ext n) n a0_1 := runE_succ f65_at f65_in

noncomputable def f67 (run : Run) (n : Nat) (a0_1 : List UInt8) : Option Res := evalK G run n f67_info.keep 0 f67_info.body (retE G f67_info) (f67_info.start [.str a0_1])
theorem f67_eq (run : Run) (n : Nat) (a0_1 : List UInt8) : f67 run n a0_1 =
  (run 99 [.str a0_1]).bind fun r1 =>
    nilV r1.outs (consV r1.vals fun v1 vs1 =>
    nilV vs1 ((run 65 [.str v1.toStr]).bind fun r2 =>
    nilV r2.outs (consV r2.vals fun v2 vs2 =>
    nilV vs2 (some ⟨[.blob v2.toBlob], [], f67_fresh⟩)))) := by kernel_rfl
theorem f67_run (ext : Run) (n : Nat) (a0_1 : List UInt8) : runE G ext (n + 1) 67 [.str a0_1] = f67 (runE G ext n) n a0_1 := runE_succ f67_at f67_in

noncomputable def f100 (run : Run) (n : Nat) (a0_1 : List UInt8) (a1_1 : List UInt8) : Option Res := evalK G run n f100_info.keep 0 f100_info.body (retE G f100_info) (f100_info.start [.blob a0_1, .blob a1_1])
theorem f100_eq (run : Run) (n : Nat) (a0_1 : List UInt8) (a1_1 : List UInt8) : f100 run n a0_1 a1_1 =
  (run 98 [.int 1, .slice [.str (bytesOf (List.drop 0 (List.take 32 (ofBytes a0_1)))), .str (bytesOf (List.drop 0 (List.take 32 (ofBytes a1_1))))]]).bind fun r1 =>
    nilV r1.outs (consV r1.vals fun v1 vs1 =>
    nilV vs1 (some ⟨[.str v1.toStr], [], f100_fresh⟩)) := by kernel_rfl
theorem f100_run (ext : Run) (n : Nat) (a0_1 : List UInt8) (a1_1 : List UInt8) : runE G ext (n + 1) 100 [.blob a0_1, .blob a1_1] = f100 (runE G ext n) n a0_1 a1_1 := runE_succ f100_at f100_in

noncomputable def f68 (run : Run) (n : Nat) (a0_1 : List UInt8) (a1_1 : List UInt8) : Option Res := evalK G run n f68_info.keep 0 f68_info.body (retE G f68_info) (f68_info.start [.blob a0_1, .blob a1_1])
theorem f68_eq (run : Run) (n : Nat) (a0_1 : List UInt8) (a1_1 : List UInt8) : f68 run n a0_1 a1_1 =
  (run 100 [.blob a0_1, .blob a1_1]).bind fun r1 =>
    nilV r1.outs (consV r1.vals fun v1 vs1 =>
    nilV vs1 ((run 65 [.str v1.toStr]).bind fun r2 =>
    nilV r2.outs (consV r2.vals fun v2 vs2 =>
    nilV vs2 (some ⟨[.blob v2.toBlob], [], f68_fresh⟩)))) := by kernel_rfl
theorem f68_run (ext : Run) (n : Nat) (a0_1 : List UInt8) (a1_1 : List UInt8) : runE G ext (n + 1) 68 [.blob a0_1, .blob a1_1] = f68 (runE G ext n) n a0_1 a1_1 := runE_succ f68_at f68_in

noncomputable def f35 (run : Run) (n : Nat) (a0_1 : List AV) (a0_2 : List AV) (a1_1 : Int) (a2_1 : List AV) : Option Res := evalK G run n f35_info.keep 0 f35_info.body (retE G f35_info) (f35_info.start [.agg [.slice a0_1, .slice a0_2], .int a1_1, .slice a2_1])
theorem f35_eq (run : Run) (n : Nat) (a0_1 : List AV) (a0_2 : List AV) (a1_1 : Int) (a2_1 : List AV) : f35 run n a0_1 a0_2 a1_1 a2_1 =
  bif eqI (a2_1.length : Int) 0 then
    bif inR 0 a0_2.length then
    bif boundsOk 1 (a0_2.length : Int) (a0_2.length : Int) (a0_2.length : Int) && true then
    some ⟨[.blob ((nth a0_2 0).toBlob)], [.agg [.slice a0_1, .slice (List.drop 1 (List.take (Int.toNat (a0_2.length : Int)) a0_2))]], f35_fresh⟩
  else none
  else none
  else
    bif eqI a1_1 1 then
    bif inR 0 a0_1.length then
    bif boundsOk 1 (a0_1.length : Int) (a0_1.length : Int) (a0_1.length : Int) && true then
    (run 67 [.str ((nth a0_1 0).toStr)]).bind fun r1 =>
    nilV r1.outs (consV r1.vals fun v1 vs1 =>
    nilV vs1 (some ⟨[.blob v1.toBlob], [.agg [.slice (List.drop 1 (List.take (Int.toNat (a0_1.length : Int)) a0_1)), .slice a0_2]], f35_fresh⟩))
  else none
  else none
  else
    (run 36 [.int a1_1]).bind fun r2 =>
    nilV r2.outs (consV r2.vals fun v2 vs2 =>
    nilV vs2 ((run 37 [.slice a2_1, .int v2.toInt]).bind fun r3 =>
    nilV r3.outs (consV r3.vals fun v3 vs3 =>
    consV vs3 fun v4 vs4 =>
    nilV vs4 ((run 35 [.agg [.slice a0_1, .slice a0_2], .int v2.toInt, .slice v3.toSlice]).bind fun r4 =>
    consV r4.outs fun y1 ys1 =>
    nilV ys1 (consV r4.vals fun v5 vs5 =>
    nilV vs5 ((run 35 [.agg [.slice ((y1.fld 0).toSlice), .slice ((y1.fld 1).toSlice)], .int (IntKind.wrap .i64 (a1_1 - v2.toInt)), .slice v4.toSlice]).bind fun r5 =>
    consV r5.outs fun y2 ys2 =>
    nilV ys2 (consV r5.vals fun v6 vs6 =>
    nilV vs6 ((run 68 [.blob v5.toBlob, .blob v6.toBlob]).bind fun r6 =>
    nilV r6.outs (consV r6.vals fun v7 vs7 =>
    nilV vs7 (some ⟨[.blob v7.toBlob], [.agg [.slice ((y2.fld 0).toSlice), .slice ((y2.fld 1).toSlice)]], f35_fresh⟩)))))))))) := by kernel_rfl
theorem f35_run (ext : Run) (n : Nat) (a0_1 : List AV) (a0_2 : List AV) (a1_1 : Int) (a2_1 : List AV) : runE G ext (n + 1) 35 [.agg [.slice a0_1, .slice a0_2], .int a1_1, .slice a2_1] = f35 (runE G ext n) n a0_1 a0_2 a1_1 a2_1 := runE_succ f35_at f35_in

noncomputable def f66 (run : Run) (n : Nat) (a0_1 : Int) (a1_1 : List UInt8) : Option Res := evalK G run n f66_info.keep 0 f66_info.body (retE G f66_info) (f66_info.start [.int a0_1, .blob a1_1])
theorem f66_eq (run : Run) (n : Nat) (a0_1 : Int) (a1_1 : List UInt8) : f66 run n a0_1 a1_1 =
  (run 79 [.int a0_1]).bind fun r1 =>
    nilV r1.outs (consV r1.vals fun v1 vs1 =>
    nilV vs1 ((run 98 [.int 2, .slice [.str v1.toStr, .str (bytesOf (List.drop 0 (List.take 32 (ofBytes a1_1))))]]).bind fun r2 =>
    nilV r2.outs (consV r2.vals fun v2 vs2 =>
    nilV vs2 (some ⟨[.str v2.toStr], [], f66_fresh⟩)))) := by kernel_rfl
theorem f66_run (ext : Run) (n : Nat) (a0_1 : Int) (a1_1 : List UInt8) : runE G ext (n + 1) 66 [.int a0_1, .blob a1_1] = f66 (runE G ext n) n a0_1 a1_1 := runE_succ f66_at f66_in

noncomputable def f34 (run : Run) (n : Nat) (a0_1 : Int) (a1_1 : List UInt8) : Option Res := evalK G run n f34_info.keep 0 f34_info.body (retE G f34_info) (f34_info.start [.int a0_1, .blob a1_1])
theorem f34_eq (run : Run) (n : Nat) (a0_1 : Int) (a1_1 : List UInt8) : f34 run n a0_1 a1_1 =
  (run 66 [.int a0_1, .blob a1_1]).bind fun r1 =>
    nilV r1.outs (consV r1.vals fun v1 vs1 =>
    nilV vs1 ((run 65 [.str v1.toStr]).bind fun r2 =>
    nilV r2.outs (consV r2.vals fun v2 vs2 =>
    nilV vs2 (some ⟨[.blob v2.toBlob], [], f34_fresh⟩)))) := by kernel_rfl
theorem f34_run (ext : Run) (n : Nat) (a0_1 : Int) (a1_1 : List UInt8) : runE G ext (n + 1) 34 [.int a0_1, .blob a1_1] = f34 (runE G ext n) n a0_1 a1_1 := runE_succ f34_at f34_in

noncomputable def f12 (run : Run) (n : Nat) (a0_1 : List AV) (a1_1 : Int) (a1_2 : List AV) (a1_3 : List AV) : Option Res := evalK G run n f12_info.keep 0 f12_info.body (retE G f12_info) (f12_info.start [.slice a0_1, .agg [.int a1_1, .slice a1_2, .slice a1_3]])
theorem f12_eq (run : Run) (n : Nat) (a0_1 : List AV) (a1_1 : Int) (a1_2 : List AV) (a1_3 : List AV) : f12 run n a0_1 a1_1 a1_2 a1_3 =
  (run 33 [.int (a0_1.length : Int), .agg [.int a1_1, .slice a1_2, .slice a1_3]]).bind fun r1 =>
    nilV r1.outs (consV r1.vals fun v1 vs1 =>
    nilV vs1 (bif !(eqI v1.toInt 0) then
    some ⟨[.blob [0, 0, 0, 0, 0, 0, 0, 0, 0, 0, 0, 0, 0, 0, 0, 0, 0, 0, 0, 0, 0, 0, 0, 0, 0, 0, 0, 0, 0, 0, 0, 0], .int v1.toInt], [], f12_fresh⟩
  else
    (run 35 [.agg [.slice a0_1, .slice a1_3], .int a1_1, .slice a1_2]).bind fun r2 =>
    consV r2.outs fun _y1 ys1 =>
    nilV ys1 (consV r2.vals fun v2 vs2 =>
    nilV vs2 ((run 34 [.int (IntKind.wrap .u64 a1_1), .blob v2.toBlob]).bind fun r3 =>
    nilV r3.outs (consV r3.vals fun v3 vs3 =>
    nilV vs3 (some ⟨[.blob v3.toBlob, .int 0], [], f12_fresh⟩)))))) := by kernel_rfl
theorem f12_run (ext : Run) (n : Nat) (a0_1 : List AV) (a1_1 : Int) (a1_2 : List AV) (a1_3 : List AV) : runE G ext (n + 1) 12 [.slice a0_1, .agg [.int a1_1, .slice a1_2, .slice a1_3]] = f12 (runE G ext n) n a0_1 a1_1 a1_2 a1_3 := runE_succ f12_at f12_in

noncomputable def f38 (run : Run) (n : Nat) (a0_1 : List AV) (a0_2 : List AV) (a1_1 : Int) (a2_1 : List AV) : Option Res := evalK G run n f38_info.keep 0 f38_info.body (retE G f38_info) (f38_info.start [.agg [.slice a0_1, .slice a0_2], .int a1_1, .slice a2_1])
theorem f38_eq (run : Run) (n : Nat) (a0_1 : List AV) (a0_2 : List AV) (a1_1 : Int) (a2_1 : List AV) : f38 run n a0_1 a0_2 a1_1 a2_1 =
  bif boundsOk (a2_1.length : Int) (a0_1.length : Int) (a0_1.length : Int) (a0_1.length : Int) && true then
    (run 64 [.int a1_1, .slice a2_1]).bind fun r1 =>
    nilV r1.outs (consV r1.vals fun v1 vs1 =>
    nilV vs1 (bif boundsOk v1.toInt (a0_2.length : Int) (a0_2.length : Int) (a0_2.length : Int) && true then
    some ⟨[], [.agg [.slice (List.drop (Int.toNat (a2_1.length : Int)) (List.take (Int.toNat (a0_1.length : Int)) a0_1)), .slice (List.drop (Int.toNat v1.toInt) (List.take (Int.toNat (a0_2.length : Int)) a0_2))]], f38_fresh⟩
  else none))
  else none := by kernel_rfl
theorem f38_run (ext : Run) (n : Nat) (a0_1 : List AV) (a0_2 : List AV) (a1_1 : Int) (a2_1 : List AV) : runE G ext (n + 1) 38 [.agg [.slice a0_1, .slice a0_2], .int a1_1, .slice a2_1] = f38 (runE G ext n) n a0_1 a0_2 a1_1 a2_1 := runE_succ f38_at f38_in

noncomputable def f13_l0 (run : Run) (n : Nat) (k0 : Nat) (x8_1 : Int) (x9_1 : Int) (x10_1 : List AV) (o6_1 : Int) (o6_2 : Int) (o6_3 : List AV) (o11_1 : Int) (o11_2 : Int) (o11_3 : List AV) (o51_1 : List AV) (o51_2 : List AV) : Option Res :=
  iterK (evalK G run n f13_keep 0 (sub [1, 1, 1, 1, 1, 0, 0, 0] f13_body)) f13_t0 f13_o0 (blockK 0 (seqK (evalK G run n f13_keep 0 (sub [1, 1, 1, 1, 1, 1] f13_body) (retE G f13_info)) (retE G f13_info))) k0
    ⟨[.any, .any, .any, .any, .any, .any, .ptr ⟨(.struct [(.int .i64), (.int .i64), (.slice (.blob 32))]), 6, 1, []⟩, .any, .val (.int .i64) none (.int x8_1), .val (.int .i64) none (.int x9_1), .val (.slice (.int .i64)) none (.slice x10_1), .ptr ⟨(.struct [(.int .i64), (.int .i64), (.slice (.blob 32))]), 11, 1, []⟩, .ptr ⟨(.struct [(.slice .str), (.slice (.blob 32))]), 51, 1, []⟩, .any, .any, .any, .any, .any, .any, .any, .any, .any, .any, .any, .any, .any, .any, .any, .any, .any, .any, .any, .any, .any, .any, .any, .any, .any, .any, .any, .any, .any, .any, .any, .any, .any, .any, .any, .any, .any, .any, .any, .any, .any, .any, .any, .any, .any, .any, .any, .any, .any, .any, .any, .any, .any, .any, .any, .any, .any, .any, .any, .any, .any, .any, .any, .any, .any, .any, .any, .any, .any, .any, .any, .any, .any, .any, .any, .any, .any, .any, .any, .any, .any, .any, .any], [⟨0, none⟩, ⟨0, none⟩, ⟨0, none⟩, ⟨0, none⟩, ⟨0, none⟩, ⟨0, none⟩, ⟨1, some ⟨(.struct [(.int .i64), (.int .i64), (.slice (.blob 32))]), .agg [.int o6_1, .int o6_2, .slice o6_3]⟩⟩, ⟨0, none⟩, ⟨0, none⟩, ⟨0, none⟩, ⟨0, none⟩, ⟨1, some ⟨(.struct [(.int .i64), (.int .i64), (.slice (.blob 32))]), .agg [.int o11_1, .int o11_2, .slice o11_3]⟩⟩, ⟨0, none⟩, ⟨0, none⟩, ⟨0, none⟩, ⟨0, none⟩, ⟨0, none⟩, ⟨0, none⟩, ⟨0, none⟩, ⟨0, none⟩, ⟨0, none⟩, ⟨0, none⟩, ⟨0, none⟩, ⟨0, none⟩, ⟨0, none⟩, ⟨0, none⟩, ⟨0, none⟩, ⟨0, none⟩, ⟨0, none⟩, ⟨0, none⟩, ⟨0, none⟩, ⟨0, none⟩, ⟨0, none⟩, ⟨0, none⟩, ⟨0, none⟩, ⟨0, none⟩, ⟨0, none⟩, ⟨0, none⟩, ⟨0, none⟩, ⟨0, none⟩, ⟨0, none⟩, ⟨0, none⟩, ⟨0, none⟩, ⟨0, none⟩, ⟨0, none⟩, ⟨0, none⟩, ⟨0, none⟩, ⟨0, none⟩, ⟨0, none⟩, ⟨0, none⟩, ⟨0, none⟩, ⟨1, some ⟨(.struct [(.slice .str), (.slice (.blob 32))]), .agg [.slice o51_1, .slice o51_2]⟩⟩, ⟨0, none⟩, ⟨0, none⟩, ⟨0, none⟩, ⟨0, none⟩, ⟨0, none⟩, ⟨0, none⟩, ⟨0, none⟩, ⟨0, none⟩, ⟨0, none⟩, ⟨0, none⟩, ⟨0, none⟩, ⟨0, none⟩, ⟨0, none⟩, ⟨0, none⟩, ⟨0, none⟩, ⟨0, none⟩, ⟨0, none⟩, ⟨0, none⟩, ⟨0, none⟩, ⟨0, none⟩, ⟨0, none⟩, ⟨0, none⟩, ⟨0, none⟩, ⟨0, none⟩, ⟨0, none⟩, ⟨0, none⟩, ⟨0, none⟩, ⟨0, none⟩, ⟨0, none⟩, ⟨0, none⟩, ⟨0, none⟩, ⟨0, none⟩, ⟨0, none⟩, ⟨0, none⟩, ⟨0, none⟩, ⟨0, none⟩, ⟨0, none⟩, ⟨0, none⟩, ⟨0, none⟩, ⟨0, none⟩, ⟨0, none⟩, ⟨0, none⟩, ⟨0, none⟩, ⟨0, none⟩], List.replicate 96 0⟩
theorem f13_l0_eq (run : Run) (n : Nat) (k0 : Nat) (x8_1 : Int) (x9_1 : Int) (x10_1 : List AV) (o6_1 : Int) (o6_2 : Int) (o6_3 : List AV) (o11_1 : Int) (o11_2 : Int) (o11_3 : List AV) (o51_1 : List AV) (o51_2 : List AV) : f13_l0 run n (k0 + 1) x8_1 x9_1 x10_1 o6_1 o6_2 o6_3 o11_1 o11_2 o11_3 o51_1 o51_2 =
  bif ltI 1 x9_1 then
    (run 36 [.int x9_1]).bind fun r2 =>
    nilV r2.outs (consV r2.vals fun v2 vs2 =>
    nilV vs2 ((run 37 [.slice x10_1, .int v2.toInt]).bind fun r3 =>
    nilV r3.outs (consV r3.vals fun v3 vs3 =>
    consV vs3 fun v4 vs4 =>
    nilV vs4 (bif ltI x8_1 v2.toInt then
    (run 38 [.agg [.slice o51_1, .slice o51_2], .int v2.toInt, .slice v3.toSlice]).bind fun r4 =>
    consV r4.outs fun y1 ys1 =>
    nilV ys1 (nilV r4.vals ((run 35 [.agg [.slice ((y1.fld 0).toSlice), .slice ((y1.fld 1).toSlice)], .int (IntKind.wrap .i64 (x9_1 - v2.toInt)), .slice v4.toSlice]).bind fun r5 =>
    consV r5.outs fun _y2 ys2 =>
    nilV ys2 (consV r5.vals fun v5 vs5 =>
    nilV vs5 (bif Nat.ble ((1 + o11_3.length) * 32) 140737488355328 then
    f13_l0 run n k0 x8_1 v2.toInt v3.toSlice o6_1 o6_2 o6_3 o11_1 o11_2 ([.blob v5.toBlob] ++ o11_3) o51_1 o51_2
  else none))))
  else
    (run 35 [.agg [.slice o51_1, .slice o51_2], .int v2.toInt, .slice v3.toSlice]).bind fun r6 =>
    consV r6.outs fun y3 ys3 =>
    nilV ys3 (consV r6.vals fun v6 vs6 =>
    nilV vs6 (bif Nat.ble ((1 + o11_3.length) * 32) 140737488355328 then
    f13_l0 run n k0 (IntKind.wrap .i64 (x8_1 - v2.toInt)) (IntKind.wrap .i64 (x9_1 - v2.toInt)) v4.toSlice o6_1 o6_2 o6_3 o11_1 o11_2 ([.blob v6.toBlob] ++ o11_3) ((y3.fld 0).toSlice) ((y3.fld 1).toSlice)
  else none))))))
  else
    some ⟨[.agg [.int o11_1, .int o11_2, .slice o11_3], .bool true], [], f13_fresh⟩ := by kernel_rfl
noncomputable def f13 (run : Run) (n : Nat) (a0_1 : List AV) (a1_1 : Int) (a1_2 : List AV) (a1_3 : List AV) (a2_1 : Int) : Option Res := evalK G run n f13_info.keep 0 f13_info.body (retE G f13_info) (f13_info.start [.slice a0_1, .agg [.int a1_1, .slice a1_2, .slice a1_3], .int a2_1])
theorem f13_eq (run : Run) (n : Nat) (a0_1 : List AV) (a1_1 : Int) (a1_2 : List AV) (a1_3 : List AV) (a2_1 : Int) : f13 run n a0_1 a1_1 a1_2 a1_3 a2_1 =
  (run 33 [.int (a0_1.length : Int), .agg [.int a1_1, .slice a1_2, .slice a1_3]]).bind fun r1 =>
    nilV r1.outs (consV r1.vals fun v1 vs1 =>
    nilV vs1 (bif !(eqI v1.toInt 0) then
    some ⟨[.agg [.int 0, .int 0, .slice []], .bool false], [], f13_fresh⟩
  else
    bif ltI a2_1 0 then
    some ⟨[.agg [.int 0, .int 0, .slice []], .bool false], [], f13_fresh⟩
  else
    bif leI (a1_2.length : Int) a2_1 then
    some ⟨[.agg [.int 0, .int 0, .slice []], .bool false], [], f13_fresh⟩
  else
    bif inR a2_1 a1_2.length then
    f13_l0 run n n ((nth a1_2 (Int.toNat a2_1)).toInt) a1_1 a1_2 0 0 [] ((nth a1_2 (Int.toNat a2_1)).toInt) a1_1 [] a0_1 a1_3
  else none)) := by kernel_rfl
theorem f13_run (ext : Run) (n : Nat) (a0_1 : List AV) (a1_1 : Int) (a1_2 : List AV) (a1_3 : List AV) (a2_1 : Int) : runE G ext (n + 1) 13 [.slice a0_1, .agg [.int a1_1, .slice a1_2, .slice a1_3], .int a2_1] = f13 (runE G ext n) n a0_1 a1_1 a1_2 a1_3 a2_1 := runE_succ f13_at f13_in

noncomputable def f69 (run : Run) (n : Nat) (a0_1 : Int) (a1_1 : Int) : Option Res := evalK G run n f69_info.keep 0 f69_info.body (retE G f69_info) (f69_info.start [.int a0_1, .int a1_1])
theorem f69_eq (run : Run) (n : Nat) (a0_1 : Int) (a1_1 : Int) : f69 run n a0_1 a1_1 =
  bif ltI a1_1 0 then
    some ⟨[.int (-1)], [], f69_fresh⟩
  else
    bif leI a0_1 a1_1 then
    some ⟨[.int (-1)], [], f69_fresh⟩
  else
    (run 70 [.int a0_1, .int a1_1]).bind fun r1 =>
    bif r1.fresh then
    nilV r1.outs (consV r1.vals fun v1 vs1 =>
    nilV vs1 (some ⟨[.int (v1.toSlice.length : Int)], [], f69_fresh⟩))
  else none := by kernel_rfl
theorem f69_run (ext : Run) (n : Nat) (a0_1 : Int) (a1_1 : Int) : runE G ext (n + 1) 69 [.int a0_1, .int a1_1] = f69 (runE G ext n) n a0_1 a1_1 := runE_succ f69_at f69_in

noncomputable def f39 (run : Run) (n : Nat) (a0_1 : Int) (a0_2 : Int) (a0_3 : List AV) : Option Res := evalK G run n f39_info.keep 0 f39_info.body (retE G f39_info) (f39_info.start [.agg [.int a0_1, .int a0_2, .slice a0_3]])
theorem f39_eq (run : Run) (n : Nat) (a0_1 : Int) (a0_2 : Int) (a0_3 : List AV) : f39 run n a0_1 a0_2 a0_3 =
  bif ltI a0_2 1 then
    some ⟨[.int 3], [], f39_fresh⟩
  else
    bif ltI 1048576 a0_2 then
    some ⟨[.int 3], [], f39_fresh⟩
  else
    bif ltI a0_1 0 then
    some ⟨[.int 3], [], f39_fresh⟩
  else
    bif leI a0_2 a0_1 then
    some ⟨[.int 3], [], f39_fresh⟩
  else
    (run 69 [.int a0_2, .int a0_1]).bind fun r1 =>
    nilV r1.outs (consV r1.vals fun v1 vs1 =>
    nilV vs1 (bif !(eqI (a0_3.length : Int) v1.toInt) then
    some ⟨[.int 2], [], f39_fresh⟩
  else
    some ⟨[.int 0], [], f39_fresh⟩)) := by kernel_rfl
theorem f39_run (ext : Run) (n : Nat) (a0_1 : Int) (a0_2 : Int) (a0_3 : List AV) : runE G ext (n + 1) 39 [.agg [.int a0_1, .int a0_2, .slice a0_3]] = f39 (runE G ext n) n a0_1 a0_2 a0_3 := runE_succ f39_at f39_in

noncomputable def f40_l0 (run : Run) (n : Nat) (k0 : Nat) (x6_1 : List AV) (x20_1 : List AV) (x21_1 : Int) (x22_1 : Int) (o3_1 : Int) (o3_2 : Int) (o3_3 : List AV) (o5_1 : List UInt8) : Option Res :=
  iterK (evalK G run n f40_keep 0 (sub [1, 1, 1, 1, 0, 1, 0, 0] f40_body)) f40_t0 f40_o0 (blockK 0 (seqK (evalK G run n f40_keep 0 (sub [1, 1, 1, 1, 1] f40_body) (retE G f40_info)) (retE G f40_info))) k0
    ⟨[.any, .any, .any, .ptr ⟨(.struct [(.int .i64), (.int .i64), (.slice (.blob 32))]), 3, 1, []⟩, .any, .ptr ⟨(.blob 32), 5, 1, []⟩, .val (.slice (.blob 32)) (some (6, 0)) (.slice x6_1), .any, .any, .any, .any, .any, .any, .any, .any, .any, .any, .any, .any, .any, .val (.slice .bool) (some (20, 0)) (.slice x20_1), .val (.int .i64) none (.int x21_1), .val (.int .i64) none (.int x22_1), .any, .any, .any, .any, .any, .any, .any, .any, .any, .any, .any, .any, .any, .any, .any, .any, .any, .any, .any, .any, .any, .any, .any, .any, .any], [⟨0, none⟩, ⟨0, none⟩, ⟨0, none⟩, ⟨1, some ⟨(.struct [(.int .i64), (.int .i64), (.slice (.blob 32))]), .agg [.int o3_1, .int o3_2, .slice o3_3]⟩⟩, ⟨0, none⟩, ⟨1, some ⟨(.blob 32), .blob o5_1⟩⟩, ⟨0, none⟩, ⟨0, none⟩, ⟨0, none⟩, ⟨0, none⟩, ⟨0, none⟩, ⟨0, none⟩, ⟨0, none⟩, ⟨0, none⟩, ⟨0, none⟩, ⟨0, none⟩, ⟨0, none⟩, ⟨0, none⟩, ⟨0, none⟩, ⟨0, none⟩, ⟨0, none⟩, ⟨0, none⟩, ⟨0, none⟩, ⟨0, none⟩, ⟨0, none⟩, ⟨0, none⟩, ⟨0, none⟩, ⟨0, none⟩, ⟨0, none⟩, ⟨0, none⟩, ⟨0, none⟩, ⟨0, none⟩, ⟨0, none⟩, ⟨0, none⟩, ⟨0, none⟩, ⟨0, none⟩, ⟨0, none⟩, ⟨0, none⟩, ⟨0, none⟩, ⟨0, none⟩, ⟨0, none⟩, ⟨0, none⟩, ⟨0, none⟩, ⟨0, none⟩, ⟨0, none⟩, ⟨0, none⟩, ⟨0, none⟩, ⟨0, none⟩], List.replicate 48 0⟩
theorem f40_l0_eq (run : Run) (n : Nat) (k0 : Nat) (x6_1 : List AV) (x20_1 : List AV) (x21_1 : Int) (x22_1 : Int) (o3_1 : Int) (o3_2 : Int) (o3_3 : List AV) (o5_1 : List UInt8) : f40_l0 run n (k0 + 1) x6_1 x20_1 x21_1 x22_1 o3_1 o3_2 o3_3 o5_1 =
  bif ltI x22_1 x21_1 then
    bif inR x22_1 x20_1.length then
    bif (nth x20_1 (Int.toNat x22_1)).toBool then
    bif inR x22_1 o3_3.length then
    (run 68 [.blob ((nth o3_3 (Int.toNat x22_1)).toBlob), .blob o5_1]).bind fun r4 =>
    nilV r4.outs (consV r4.vals fun v4 vs4 =>
    nilV vs4 (bif Nat.ble ((x6_1.length + 1) * 32) 140737488355328 then
    f40_l0 run n k0 (x6_1 ++ [.blob v4.toBlob]) x20_1 x21_1 (IntKind.wrap .i64 (x22_1 + 1)) o3_1 o3_2 o3_3 v4.toBlob
  else none))
  else none
  else
    bif inR x22_1 o3_3.length then
    (run 68 [.blob o5_1, .blob ((nth o3_3 (Int.toNat x22_1)).toBlob)]).bind fun r5 =>
    nilV r5.outs (consV r5.vals fun v5 vs5 =>
    nilV vs5 (bif Nat.ble ((x6_1.length + 1) * 32) 140737488355328 then
    f40_l0 run n k0 (x6_1 ++ [.blob v5.toBlob]) x20_1 x21_1 (IntKind.wrap .i64 (x22_1 + 1)) o3_1 o3_2 o3_3 v5.toBlob
  else none))
  else none
  else none
  else
    some ⟨[.slice x6_1], [], f40_fresh⟩ := by kernel_rfl
noncomputable def f40 (run : Run) (n : Nat) (a0_1 : List UInt8) (a1_1 : Int) (a1_2 : Int) (a1_3 : List AV) : Option Res := evalK G run n f40_info.keep 0 f40_info.body (retE G f40_info) (f40_info.start [.str a0_1, .agg [.int a1_1, .int a1_2, .slice a1_3]])
theorem f40_eq (run : Run) (n : Nat) (a0_1 : List UInt8) (a1_1 : Int) (a1_2 : Int) (a1_3 : List AV) : f40 run n a0_1 a1_1 a1_2 a1_3 =
  (run 39 [.agg [.int a1_1, .int a1_2, .slice a1_3]]).bind fun r1 =>
    nilV r1.outs (consV r1.vals fun v1 vs1 =>
    nilV vs1 (bif !(eqI v1.toInt 0) then
    some ⟨[.slice []], [], f40_fresh⟩
  else
    (run 67 [.str a0_1]).bind fun r2 =>
    nilV r2.outs (consV r2.vals fun v2 vs2 =>
    nilV vs2 ((run 70 [.int a1_2, .int a1_1]).bind fun r3 =>
    bif r3.fresh then
    nilV r3.outs (consV r3.vals fun v3 vs3 =>
    nilV vs3 (f40_l0 run n n [.blob v2.toBlob] v3.toSlice (v3.toSlice.length : Int) 0 a1_1 a1_2 a1_3 v2.toBlob))
  else none)))) := by kernel_rfl
theorem f40_run (ext : Run) (n : Nat) (a0_1 : List UInt8) (a1_1 : Int) (a1_2 : Int) (a1_3 : List AV) : runE G ext (n + 1) 40 [.str a0_1, .agg [.int a1_1, .int a1_2, .slice a1_3]] = f40 (runE G ext n) n a0_1 a1_1 a1_2 a1_3 := runE_succ f40_at f40_in

noncomputable def f14 (run : Run) (n : Nat) (a0_1 : List UInt8) (a1_1 : Int) (a1_2 : Int) (a1_3 : List AV) : Option Res := evalK G run n f14_info.keep 0 f14_info.body (retE G f14_info) (f14_info.start [.str a0_1, .agg [.int a1_1, .int a1_2, .slice a1_3]])
theorem f14_eq (run : Run) (n : Nat) (a0_1 : List UInt8) (a1_1 : Int) (a1_2 : Int) (a1_3 : List AV) : f14 run n a0_1 a1_1 a1_2 a1_3 =
  (run 39 [.agg [.int a1_1, .int a1_2, .slice a1_3]]).bind fun r1 =>
    nilV r1.outs (consV r1.vals fun v1 vs1 =>
    nilV vs1 (bif !(eqI v1.toInt 0) then
    some ⟨[.blob [0, 0, 0, 0, 0, 0, 0, 0, 0, 0, 0, 0, 0, 0, 0, 0, 0, 0, 0, 0, 0, 0, 0, 0, 0, 0, 0, 0, 0, 0, 0, 0], .int v1.toInt], [], f14_fresh⟩
  else
    (run 40 [.str a0_1, .agg [.int a1_1, .int a1_2, .slice a1_3]]).bind fun r2 =>
    bif r2.fresh then
    nilV r2.outs (consV r2.vals fun v2 vs2 =>
    nilV vs2 (bif inR (IntKind.wrap .i64 ((v2.toSlice.length : Int) - 1)) v2.toSlice.length then
    (run 34 [.int (IntKind.wrap .u64 a1_2), .blob ((nth v2.toSlice (Int.toNat (IntKind.wrap .i64 ((v2.toSlice.length : Int) - 1)))).toBlob)]).bind fun r3 =>
    nilV r3.outs (consV r3.vals fun v3 vs3 =>
    nilV vs3 (some ⟨[.blob v3.toBlob, .int 0], [], f14_fresh⟩))
  else none))
  else none)) := by kernel_rfl
theorem f14_run (ext : Run) (n : Nat) (a0_1 : List UInt8) (a1_1 : Int) (a1_2 : Int) (a1_3 : List AV) : runE G ext (n + 1) 14 [.str a0_1, .agg [.int a1_1, .int a1_2, .slice a1_3]] = f14 (runE G ext n) n a0_1 a1_1 a1_2 a1_3 := runE_succ f14_at f14_in

noncomputable def f3 (run : Run) (n : Nat) (a0_1 : List AV) (a1_1 : Int) (a1_2 : List AV) (a1_3 : List AV) (a2_1 : Int) : Option Res := evalK G run n f3_info.keep 0 f3_info.body (retE G f3_info) (f3_info.start [.slice a0_1, .agg [.int a1_1, .slice a1_2, .slice a1_3], .int a2_1])
theorem f3_eq (run : Run) (n : Nat) (a0_1 : List AV) (a1_1 : Int) (a1_2 : List AV) (a1_3 : List AV) (a2_1 : Int) : f3 run n a0_1 a1_1 a1_2 a1_3 a2_1 =
  (run 10 [.slice a0_1]).bind fun r1 =>
    nilV r1.outs (consV r1.vals fun v1 vs1 =>
    nilV vs1 (bif v1.toBool then
    (run 11 []).bind fun r2 =>
    nilV r2.outs (consV r2.vals fun v2 vs2 =>
    nilV vs2 (some ⟨[.bool v2.toBool], [], f3_fresh⟩))
  else
    bif ltI 100 a1_1 then
    bif leI a1_1 1048576 then
    (run 11 []).bind fun r3 =>
    nilV r3.outs (consV r3.vals fun v3 vs3 =>
    nilV vs3 (some ⟨[.bool v3.toBool], [], f3_fresh⟩))
  else
    bif ltI 200 (a1_2.length : Int) then
    (run 11 []).bind fun r4 =>
    nilV r4.outs (consV r4.vals fun v4 vs4 =>
    nilV vs4 (some ⟨[.bool v4.toBool], [], f3_fresh⟩))
  else
    bif ltI 200 (a1_3.length : Int) then
    (run 11 []).bind fun r5 =>
    nilV r5.outs (consV r5.vals fun v5 vs5 =>
    nilV vs5 (some ⟨[.bool v5.toBool], [], f3_fresh⟩))
  else
    (run 12 [.slice a0_1, .agg [.int a1_1, .slice a1_2, .slice a1_3]]).bind fun r6 =>
    nilV r6.outs (consV r6.vals fun v6 vs6 =>
    consV vs6 fun v7 vs7 =>
    nilV vs7 ((run 13 [.slice a0_1, .agg [.int a1_1, .slice a1_2, .slice a1_3], .int a2_1]).bind fun r7 =>
    nilV r7.outs (consV r7.vals fun v8 vs8 =>
    consV vs8 fun v9 vs9 =>
    nilV vs9 (bif !(eqI v7.toInt 0) then
    bif !v9.toBool then
    (run 11 []).bind fun r8 =>
    nilV r8.outs (consV r8.vals fun v10 vs10 =>
    nilV vs10 (some ⟨[.bool v10.toBool], [], f3_fresh⟩))
  else
    some ⟨[.bool false], [], f3_fresh⟩
  else
    bif ltI a2_1 0 then
    bif !v9.toBool then
    (run 11 []).bind fun r9 =>
    nilV r9.outs (consV r9.vals fun v11 vs11 =>
    nilV vs11 (some ⟨[.bool v11.toBool], [], f3_fresh⟩))
  else
    some ⟨[.bool false], [], f3_fresh⟩
  else
    bif leI (a1_2.length : Int) a2_1 then
    bif !v9.toBool then
    (run 11 []).bind fun r10 =>
    nilV r10.outs (consV r10.vals fun v12 vs12 =>
    nilV vs12 (some ⟨[.bool v12.toBool], [], f3_fresh⟩))
  else
    some ⟨[.bool false], [], f3_fresh⟩
  else
    bif !(eqI (a0_1.length : Int) (a1_2.length : Int)) then
    some ⟨[.bool false], [], f3_fresh⟩
  else
    bif inR a2_1 a0_1.length then
    (run 14 [.str ((nth a0_1 (Int.toNat a2_1)).toStr), .agg [.int ((v8.fld 0).toInt), .int ((v8.fld 1).toInt), .slice ((v8.fld 2).toSlice)]]).bind fun r11 =>
    nilV r11.outs (consV r11.vals fun v13 vs13 =>
    consV vs13 fun v14 vs14 =>
    nilV vs14 (bif v9.toBool then
    bif eqI v14.toInt 0 then
    bif eqS v13.toBlob v6.toBlob then
    bif inR a2_1 a1_2.length then
    bif eqI ((v8.fld 0).toInt) ((nth a1_2 (Int.toNat a2_1)).toInt) then
    bif eqI ((v8.fld 1).toInt) a1_1 then
    (run 11 []).bind fun r12 =>
    nilV r12.outs (consV r12.vals fun v15 vs15 =>
    nilV vs15 (some ⟨[.bool v15.toBool], [], f3_fresh⟩))
  else
    some ⟨[.bool false], [], f3_fresh⟩
  else
    some ⟨[.bool false], [], f3_fresh⟩
  else none
  else
    some ⟨[.bool false], [], f3_fresh⟩
  else
    some ⟨[.bool false], [], f3_fresh⟩
  else
    some ⟨[.bool false], [], f3_fresh⟩))
  else none))))
  else
    bif ltI 200 (a1_2.length : Int) then
    (run 11 []).bind fun r13 =>
    nilV r13.outs (consV r13.vals fun v16 vs16 =>
    nilV vs16 (some ⟨[.bool v16.toBool], [], f3_fresh⟩))
  else
    bif ltI 200 (a1_3.length : Int) then
    (run 11 []).bind fun r14 =>
    nilV r14.outs (consV r14.vals fun v17 vs17 =>
    nilV vs17 (some ⟨[.bool v17.toBool], [], f3_fresh⟩))
  else
    (run 12 [.slice a0_1, .agg [.int a1_1, .slice a1_2, .slice a1_3]]).bind fun r15 =>
    nilV r15.outs (consV r15.vals fun v18 vs18 =>
    consV vs18 fun v19 vs19 =>
    nilV vs19 ((run 13 [.slice a0_1, .agg [.int a1_1, .slice a1_2, .slice a1_3], .int a2_1]).bind fun r16 =>
    nilV r16.outs (consV r16.vals fun v20 vs20 =>
    consV vs20 fun v21 vs21 =>
    nilV vs21 (bif !(eqI v19.toInt 0) then
    bif !v21.toBool then
    (run 11 []).bind fun r17 =>
    nilV r17.outs (consV r17.vals fun v22 vs22 =>
    nilV vs22 (some ⟨[.bool v22.toBool], [], f3_fresh⟩))
  else
    some ⟨[.bool false], [], f3_fresh⟩
  else
    bif ltI a2_1 0 then
    bif !v21.toBool then
    (run 11 []).bind fun r18 =>
    nilV r18.outs (consV r18.vals fun v23 vs23 =>
    nilV vs23 (some ⟨[.bool v23.toBool], [], f3_fresh⟩))
  else
    some ⟨[.bool false], [], f3_fresh⟩
  else
    bif leI (a1_2.length : Int) a2_1 then
    bif !v21.toBool then
    (run 11 []).bind fun r19 =>
    nilV r19.outs (consV r19.vals fun v24 vs24 =>
    nilV vs24 (some ⟨[.bool v24.toBool], [], f3_fresh⟩))
  else
    some ⟨[.bool false], [], f3_fresh⟩
  else
    bif !(eqI (a0_1.length : Int) (a1_2.length : Int)) then
    some ⟨[.bool false], [], f3_fresh⟩
  else
    bif inR a2_1 a0_1.length then
    (run 14 [.str ((nth a0_1 (Int.toNat a2_1)).toStr), .agg [.int ((v20.fld 0).toInt), .int ((v20.fld 1).toInt), .slice ((v20.fld 2).toSlice)]]).bind fun r20 =>
    nilV r20.outs (consV r20.vals fun v25 vs25 =>
    consV vs25 fun v26 vs26 =>
    nilV vs26 (bif v21.toBool then
    bif eqI v26.toInt 0 then
    bif eqS v25.toBlob v18.toBlob then
    bif inR a2_1 a1_2.length then
    bif eqI ((v20.fld 0).toInt) ((nth a1_2 (Int.toNat a2_1)).toInt) then
    bif eqI ((v20.fld 1).toInt) a1_1 then
    (run 11 []).bind fun r21 =>
    nilV r21.outs (consV r21.vals fun v27 vs27 =>
    nilV vs27 (some ⟨[.bool v27.toBool], [], f3_fresh⟩))
  else
    some ⟨[.bool false], [], f3_fresh⟩
  else
    some ⟨[.bool false], [], f3_fresh⟩
  else none
  else
    some ⟨[.bool false], [], f3_fresh⟩
  else
    some ⟨[.bool false], [], f3_fresh⟩
  else
    some ⟨[.bool false], [], f3_fresh⟩))
  else none)))))) := by kernel_rfl
theorem f3_run (ext : Run) (n : Nat) (a0_1 : List AV) (a1_1 : Int) (a1_2 : List AV) (a1_3 : List AV) (a2_1 : Int) : runE G ext (n + 1) 3 [.slice a0_1, .agg [.int a1_1, .slice a1_2, .slice a1_3], .int a2_1] = f3 (runE G ext n) n a0_1 a1_1 a1_2 a1_3 a2_1 := runE_succ f3_at f3_in

noncomputable def f15_l0 (run : Run) (n : Nat) (k0 : Nat) (x0_1 : List AV) (x3_1 : Int) (x4_1 : Int) : Option Res :=
  iterK (evalK G run n f15_keep 0 (sub [1, 1, 0, 1, 0, 0] f15_body)) f15_t0 f15_o0 (blockK 0 (seqK (evalK G run n f15_keep 0 (sub [1, 1, 1] f15_body) (retE G f15_info)) (retE G f15_info))) k0
    ⟨[.val (.slice (.struct [(.struct [(.int .u32), (.blob 32), (.blob 32), (.int .u64)]), (.struct [(.int .i64), (.int .i64), (.slice (.blob 32))])])) none (.slice x0_1), .any, .any, .val (.int .i64) none (.int x3_1), .val (.int .i64) none (.int x4_1), .any, .any, .any, .any, .any, .any, .any, .any, .any, .any, .any, .any, .any, .any, .any, .any, .any, .any, .any, .any, .any, .any, .any, .any, .any, .any, .any, .any, .any, .any, .any, .any, .any, .any, .any, .any, .any], [⟨0, none⟩, ⟨0, none⟩, ⟨0, none⟩, ⟨0, none⟩, ⟨0, none⟩, ⟨0, none⟩, ⟨0, none⟩, ⟨0, none⟩, ⟨0, none⟩, ⟨0, none⟩, ⟨0, none⟩, ⟨0, none⟩, ⟨0, none⟩, ⟨0, none⟩, ⟨0, none⟩, ⟨0, none⟩, ⟨0, none⟩, ⟨0, none⟩, ⟨0, none⟩, ⟨0, none⟩, ⟨0, none⟩, ⟨0, none⟩, ⟨0, none⟩, ⟨0, none⟩, ⟨0, none⟩, ⟨0, none⟩, ⟨0, none⟩, ⟨0, none⟩, ⟨0, none⟩, ⟨0, none⟩, ⟨0, none⟩, ⟨0, none⟩, ⟨0, none⟩, ⟨0, none⟩, ⟨0, none⟩, ⟨0, none⟩, ⟨0, none⟩, ⟨0, none⟩, ⟨0, none⟩, ⟨0, none⟩, ⟨0, none⟩, ⟨0, none⟩], List.replicate 42 0⟩
theorem f15_l0_eq (run : Run) (n : Nat) (k0 : Nat) (x0_1 : List AV) (x3_1 : Int) (x4_1 : Int) : f15_l0 run n (k0 + 1) x0_1 x3_1 x4_1 =
  bif ltI x4_1 (x0_1.length : Int) then
    bif ltI x4_1 100 then
    bif inR x4_1 x0_1.length then
    f15_l0 run n k0 x0_1 (mn2 (IntKind.wrap .i64 (x3_1 + (((((nth x0_1 (Int.toNat x4_1)).fld 1).fld 2).toSlice).length : Int))) 1048576) (IntKind.wrap .i64 (x4_1 + 1))
  else none
  else
    bif ltI 40 (x0_1.length : Int) then
    bif leI (x0_1.length : Int) 1024 then
    some ⟨[.bool true], [], f15_fresh⟩
  else
    bif ltI 1050 (x0_1.length : Int) then
    some ⟨[.bool true], [], f15_fresh⟩
  else
    some ⟨[.bool (ltI 300 x3_1)], [], f15_fresh⟩
  else
    bif ltI 1050 (x0_1.length : Int) then
    some ⟨[.bool true], [], f15_fresh⟩
  else
    some ⟨[.bool (ltI 300 x3_1)], [], f15_fresh⟩
  else
    bif ltI 40 (x0_1.length : Int) then
    bif leI (x0_1.length : Int) 1024 then
    some ⟨[.bool true], [], f15_fresh⟩
  else
    bif ltI 1050 (x0_1.length : Int) then
    some ⟨[.bool true], [], f15_fresh⟩
  else
    some ⟨[.bool (ltI 300 x3_1)], [], f15_fresh⟩
  else
    bif ltI 1050 (x0_1.length : Int) then
    some ⟨[.bool true], [], f15_fresh⟩
  else
    some ⟨[.bool (ltI 300 x3_1)], [], f15_fresh⟩ := by kernel_rfl
noncomputable def f15 (run : Run) (n : Nat) (a0_1 : List AV) : Option Res := evalK G run n f15_info.keep 0 f15_info.body (retE G f15_info) (f15_info.start [.slice a0_1])
theorem f15_eq (run : Run) (n : Nat) (a0_1 : List AV) : f15 run n a0_1 =
  f15_l0 run n n a0_1 0 0 := by kernel_rfl
theorem f15_run (ext : Run) (n : Nat) (a0_1 : List AV) : runE G ext (n + 1) 15 [.slice a0_1] = f15 (runE G ext n) n a0_1 := runE_succ f15_at f15_in

end Go.Proofs.Ytddcooedbibehaa.Ev
