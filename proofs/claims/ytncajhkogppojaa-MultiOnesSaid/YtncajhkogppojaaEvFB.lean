/- What the evaluator does with the functions, as programs over plain values: printed by gen.py, checked by the kernel. -/
import Derived.Test.YtncajhkogppojaaEvFA
namespace Go.Proofs.Ytncajhkogppojaa.Ev
open Go Go.RowKit
set_option maxRecDepth 100000


noncomputable def f8_l0 (run : Run) (n : Nat) (k0 : Nat) (x0_1 : List AV) (x3_1 : Int) (x4_1 : Int) : Option Res :=
  iterK (evalK G run n f8_keep 0 (sub [1, 1, 0, 1, 0, 0] f8_body)) f8_t0 f8_o0 (blockK 0 (seqK (evalK G run n f8_keep 0 (sub [1, 1, 1] f8_body) (retE G f8_info)) (retE G f8_info))) k0
    ⟨[.val (.slice .str) none (.slice x0_1), .any, .any, .val (.int .i64) none (.int x3_1), .val (.int .i64) none (.int x4_1), .any, .any, .any, .any, .any, .any, .any, .any, .any, .any, .any, .any, .any, .any, .any, .any, .any, .any, .any, .any, .any, .any, .any, .any, .any], [⟨0, none⟩, ⟨0, none⟩, ⟨0, none⟩, ⟨0, none⟩, ⟨0, none⟩, ⟨0, none⟩, ⟨0, none⟩, ⟨0, none⟩, ⟨0, none⟩, ⟨0, none⟩, ⟨0, none⟩, ⟨0, none⟩, ⟨0, none⟩, ⟨0, none⟩, ⟨0, none⟩, ⟨0, none⟩, ⟨0, none⟩, ⟨0, none⟩, ⟨0, none⟩, ⟨0, none⟩, ⟨0, none⟩, ⟨0, none⟩, ⟨0, none⟩, ⟨0, none⟩, ⟨0, none⟩, ⟨0, none⟩, ⟨0, none⟩, ⟨0, none⟩, ⟨0, none⟩, ⟨0, none⟩], List.replicate 30 0⟩
theorem f8_l0_eq (run : Run) (n : Nat) (k0 : Nat) (x0_1 : List AV) (x3_1 : Int) (x4_1 : Int) : f8_l0 run n (k0 + 1) x0_1 x3_1 x4_1 =
  bif ltI x4_1 (x0_1.length : Int) then
    bif ltI x4_1 101 then
    bif inR x4_1 x0_1.length then
    f8_l0 run n k0 x0_1 (mn2 (IntKind.wrap .i64 (x3_1 + (((nth x0_1 (Int.toNat x4_1)).toStr).length : Int))) 1048576) (IntKind.wrap .i64 (x4_1 + 1))
  else none
  else
    bif ltI 100 (x0_1.length : Int) then
    some ⟨[.bool true], [], f8_fresh⟩
  else
    some ⟨[.bool (ltI 5000 x3_1)], [], f8_fresh⟩
  else
    bif ltI 100 (x0_1.length : Int) then
    some ⟨[.bool true], [], f8_fresh⟩
  else
    some ⟨[.bool (ltI 5000 x3_1)], [], f8_fresh⟩ := by kernel_rfl
noncomputable def f8 (run : Run) (n : Nat) (a0_1 : List AV) : Option Res := evalK G run n f8_info.keep 0 f8_info.body (retE G f8_info) (f8_info.start [.slice a0_1])
theorem f8_eq (run : Run) (n : Nat) (a0_1 : List AV) : f8 run n a0_1 =
  f8_l0 run n n a0_1 0 0 := by kernel_rfl
theorem f8_run (ext : Run) (n : Nat) (a0_1 : List AV) : runE G ext (n + 1) 8 [.slice a0_1] = f8 (runE G ext n) n a0_1 := runE_succ f8_at f8_in

noncomputable def f43_l0 (run : Run) (n : Nat) (k0 : Nat) (x0_1 : Int) (x1_1 : List AV) (x7_1 : List AV) (x8_1 : Int) (x9_1 : Int) : Option Res :=
  iterK (evalK G run n f43_keep 0 (sub [1, 0, 1, 0, 0] f43_body)) f43_t0 f43_o0 (blockK 0 (seqK (evalK G run n f43_keep 0 (sub [1, 1] f43_body) (retE G f43_info)) (retE G f43_info))) k0
    ⟨[.val (.int .i64) none (.int x0_1), .val (.slice (.int .i64)) none (.slice x1_1), .any, .any, .any, .any, .any, .val (.slice (.int .i64)) none (.slice x7_1), .val (.int .i64) none (.int x8_1), .val (.int .i64) none (.int x9_1), .any, .any, .any, .any, .any, .any, .any, .any, .any, .any, .any, .any, .any, .any, .any, .any, .any, .any, .any, .any, .any, .any, .any, .any, .any, .any, .any, .any], [⟨0, none⟩, ⟨0, none⟩, ⟨0, none⟩, ⟨0, none⟩, ⟨0, none⟩, ⟨0, none⟩, ⟨0, none⟩, ⟨0, none⟩, ⟨0, none⟩, ⟨0, none⟩, ⟨0, none⟩, ⟨0, none⟩, ⟨0, none⟩, ⟨0, none⟩, ⟨0, none⟩, ⟨0, none⟩, ⟨0, none⟩, ⟨0, none⟩, ⟨0, none⟩, ⟨0, none⟩, ⟨0, none⟩, ⟨0, none⟩, ⟨0, none⟩, ⟨0, none⟩, ⟨0, none⟩, ⟨0, none⟩, ⟨0, none⟩, ⟨0, none⟩, ⟨0, none⟩, ⟨0, none⟩, ⟨0, none⟩, ⟨0, none⟩, ⟨0, none⟩, ⟨0, none⟩, ⟨0, none⟩, ⟨0, none⟩, ⟨0, none⟩, ⟨0, none⟩], List.replicate 38 0⟩
theorem f43_l0_eq (run : Run) (n : Nat) (k0 : Nat) (x0_1 : Int) (x1_1 : List AV) (x7_1 : List AV) (x8_1 : Int) (x9_1 : Int) : f43_l0 run n (k0 + 1) x0_1 x1_1 x7_1 x8_1 x9_1 =
  bif ltI x9_1 x8_1 then
    bif inR x9_1 x7_1.length then
    bif ltI ((nth x7_1 (Int.toNat x9_1)).toInt) 0 then
    some ⟨[.bool false], [], f43_fresh⟩
  else
    bif leI x0_1 ((nth x7_1 (Int.toNat x9_1)).toInt) then
    some ⟨[.bool false], [], f43_fresh⟩
  else
    bif ltI 0 x9_1 then
    bif inR (IntKind.wrap .i64 (x9_1 - 1)) x1_1.length then
    bif leI ((nth x7_1 (Int.toNat x9_1)).toInt) ((nth x1_1 (Int.toNat (IntKind.wrap .i64 (x9_1 - 1)))).toInt) then
    some ⟨[.bool false], [], f43_fresh⟩
  else
    f43_l0 run n k0 x0_1 x1_1 x7_1 x8_1 (IntKind.wrap .i64 (x9_1 + 1))
  else none
  else
    f43_l0 run n k0 x0_1 x1_1 x7_1 x8_1 (IntKind.wrap .i64 (x9_1 + 1))
  else none
  else
    some ⟨[.bool (ltI 0 (x1_1.length : Int))], [], f43_fresh⟩ := by kernel_rfl
noncomputable def f43 (run : Run) (n : Nat) (a0_1 : Int) (a1_1 : List AV) : Option Res := evalK G run n f43_info.keep 0 f43_info.body (retE G f43_info) (f43_info.start [.int a0_1, .slice a1_1])
theorem f43_eq (run : Run) (n : Nat) (a0_1 : Int) (a1_1 : List AV) : f43 run n a0_1 a1_1 =
  f43_l0 run n n a0_1 a1_1 a1_1 (a1_1.length : Int) 0 := by kernel_rfl
theorem f43_run (ext : Run) (n : Nat) (a0_1 : Int) (a1_1 : List AV) : runE G ext (n + 1) 43 [.int a0_1, .slice a1_1] = f43 (runE G ext n) n a0_1 a1_1 := runE_succ f43_at f43_in

noncomputable def f51_l0 (run : Run) (n : Nat) (k0 : Nat) (x0_1 : Int) (x3_1 : Int) : Option Res :=
  iterK (evalK G run n f51_keep 0 (sub [1, 1, 1, 0, 0, 0] f51_body)) f51_t0 f51_o0 (blockK 0 (seqK (evalK G run n f51_keep 0 (sub [1, 1, 1, 1] f51_body) (retE G f51_info)) (retE G f51_info))) k0
    ⟨[.val (.int .i64) none (.int x0_1), .any, .any, .val (.int .i64) none (.int x3_1), .any, .any, .any, .any, .any, .any, .any, .any, .any, .any], [⟨0, none⟩, ⟨0, none⟩, ⟨0, none⟩, ⟨0, none⟩, ⟨0, none⟩, ⟨0, none⟩, ⟨0, none⟩, ⟨0, none⟩, ⟨0, none⟩, ⟨0, none⟩, ⟨0, none⟩, ⟨0, none⟩, ⟨0, none⟩, ⟨0, none⟩], List.replicate 14 0⟩
theorem f51_l0_eq (run : Run) (n : Nat) (k0 : Nat) (x0_1 : Int) (x3_1 : Int) : f51_l0 run n (k0 + 1) x0_1 x3_1 =
  bif leI x3_1 (IntKind.wrap .i64 (Int.tdiv (IntKind.wrap .i64 (x0_1 - 1)) 2)) then
    f51_l0 run n k0 x0_1 (IntKind.wrap .i64 (x3_1 * 2))
  else
    some ⟨[.int x3_1], [], f51_fresh⟩ := by kernel_rfl
noncomputable def f51 (run : Run) (n : Nat) (a0_1 : Int) : Option Res := evalK G run n f51_info.keep 0 f51_info.body (retE G f51_info) (f51_info.start [.int a0_1])
theorem f51_eq (run : Run) (n : Nat) (a0_1 : Int) : f51 run n a0_1 =
  bif ltI a0_1 2 then
    some ⟨[.int 0], [], f51_fresh⟩
  else
    f51_l0 run n n a0_1 1 := by kernel_rfl
theorem f51_run (ext : Run) (n : Nat) (a0_1 : Int) : runE G ext (n + 1) 51 [.int a0_1] = f51 (runE G ext n) n a0_1 := runE_succ f51_at f51_in

noncomputable def f52_l2 (run : Run) (n : Nat) (_k0 : Nat) (k2 : Nat) (x0_3 : List AV) (x1_3 : Int) (x6_3 : Int) (x7_1 : List AV) (x26_1 : List AV) (x27_1 : Int) (x28_1 : Int) : Option Res :=
  iterK (evalK G run n f52_keep 2 (sub [1, 1, 1, 1, 0, 1, 0, 0] f52_body)) f52_t2 f52_o2 (blockK 2 (seqK (evalK G run n f52_keep 0 (sub [1, 1, 1, 1, 1] f52_body) (retE G f52_info)) (retE G f52_info))) k2
    ⟨[.val (.slice (.int .i64)) none (.slice x0_3), .val (.int .i64) none (.int x1_3), .any, .any, .any, .any, .val (.int .i64) none (.int x6_3), .val (.slice (.int .i64)) (some (7, 0)) (.slice x7_1), .any, .any, .any, .any, .any, .any, .any, .any, .any, .any, .any, .any, .any, .any, .any, .any, .any, .any, .val (.slice (.int .i64)) none (.slice x26_1), .val (.int .i64) none (.int x27_1), .val (.int .i64) none (.int x28_1), .any, .any, .any, .any, .any, .any, .any, .any, .any, .any, .any, .any, .any, .any], [⟨0, none⟩, ⟨0, none⟩, ⟨0, none⟩, ⟨0, none⟩, ⟨0, none⟩, ⟨0, none⟩, ⟨0, none⟩, ⟨0, none⟩, ⟨0, none⟩, ⟨0, none⟩, ⟨0, none⟩, ⟨0, none⟩, ⟨0, none⟩, ⟨0, none⟩, ⟨0, none⟩, ⟨0, none⟩, ⟨0, none⟩, ⟨0, none⟩, ⟨0, none⟩, ⟨0, none⟩, ⟨0, none⟩, ⟨0, none⟩, ⟨0, none⟩, ⟨0, none⟩, ⟨0, none⟩, ⟨0, none⟩, ⟨0, none⟩, ⟨0, none⟩, ⟨0, none⟩, ⟨0, none⟩, ⟨0, none⟩, ⟨0, none⟩, ⟨0, none⟩, ⟨0, none⟩, ⟨0, none⟩, ⟨0, none⟩, ⟨0, none⟩, ⟨0, none⟩, ⟨0, none⟩, ⟨0, none⟩, ⟨0, none⟩, ⟨0, none⟩, ⟨0, none⟩], List.replicate 43 0⟩
noncomputable def f52_l0 (run : Run) (n : Nat) (k0 : Nat) (x0_1 : List AV) (x1_1 : Int) (x6_1 : Int) : Option Res :=
  iterK (evalK G run n f52_keep 0 (sub [1, 1, 0, 0, 0] f52_body)) f52_t0 f52_o0 (blockK 0 (seqK (evalK G run n f52_keep 0 (sub [1, 1, 1] f52_body) (retE G f52_info)) (retE G f52_info))) k0
    ⟨[.val (.slice (.int .i64)) none (.slice x0_1), .val (.int .i64) none (.int x1_1), .any, .any, .any, .any, .val (.int .i64) none (.int x6_1), .any, .any, .any, .any, .any, .any, .any, .any, .any, .any, .any, .any, .any, .any, .any, .any, .any, .any, .any, .any, .any, .any, .any, .any, .any, .any, .any, .any, .any, .any, .any, .any, .any, .any, .any, .any], [⟨0, none⟩, ⟨0, none⟩, ⟨0, none⟩, ⟨0, none⟩, ⟨0, none⟩, ⟨0, none⟩, ⟨0, none⟩, ⟨0, none⟩, ⟨0, none⟩, ⟨0, none⟩, ⟨0, none⟩, ⟨0, none⟩, ⟨0, none⟩, ⟨0, none⟩, ⟨0, none⟩, ⟨0, none⟩, ⟨0, none⟩, ⟨0, none⟩, ⟨0, none⟩, ⟨0, none⟩, ⟨0, none⟩, ⟨0, none⟩, ⟨0, none⟩, ⟨0, none⟩, ⟨0, none⟩, ⟨0, none⟩, ⟨0, none⟩, ⟨0, none⟩, ⟨0, none⟩, ⟨0, none⟩, ⟨0, none⟩, ⟨0, none⟩, ⟨0, none⟩, ⟨0, none⟩, ⟨0, none⟩, ⟨0, none⟩, ⟨0, none⟩, ⟨0, none⟩, ⟨0, none⟩, ⟨0, none⟩, ⟨0, none⟩, ⟨0, none⟩, ⟨0, none⟩], List.replicate 43 0⟩
theorem f52_l2_eq (run : Run) (n : Nat) (k0 : Nat) (k2 : Nat) (x0_3 : List AV) (x1_3 : Int) (x6_3 : Int) (x7_1 : List AV) (x26_1 : List AV) (x27_1 : Int) (x28_1 : Int) : f52_l2 run n k0 (k2 + 1) x0_3 x1_3 x6_3 x7_1 x26_1 x27_1 x28_1 =
  bif ltI x28_1 x27_1 then
    bif inR x28_1 x26_1.length then
    bif Nat.ble ((x7_1.length + 1) * 8) 140737488355328 then
    f52_l2 run n k0 k2 x0_3 x1_3 x6_3 (x7_1 ++ [.int (IntKind.wrap .i64 ((nth x26_1 (Int.toNat x28_1)).toInt - x1_3))]) x26_1 x27_1 (IntKind.wrap .i64 (x28_1 + 1))
  else none
  else none
  else
    bif boundsOk 0 x6_3 (x0_3.length : Int) (x0_3.length : Int) && true then
    some ⟨[.slice (List.drop 0 (List.take (Int.toNat x6_3) x0_3)), .slice x7_1], [], f52_fresh⟩
  else none := by kernel_rfl
theorem f52_l0_eq (run : Run) (n : Nat) (k0 : Nat) (x0_1 : List AV) (x1_1 : Int) (x6_1 : Int) : f52_l0 run n (k0 + 1) x0_1 x1_1 x6_1 =
  bif ltI x6_1 (x0_1.length : Int) then
    bif inR x6_1 x0_1.length then
    bif ltI ((nth x0_1 (Int.toNat x6_1)).toInt) x1_1 then
    f52_l0 run n k0 x0_1 x1_1 (IntKind.wrap .i64 (x6_1 + 1))
  else
    bif boundsOk x6_1 (x0_1.length : Int) (x0_1.length : Int) (x0_1.length : Int) && true then
    f52_l2 run n k0 n x0_1 x1_1 x6_1 [] (List.drop (Int.toNat x6_1) (List.take (Int.toNat (x0_1.length : Int)) x0_1)) ((List.drop (Int.toNat x6_1) (List.take (Int.toNat (x0_1.length : Int)) x0_1)).length : Int) 0
  else none
  else none
  else
    bif boundsOk x6_1 (x0_1.length : Int) (x0_1.length : Int) (x0_1.length : Int) && true then
    f52_l2 run n k0 n x0_1 x1_1 x6_1 [] (List.drop (Int.toNat x6_1) (List.take (Int.toNat (x0_1.length : Int)) x0_1)) ((List.drop (Int.toNat x6_1) (List.take (Int.toNat (x0_1.length : Int)) x0_1)).length : Int) 0
  else none := by kernel_rfl
noncomputable def f52 (run : Run) (n : Nat) (a0_1 : List AV) (a1_1 : Int) : Option Res := evalK G run n f52_info.keep 0 f52_info.body (retE G f52_info) (f52_info.start [.slice a0_1, .int a1_1])
theorem f52_eq (run : Run) (n : Nat) (a0_1 : List AV) (a1_1 : Int) : f52 run n a0_1 a1_1 =
  f52_l0 run n n a0_1 a1_1 0 := by kernel_rfl
theorem f52_run (ext : Run) (n : Nat) (a0_1 : List AV) (a1_1 : Int) : runE G ext (n + 1) 52 [.slice a0_1, .int a1_1] = f52 (runE G ext n) n a0_1 a1_1 := runE_succ f52_at f52_in

noncomputable def f81 (run : Run) (n : Nat) (a0_1 : Int) (a1_1 : List AV) : Option Res := evalK G run n f81_info.keep 0 f81_info.body (retE G f81_info) (f81_info.start [.int a0_1, .slice a1_1])
theorem f81_eq (run : Run) (n : Nat) (a0_1 : Int) (a1_1 : List AV) : f81 run n a0_1 a1_1 =
  bif eqI (a1_1.length : Int) 0 then
    some ⟨[.int 1], [], f81_fresh⟩
  else
    bif eqI a0_1 1 then
    some ⟨[.int 0], [], f81_fresh⟩
  else
    (run 51 [.int a0_1]).bind fun r1 =>
    nilV r1.outs (consV r1.vals fun v1 vs1 =>
    nilV vs1 ((run 52 [.slice a1_1, .int v1.toInt]).bind fun r2 =>
    nilV r2.outs (consV r2.vals fun v2 vs2 =>
    consV vs2 fun v3 vs3 =>
    nilV vs3 ((run 81 [.int v1.toInt, .slice v2.toSlice]).bind fun r3 =>
    nilV r3.outs (consV r3.vals fun v4 vs4 =>
    nilV vs4 ((run 81 [.int (IntKind.wrap .i64 (a0_1 - v1.toInt)), .slice v3.toSlice]).bind fun r4 =>
    nilV r4.outs (consV r4.vals fun v5 vs5 =>
    nilV vs5 (some ⟨[.int (IntKind.wrap .i64 (v4.toInt + v5.toInt))], [], f81_fresh⟩)))))))) := by kernel_rfl
theorem f81_run (ext : Run) (n : Nat) (a0_1 : Int) (a1_1 : List AV) : runE G ext (n + 1) 81 [.int a0_1, .slice a1_1] = f81 (runE G ext n) n a0_1 a1_1 := runE_succ f81_at f81_in

noncomputable def f42 (run : Run) (n : Nat) (a0_1 : Int) (a1_1 : List AV) : Option Res := evalK G run n f42_info.keep 0 f42_info.body (retE G f42_info) (f42_info.start [.int a0_1, .slice a1_1])
theorem f42_eq (run : Run) (n : Nat) (a0_1 : Int) (a1_1 : List AV) : f42 run n a0_1 a1_1 =
  (run 43 [.int a0_1, .slice a1_1]).bind fun r1 =>
    nilV r1.outs (consV r1.vals fun v1 vs1 =>
    nilV vs1 (bif !v1.toBool then
    some ⟨[.int (-1)], [], f42_fresh⟩
  else
    (run 81 [.int a0_1, .slice a1_1]).bind fun r2 =>
    nilV r2.outs (consV r2.vals fun v2 vs2 =>
    nilV vs2 (some ⟨[.int v2.toInt], [], f42_fresh⟩)))) := by kernel_rfl
theorem f42_run (ext : Run) (n : Nat) (a0_1 : Int) (a1_1 : List AV) : runE G ext (n + 1) 42 [.int a0_1, .slice a1_1] = f42 (runE G ext n) n a0_1 a1_1 := runE_succ f42_at f42_in

noncomputable def f9 (run : Run) (n : Nat) : Option Res := evalK G run n f9_info.keep 0 f9_info.body (retE G f9_info) (f9_info.start [])
theorem f9_eq (run : Run) (n : Nat) : f9 run n  =
  (run 42 [.int 4, .slice [.int 0, .int 1]]).bind fun r1 =>
    nilV r1.outs (consV r1.vals fun v1 vs1 =>
    nilV vs1 (bif eqI v1.toInt 1 then
    (run 42 [.int 4, .slice [.int 0, .int 1, .int 2, .int 3]]).bind fun r2 =>
    nilV r2.outs (consV r2.vals fun v2 vs2 =>
    nilV vs2 (bif eqI v2.toInt 0 then
    (run 42 [.int 4, .slice []]).bind fun r3 =>
    nilV r3.outs (consV r3.vals fun v3 vs3 =>
    nilV vs3 (some ⟨[.bool (eqI v3.toInt (-1))], [], f9_fresh⟩))
  else
    some ⟨[.bool false], [], f9_fresh⟩))
  else
    some ⟨[.bool false], [], f9_fresh⟩)) := by kernel_rfl
theorem f9_run (ext : Run) (n : Nat) : runE G ext (n + 1) 9 [] = f9 (runE G ext n) n  := runE_succ f9_at f9_in

noncomputable def f136 (run : Run) (n : Nat) (a0_1 : Int) (a1_1 : List AV) : Option Res := evalK G run n f136_info.keep 0 f136_info.body (retE G f136_info) (f136_info.start [.int a0_1, .slice a1_1])
theorem f136_eq (run : Run) (n : Nat) (a0_1 : Int) (a1_1 : List AV) : f136 run n a0_1 a1_1 =
  (run 149 [.slice a1_1, .str []]).bind fun r1 =>
    nilV r1.outs (consV r1.vals fun v1 vs1 =>
    nilV vs1 (bif Nat.ble ((bytesOf [.int a0_1]).length + v1.toStr.length) maxLen then
    some ⟨[.str ((bytesOf [.int a0_1]) ++ v1.toStr)], [], f136_fresh⟩
  else none)) := by kernel_rfl
theorem f136_run (ext : Run) (n : Nat) (a0_1 : Int) (a1_1 : List AV) : runE G ext (n + 1) 136 [.int a0_1, .slice a1_1] = f136 (runE G ext n) n a0_1 a1_1 := runE_succ f136_at f136_in

noncomputable def f115 (run : Run) (n : Nat) (a0_1 : List UInt8) : Option Res := evalK G run n f115_info.keep 0 f115_info.body (retE G f115_info) (f115_info.start [.str a0_1])
theorem f115_eq (run : Run) (n : Nat) (a0_1 : List UInt8) : f115 run n a0_1 =
  (run 136 [.int 0, .slice [.str a0_1]]).bind fun r1 =>
    nilV r1.outs (consV r1.vals fun v1 vs1 =>
    nilV vs1 (some ⟨[.str v1.toStr], [], f115_fresh⟩)) := by kernel_rfl
theorem f115_run (ext : Run) (n : Nat) (a0_1 : List UInt8) : runE G ext (n + 1) 115 [.str a0_1] = f115 (runE G ext n) n a0_1 := runE_succ f115_at f115_in

noncomputable def f133 (run : Run) (n : Nat) : Option Res := evalK G run n f133_info.keep 0 f133_info.body (retE G f133_info) (f133_info.start [])
theorem f133_eq (run : Run) (n : Nat) : f133 run n  =
  some ⟨[.agg [.agg (List.replicate 8 (.int 0)), .str [], .int 0, .bool false]], [], f133_fresh⟩ := by kernel_rfl
theorem f133_run (ext : Run) (n : Nat) : runE G ext (n + 1) 133 [] = f133 (runE G ext n) n  := runE_succ f133_at f133_in

noncomputable def f146 (run : Run) (n : Nat) : Option Res := evalK G run n f146_info.keep 0 f146_info.body (retE G f146_info) (f146_info.start [])
theorem f146_eq (run : Run) (n : Nat) : f146 run n  =
  some ⟨[.agg [.int 1779033703, .int 3144134277, .int 1013904242, .int 2773480762, .int 1359893119, .int 2600822924, .int 528734635, .int 1541459225]], [], f146_fresh⟩ := by kernel_rfl
theorem f146_run (ext : Run) (n : Nat) : runE G ext (n + 1) 146 [] = f146 (runE G ext n) n  := runE_succ f146_at f146_in

noncomputable def f132_l0 (run : Run) (n : Nat) (k0 : Nat) (x0_1 : List UInt8) (x1_1 : Int) (x7_1 : Int) (x9_1 : Int) (x10_1 : Int) : Option Res :=
  iterK (evalK G run n f132_keep 0 (sub [1, 1, 0, 1, 0, 0] f132_body)) f132_t0 f132_o0 (blockK 0 (seqK (evalK G run n f132_keep 0 (sub [1, 1, 1] f132_body) (retE G f132_info)) (retE G f132_info))) k0
    ⟨[.val .str none (.str x0_1), .val (.int .i64) none (.int x1_1), .any, .any, .any, .any, .any, .val (.int .u64) none (.int x7_1), .any, .val (.int .i64) none (.int x9_1), .val (.int .i64) none (.int x10_1), .any, .any, .any, .any, .any, .any, .any, .any, .any, .any, .any, .any, .any, .any, .any, .any, .any, .any, .any, .any, .any, .any, .any, .any, .any, .any, .any, .any, .any, .any], [⟨0, none⟩, ⟨0, none⟩, ⟨0, none⟩, ⟨0, none⟩, ⟨0, none⟩, ⟨0, none⟩, ⟨0, none⟩, ⟨0, none⟩, ⟨0, none⟩, ⟨0, none⟩, ⟨0, none⟩, ⟨0, none⟩, ⟨0, none⟩, ⟨0, none⟩, ⟨0, none⟩, ⟨0, none⟩, ⟨0, none⟩, ⟨0, none⟩, ⟨0, none⟩, ⟨0, none⟩, ⟨0, none⟩, ⟨0, none⟩, ⟨0, none⟩, ⟨0, none⟩, ⟨0, none⟩, ⟨0, none⟩, ⟨0, none⟩, ⟨0, none⟩, ⟨0, none⟩, ⟨0, none⟩, ⟨0, none⟩, ⟨0, none⟩, ⟨0, none⟩, ⟨0, none⟩, ⟨0, none⟩, ⟨0, none⟩, ⟨0, none⟩, ⟨0, none⟩, ⟨0, none⟩, ⟨0, none⟩, ⟨0, none⟩], List.replicate 41 0⟩
theorem f132_l0_eq (run : Run) (n : Nat) (k0 : Nat) (x0_1 : List UInt8) (x1_1 : Int) (x7_1 : Int) (x9_1 : Int) (x10_1 : Int) : f132_l0 run n (k0 + 1) x0_1 x1_1 x7_1 x9_1 x10_1 =
  bif ltI x10_1 x9_1 then
    bif leI 0 x1_1 then
    bif ltI x1_1 (x0_1.length : Int) then
    bif ltI x10_1 (IntKind.wrap .i64 ((x0_1.length : Int) - x1_1)) then
    bif inR (IntKind.wrap .i64 (x1_1 + x10_1)) x0_1.length then
    f132_l0 run n k0 x0_1 x1_1 (IntKind.wrap .u64 (BitVec.toNat (BitVec.ofInt 64 (IntKind.wrap .u64 (x7_1 * 2 ^ 8)) ||| BitVec.ofInt 64 (IntKind.wrap .u64 ((x0_1.getD (Int.toNat (IntKind.wrap .i64 (x1_1 + x10_1))) 0).toNat : Int))))) x9_1 (IntKind.wrap .i64 (x10_1 + 1))
  else none
  else
    f132_l0 run n k0 x0_1 x1_1 (IntKind.wrap .u64 (x7_1 * 2 ^ 8)) x9_1 (IntKind.wrap .i64 (x10_1 + 1))
  else
    f132_l0 run n k0 x0_1 x1_1 (IntKind.wrap .u64 (x7_1 * 2 ^ 8)) x9_1 (IntKind.wrap .i64 (x10_1 + 1))
  else
    f132_l0 run n k0 x0_1 x1_1 (IntKind.wrap .u64 (x7_1 * 2 ^ 8)) x9_1 (IntKind.wrap .i64 (x10_1 + 1))
  else
    some ⟨[.int x7_1], [], f132_fresh⟩ := by kernel_rfl
noncomputable def f132 (run : Run) (n : Nat) (a0_1 : List UInt8) (a1_1 : Int) (a2_1 : Int) : Option Res := evalK G run n f132_info.keep 0 f132_info.body (retE G f132_info) (f132_info.start [.str a0_1, .int a1_1, .int a2_1])
theorem f132_eq (run : Run) (n : Nat) (a0_1 : List UInt8) (a1_1 : Int) (a2_1 : Int) : f132 run n a0_1 a1_1 a2_1 =
  f132_l0 run n n a0_1 a1_1 0 a2_1 0 := by kernel_rfl
theorem f132_run (ext : Run) (n : Nat) (a0_1 : List UInt8) (a1_1 : Int) (a2_1 : Int) : runE G ext (n + 1) 132 [.str a0_1, .int a1_1, .int a2_1] = f132 (runE G ext n) n a0_1 a1_1 a2_1 := runE_succ f132_at f132_in

noncomputable def f158 (run : Run) (n : Nat) (a0_1 : List UInt8) (a1_1 : Int) : Option Res := evalK G run n f158_info.keep 0 f158_info.body (retE G f158_info) (f158_info.start [.str a0_1, .int a1_1])
theorem f158_eq (run : Run) (n : Nat) (a0_1 : List UInt8) (a1_1 : Int) : f158 run n a0_1 a1_1 =
  (run 132 [.str a0_1, .int a1_1, .int 4]).bind fun r1 =>
    nilV r1.outs (consV r1.vals fun v1 vs1 =>
    nilV vs1 (some ⟨[.int (IntKind.wrap .u32 v1.toInt)], [], f158_fresh⟩)) := by kernel_rfl
theorem f158_run (ext : Run) (n : Nat) (a0_1 : List UInt8) (a1_1 : Int) : runE G ext (n + 1) 158 [.str a0_1, .int a1_1] = f158 (runE G ext n) n a0_1 a1_1 := runE_succ f158_at f158_in

noncomputable def f153 (run : Run) (n : Nat) (a0_1 : Int) (a1_1 : Int) : Option Res := evalK G run n f153_info.keep 0 f153_info.body (retE G f153_info) (f153_info.start [.int a0_1, .int a1_1])
theorem f153_eq (run : Run) (n : Nat) (a0_1 : Int) (a1_1 : Int) : f153 run n a0_1 a1_1 =
  bif leI 0 (IntKind.wrap .u64 (BitVec.toNat (BitVec.ofInt 64 (IntKind.wrap .u64 a1_1) &&& BitVec.ofInt 64 31))) then
    bif leI 0 (IntKind.wrap .u64 (32 - IntKind.wrap .u64 (BitVec.toNat (BitVec.ofInt 64 (IntKind.wrap .u64 a1_1) &&& BitVec.ofInt 64 31)))) then
    some ⟨[.int (IntKind.wrap .u32 (BitVec.toNat (BitVec.ofInt 32 (Int.fdiv a0_1 (2 ^ (min (Int.toNat (IntKind.wrap .u64 (BitVec.toNat (BitVec.ofInt 64 (IntKind.wrap .u64 a1_1) &&& BitVec.ofInt 64 31)))) 32))) ||| BitVec.ofInt 32 (IntKind.wrap .u32 (a0_1 * 2 ^ (min (Int.toNat (IntKind.wrap .u64 (32 - IntKind.wrap .u64 (BitVec.toNat (BitVec.ofInt 64 (IntKind.wrap .u64 a1_1) &&& BitVec.ofInt 64 31))))) 32))))))], [], f153_fresh⟩
  else none
  else none := by kernel_rfl
theorem f153_run (ext : Run) (n : Nat) (a0_1 : Int) (a1_1 : Int) : runE G ext (n + 1) 153 [.int a0_1, .int a1_1] = f153 (runE G ext n) n a0_1 a1_1 := runE_succ f153_at f153_in

noncomputable def f151_l0 (run : Run) (n : Nat) (k0 : Nat) (x0_1 : List UInt8) (x9_1 : Int) (o2_1 : List AV) (o3_1 : List AV) : Option Res :=
  iterK (evalK G run n f151_keep 0 (sub [1, 1, 0, 1, 0, 0] f151_body)) f151_t0 f151_o0 (blockK 0 (seqK (evalK G run n f151_keep 0 (sub [1, 1, 1] f151_body) (retE G f151_info)) (retE G f151_info))) k0
    ⟨[.val .str none (.str x0_1), .any, .ptr ⟨(.arr 64 (.int .u32)), 2, 1, []⟩, .ptr ⟨(.arr 64 (.int .u32)), 3, 1, []⟩, .any, .any, .any, .any, .any, .val (.int .i64) none (.int x9_1), .any, .any, .any, .any, .any, .any, .any, .any, .any, .any, .any, .any, .any, .any, .any, .any, .any, .any, .any, .any, .any, .any, .any, .any, .any, .any, .any, .any, .any, .any, .any, .any, .any, .any, .any, .any, .any, .any, .any, .any, .any, .any, .any, .any, .any, .any, .any, .any, .any, .any, .any], [⟨0, none⟩, ⟨0, none⟩, ⟨1, some ⟨(.arr 64 (.int .u32)), .agg o2_1⟩⟩, ⟨1, some ⟨(.arr 64 (.int .u32)), .agg o3_1⟩⟩, ⟨0, none⟩, ⟨0, none⟩, ⟨0, none⟩, ⟨0, none⟩, ⟨0, none⟩, ⟨0, none⟩, ⟨0, none⟩, ⟨0, none⟩, ⟨0, none⟩, ⟨0, none⟩, ⟨0, none⟩, ⟨0, none⟩, ⟨0, none⟩, ⟨0, none⟩, ⟨0, none⟩, ⟨0, none⟩, ⟨0, none⟩, ⟨0, none⟩, ⟨0, none⟩, ⟨0, none⟩, ⟨0, none⟩, ⟨0, none⟩, ⟨0, none⟩, ⟨0, none⟩, ⟨0, none⟩, ⟨0, none⟩, ⟨0, none⟩, ⟨0, none⟩, ⟨0, none⟩, ⟨0, none⟩, ⟨0, none⟩, ⟨0, none⟩, ⟨0, none⟩, ⟨0, none⟩, ⟨0, none⟩, ⟨0, none⟩, ⟨0, none⟩, ⟨0, none⟩, ⟨0, none⟩, ⟨0, none⟩, ⟨0, none⟩, ⟨0, none⟩, ⟨0, none⟩, ⟨0, none⟩, ⟨0, none⟩, ⟨0, none⟩, ⟨0, none⟩, ⟨0, none⟩, ⟨0, none⟩, ⟨0, none⟩, ⟨0, none⟩, ⟨0, none⟩, ⟨0, none⟩, ⟨0, none⟩, ⟨0, none⟩, ⟨0, none⟩, ⟨0, none⟩], List.replicate 61 0⟩
theorem f151_l0_eq (run : Run) (n : Nat) (k0 : Nat) (x0_1 : List UInt8) (x9_1 : Int) (o2_1 : List AV) (o3_1 : List AV) : f151_l0 run n (k0 + 1) x0_1 x9_1 o2_1 o3_1 =
  bif ltI x9_1 64 then
    bif ltI x9_1 16 then
    (run 158 [.str x0_1, .int (IntKind.wrap .i64 (4 * x9_1))]).bind fun r1 =>
    nilV r1.outs (consV r1.vals fun v1 vs1 =>
    nilV vs1 (bif inR x9_1 64 then
    f151_l0 run n k0 x0_1 (IntKind.wrap .i64 (x9_1 + 1)) o2_1 (o3_1.set (Int.toNat x9_1) (.int v1.toInt))
  else none))
  else
    bif inR (IntKind.wrap .i64 (x9_1 - 15)) 64 then
    bif inR (IntKind.wrap .i64 (x9_1 - 2)) 64 then
    (run 153 [.int ((AV.fld (.agg o3_1) (Int.toNat (IntKind.wrap .i64 (x9_1 - 15)))).toInt), .int 7]).bind fun r2 =>
    nilV r2.outs (consV r2.vals fun v2 vs2 =>
    nilV vs2 ((run 153 [.int ((AV.fld (.agg o3_1) (Int.toNat (IntKind.wrap .i64 (x9_1 - 15)))).toInt), .int 18]).bind fun r3 =>
    nilV r3.outs (consV r3.vals fun v3 vs3 =>
    nilV vs3 ((run 153 [.int ((AV.fld (.agg o3_1) (Int.toNat (IntKind.wrap .i64 (x9_1 - 2)))).toInt), .int 17]).bind fun r4 =>
    nilV r4.outs (consV r4.vals fun v4 vs4 =>
    nilV vs4 ((run 153 [.int ((AV.fld (.agg o3_1) (Int.toNat (IntKind.wrap .i64 (x9_1 - 2)))).toInt), .int 19]).bind fun r5 =>
    nilV r5.outs (consV r5.vals fun v5 vs5 =>
    nilV vs5 (bif inR (IntKind.wrap .i64 (x9_1 - 16)) 64 then
    bif inR (IntKind.wrap .i64 (x9_1 - 7)) 64 then
    bif inR x9_1 64 then
    f151_l0 run n k0 x0_1 (IntKind.wrap .i64 (x9_1 + 1)) o2_1 (o3_1.set (Int.toNat x9_1) (.int (IntKind.wrap .u32 (IntKind.wrap .u32 (IntKind.wrap .u32 ((AV.fld (.agg o3_1) (Int.toNat (IntKind.wrap .i64 (x9_1 - 16)))).toInt + IntKind.wrap .u32 (BitVec.toNat (BitVec.ofInt 32 (IntKind.wrap .u32 (BitVec.toNat (BitVec.ofInt 32 v2.toInt ^^^ BitVec.ofInt 32 v3.toInt))) ^^^ BitVec.ofInt 32 (Int.fdiv ((AV.fld (.agg o3_1) (Int.toNat (IntKind.wrap .i64 (x9_1 - 15)))).toInt) (2 ^ 3))))) + (AV.fld (.agg o3_1) (Int.toNat (IntKind.wrap .i64 (x9_1 - 7)))).toInt) + IntKind.wrap .u32 (BitVec.toNat (BitVec.ofInt 32 (IntKind.wrap .u32 (BitVec.toNat (BitVec.ofInt 32 v4.toInt ^^^ BitVec.ofInt 32 v5.toInt))) ^^^ BitVec.ofInt 32 (Int.fdiv ((AV.fld (.agg o3_1) (Int.toNat (IntKind.wrap .i64 (x9_1 - 2)))).toInt) (2 ^ 10))))))))
  else none
  else none
  else none))))))))
  else none
  else none
  else
    some ⟨[.agg o3_1], [], f151_fresh⟩ := by kernel_rfl
noncomputable def f151 (run : Run) (n : Nat) (a0_1 : List UInt8) : Option Res := evalK G run n f151_info.keep 0 f151_info.body (retE G f151_info) (f151_info.start [.str a0_1])
theorem f151_eq (run : Run) (n : Nat) (a0_1 : List UInt8) : f151 run n a0_1 =
  f151_l0 run n n a0_1 0 (List.replicate 64 (.int 0)) (List.replicate 64 (.int 0)) := by kernel_rfl
theorem f151_run (ext : Run) (n : Nat) (a0_1 : List UInt8) : runE G ext (n + 1) 151 [.str a0_1] = f151 (runE G ext n) n a0_1 := runE_succ f151_at f151_in

noncomputable def f152 (run : Run) (n : Nat) : Option Res := evalK G run n f152_info.keep 0 f152_info.body (retE G f152_info) (f152_info.start [])
theorem f152_eq (run : Run) (n : Nat) : f152 run n  =
  some ⟨[.agg [.int 1116352408, .int 1899447441, .int 3049323471, .int 3921009573, .int 961987163, .int 1508970993, .int 2453635748, .int 2870763221, .int 3624381080, .int 310598401, .int 607225278, .int 1426881987, .int 1925078388, .int 2162078206, .int 2614888103, .int 3248222580, .int 3835390401, .int 4022224774, .int 264347078, .int 604807628, .int 770255983, .int 1249150122, .int 1555081692, .int 1996064986, .int 2554220882, .int 2821834349, .int 2952996808, .int 3210313671, .int 3336571891, .int 3584528711, .int 113926993, .int 338241895, .int 666307205, .int 773529912, .int 1294757372, .int 1396182291, .int 1695183700, .int 1986661051, .int 2177026350, .int 2456956037, .int 2730485921, .int 2820302411, .int 3259730800, .int 3345764771, .int 3516065817, .int 3600352804, .int 4094571909, .int 275423344, .int 430227734, .int 506948616, .int 659060556, .int 883997877, .int 958139571, .int 1322822218, .int 1537002063, .int 1747873779, .int 1955562222, .int 2024104815, .int 2227730452, .int 2361852424, .int 2428436474, .int 2756734187, .int 3204031479, .int 3329325298]], [], f152_fresh⟩ := by kernel_rfl
theorem f152_run (ext : Run) (n : Nat) : runE G ext (n + 1) 152 [] = f152 (runE G ext n) n  := runE_succ f152_at f152_in

noncomputable def f147_l2 (run : Run) (n : Nat) (_k0 : Nat) (k2 : Nat) (x109_1 : Int) (o2_3 : List AV) (o4_3 : List AV) (o7_3 : List AV) : Option Res :=
  iterK (evalK G run n f147_keep 2 (sub [1, 1, 1, 1, 0, 1, 0, 0] f147_body)) f147_t2 f147_o2 (blockK 2 (seqK (evalK G run n f147_keep 0 (sub [1, 1, 1, 1, 1] f147_body) (retE G f147_info)) (retE G f147_info))) k2
    ⟨[.any, .any, .ptr ⟨(.arr 8 (.int .u32)), 2, 1, []⟩, .any, .ptr ⟨(.arr 8 (.int .u32)), 4, 1, []⟩, .any, .any, .ptr ⟨(.arr 8 (.int .u32)), 7, 1, []⟩, .any, .any, .any, .any, .any, .any, .any, .any, .any, .any, .any, .any, .any, .any, .any, .any, .any, .any, .any, .any, .any, .any, .any, .any, .any, .any, .any, .any, .any, .any, .any, .any, .any, .any, .any, .any, .any, .any, .any, .any, .any, .any, .any, .any, .any, .any, .any, .any, .any, .any, .any, .any, .any, .any, .any, .any, .any, .any, .any, .any, .any, .any, .any, .any, .any, .any, .any, .any, .any, .any, .any, .any, .any, .any, .any, .any, .any, .any, .any, .any, .any, .any, .any, .any, .any, .any, .any, .any, .any, .any, .any, .any, .any, .any, .any, .any, .any, .any, .any, .any, .any, .val (.int .i64) none (.int x109_1), .any, .any, .any, .any, .any, .any, .any, .any, .any, .any, .any, .any], [⟨0, none⟩, ⟨0, none⟩, ⟨1, some ⟨(.arr 8 (.int .u32)), .agg o2_3⟩⟩, ⟨0, none⟩, ⟨1, some ⟨(.arr 8 (.int .u32)), .agg o4_3⟩⟩, ⟨0, none⟩, ⟨0, none⟩, ⟨1, some ⟨(.arr 8 (.int .u32)), .agg o7_3⟩⟩, ⟨0, none⟩, ⟨0, none⟩, ⟨0, none⟩, ⟨0, none⟩, ⟨0, none⟩, ⟨0, none⟩, ⟨0, none⟩, ⟨0, none⟩, ⟨0, none⟩, ⟨0, none⟩, ⟨0, none⟩, ⟨0, none⟩, ⟨0, none⟩, ⟨0, none⟩, ⟨0, none⟩, ⟨0, none⟩, ⟨0, none⟩, ⟨0, none⟩, ⟨0, none⟩, ⟨0, none⟩, ⟨0, none⟩, ⟨0, none⟩, ⟨0, none⟩, ⟨0, none⟩, ⟨0, none⟩, ⟨0, none⟩, ⟨0, none⟩, ⟨0, none⟩, ⟨0, none⟩, ⟨0, none⟩, ⟨0, none⟩, ⟨0, none⟩, ⟨0, none⟩, ⟨0, none⟩, ⟨0, none⟩, ⟨0, none⟩, ⟨0, none⟩, ⟨0, none⟩, ⟨0, none⟩, ⟨0, none⟩, ⟨0, none⟩, ⟨0, none⟩, ⟨0, none⟩, ⟨0, none⟩, ⟨0, none⟩, ⟨0, none⟩, ⟨0, none⟩, ⟨0, none⟩, ⟨0, none⟩, ⟨0, none⟩, ⟨0, none⟩, ⟨0, none⟩, ⟨0, none⟩, ⟨0, none⟩, ⟨0, none⟩, ⟨0, none⟩, ⟨0, none⟩, ⟨0, none⟩, ⟨0, none⟩, ⟨0, none⟩, ⟨0, none⟩, ⟨0, none⟩, ⟨0, none⟩, ⟨0, none⟩, ⟨0, none⟩, ⟨0, none⟩, ⟨0, none⟩, ⟨0, none⟩, ⟨0, none⟩, ⟨0, none⟩, ⟨0, none⟩, ⟨0, none⟩, ⟨0, none⟩, ⟨0, none⟩, ⟨0, none⟩, ⟨0, none⟩, ⟨0, none⟩, ⟨0, none⟩, ⟨0, none⟩, ⟨0, none⟩, ⟨0, none⟩, ⟨0, none⟩, ⟨0, none⟩, ⟨0, none⟩, ⟨0, none⟩, ⟨0, none⟩, ⟨0, none⟩, ⟨0, none⟩, ⟨0, none⟩, ⟨0, none⟩, ⟨0, none⟩, ⟨0, none⟩, ⟨0, none⟩, ⟨0, none⟩, ⟨0, none⟩, ⟨0, none⟩, ⟨0, none⟩, ⟨0, none⟩, ⟨0, none⟩, ⟨0, none⟩, ⟨0, none⟩, ⟨0, none⟩, ⟨0, none⟩, ⟨0, none⟩, ⟨0, none⟩, ⟨0, none⟩, ⟨0, none⟩, ⟨0, none⟩, ⟨0, none⟩, ⟨0, none⟩, ⟨0, none⟩, ⟨0, none⟩, ⟨0, none⟩, ⟨0, none⟩], List.replicate 122 0⟩
noncomputable def f147_l0 (run : Run) (n : Nat) (k0 : Nat) (x18_1 : Int) (o2_1 : List AV) (o4_1 : List AV) (o5_1 : List AV) (o6_1 : List AV) (o7_1 : List AV) : Option Res :=
  iterK (evalK G run n f147_keep 0 (sub [1, 1, 1, 0, 1, 0, 0] f147_body)) f147_t0 f147_o0 (blockK 0 (seqK (evalK G run n f147_keep 0 (sub [1, 1, 1, 1] f147_body) (retE G f147_info)) (retE G f147_info))) k0
    ⟨[.any, .any, .ptr ⟨(.arr 8 (.int .u32)), 2, 1, []⟩, .any, .ptr ⟨(.arr 8 (.int .u32)), 4, 1, []⟩, .ptr ⟨(.arr 64 (.int .u32)), 5, 1, []⟩, .ptr ⟨(.arr 64 (.int .u32)), 6, 1, []⟩, .ptr ⟨(.arr 8 (.int .u32)), 7, 1, []⟩, .any, .any, .any, .any, .any, .any, .any, .any, .any, .any, .val (.int .i64) none (.int x18_1), .any, .any, .any, .any, .any, .any, .any, .any, .any, .any, .any, .any, .any, .any, .any, .any, .any, .any, .any, .any, .any, .any, .any, .any, .any, .any, .any, .any, .any, .any, .any, .any, .any, .any, .any, .any, .any, .any, .any, .any, .any, .any, .any, .any, .any, .any, .any, .any, .any, .any, .any, .any, .any, .any, .any, .any, .any, .any, .any, .any, .any, .any, .any, .any, .any, .any, .any, .any, .any, .any, .any, .any, .any, .any, .any, .any, .any, .any, .any, .any, .any, .any, .any, .any, .any, .any, .any, .any, .any, .any, .any, .any, .any, .any, .any, .any, .any, .any, .any, .any, .any, .any, .any], [⟨0, none⟩, ⟨0, none⟩, ⟨1, some ⟨(.arr 8 (.int .u32)), .agg o2_1⟩⟩, ⟨0, none⟩, ⟨1, some ⟨(.arr 8 (.int .u32)), .agg o4_1⟩⟩, ⟨1, some ⟨(.arr 64 (.int .u32)), .agg o5_1⟩⟩, ⟨1, some ⟨(.arr 64 (.int .u32)), .agg o6_1⟩⟩, ⟨1, some ⟨(.arr 8 (.int .u32)), .agg o7_1⟩⟩, ⟨0, none⟩, ⟨0, none⟩, ⟨0, none⟩, ⟨0, none⟩, ⟨0, none⟩, ⟨0, none⟩, ⟨0, none⟩, ⟨0, none⟩, ⟨0, none⟩, ⟨0, none⟩, ⟨0, none⟩, ⟨0, none⟩, ⟨0, none⟩, ⟨0, none⟩, ⟨0, none⟩, ⟨0, none⟩, ⟨0, none⟩, ⟨0, none⟩, ⟨0, none⟩, ⟨0, none⟩, ⟨0, none⟩, ⟨0, none⟩, ⟨0, none⟩, ⟨0, none⟩, ⟨0, none⟩, ⟨0, none⟩, ⟨0, none⟩, ⟨0, none⟩, ⟨0, none⟩, ⟨0, none⟩, ⟨0, none⟩, ⟨0, none⟩, ⟨0, none⟩, ⟨0, none⟩, ⟨0, none⟩, ⟨0, none⟩, ⟨0, none⟩, ⟨0, none⟩, ⟨0, none⟩, ⟨0, none⟩, ⟨0, none⟩, ⟨0, none⟩, ⟨0, none⟩, ⟨0, none⟩, ⟨0, none⟩, ⟨0, none⟩, ⟨0, none⟩, ⟨0, none⟩, ⟨0, none⟩, ⟨0, none⟩, ⟨0, none⟩, ⟨0, none⟩, ⟨0, none⟩, ⟨0, none⟩, ⟨0, none⟩, ⟨0, none⟩, ⟨0, none⟩, ⟨0, none⟩, ⟨0, none⟩, ⟨0, none⟩, ⟨0, none⟩, ⟨0, none⟩, ⟨0, none⟩, ⟨0, none⟩, ⟨0, none⟩, ⟨0, none⟩, ⟨0, none⟩, ⟨0, none⟩, ⟨0, none⟩, ⟨0, none⟩, ⟨0, none⟩, ⟨0, none⟩, ⟨0, none⟩, ⟨0, none⟩, ⟨0, none⟩, ⟨0, none⟩, ⟨0, none⟩, ⟨0, none⟩, ⟨0, none⟩, ⟨0, none⟩, ⟨0, none⟩, ⟨0, none⟩, ⟨0, none⟩, ⟨0, none⟩, ⟨0, none⟩, ⟨0, none⟩, ⟨0, none⟩, ⟨0, none⟩, ⟨0, none⟩, ⟨0, none⟩, ⟨0, none⟩, ⟨0, none⟩, ⟨0, none⟩, ⟨0, none⟩, ⟨0, none⟩, ⟨0, none⟩, ⟨0, none⟩, ⟨0, none⟩, ⟨0, none⟩, ⟨0, none⟩, ⟨0, none⟩, ⟨0, none⟩, ⟨0, none⟩, ⟨0, none⟩, ⟨0, none⟩, ⟨0, none⟩, ⟨0, none⟩, ⟨0, none⟩, ⟨0, none⟩, ⟨0, none⟩, ⟨0, none⟩, ⟨0, none⟩, ⟨0, none⟩, ⟨0, none⟩], List.replicate 122 0⟩
theorem f147_l2_eq (run : Run) (n : Nat) (k0 : Nat) (k2 : Nat) (x109_1 : Int) (o2_3 : List AV) (o4_3 : List AV) (o7_3 : List AV) : f147_l2 run n k0 (k2 + 1) x109_1 o2_3 o4_3 o7_3 =
  bif ltI x109_1 8 then
    bif inR x109_1 8 then
    bif inR x109_1 8 then
    bif inR x109_1 8 then
    f147_l2 run n k0 k2 (IntKind.wrap .i64 (x109_1 + 1)) (o2_3.set (Int.toNat x109_1) (.int (IntKind.wrap .u32 ((AV.fld (.agg o2_3) (Int.toNat x109_1)).toInt + (AV.fld (.agg o7_3) (Int.toNat x109_1)).toInt)))) o4_3 o7_3
  else none
  else none
  else none
  else
    some ⟨[.agg o2_3], [], f147_fresh⟩ := by kernel_rfl
theorem f147_l0_eq (run : Run) (n : Nat) (k0 : Nat) (x18_1 : Int) (o2_1 : List AV) (o4_1 : List AV) (o5_1 : List AV) (o6_1 : List AV) (o7_1 : List AV) : f147_l0 run n (k0 + 1) x18_1 o2_1 o4_1 o5_1 o6_1 o7_1 =
  bif ltI x18_1 64 then
    (run 153 [.int ((AV.fld (.agg o7_1) 4).toInt), .int 6]).bind fun r3 =>
    nilV r3.outs (consV r3.vals fun v3 vs3 =>
    nilV vs3 ((run 153 [.int ((AV.fld (.agg o7_1) 4).toInt), .int 11]).bind fun r4 =>
    nilV r4.outs (consV r4.vals fun v4 vs4 =>
    nilV vs4 ((run 153 [.int ((AV.fld (.agg o7_1) 4).toInt), .int 25]).bind fun r5 =>
    nilV r5.outs (consV r5.vals fun v5 vs5 =>
    nilV vs5 (bif inR x18_1 64 then
    bif inR x18_1 64 then
    (run 153 [.int ((AV.fld (.agg o7_1) 0).toInt), .int 2]).bind fun r6 =>
    nilV r6.outs (consV r6.vals fun v6 vs6 =>
    nilV vs6 ((run 153 [.int ((AV.fld (.agg o7_1) 0).toInt), .int 13]).bind fun r7 =>
    nilV r7.outs (consV r7.vals fun v7 vs7 =>
    nilV vs7 ((run 153 [.int ((AV.fld (.agg o7_1) 0).toInt), .int 22]).bind fun r8 =>
    nilV r8.outs (consV r8.vals fun v8 vs8 =>
    nilV vs8 (f147_l0 run n k0 (IntKind.wrap .i64 (x18_1 + 1)) o2_1 o4_1 o5_1 o6_1 [.int (IntKind.wrap .u32 (IntKind.wrap .u32 (IntKind.wrap .u32 (IntKind.wrap .u32 (IntKind.wrap .u32 (IntKind.wrap .u32 ((AV.fld (.agg o7_1) 7).toInt + IntKind.wrap .u32 (BitVec.toNat (BitVec.ofInt 32 (IntKind.wrap .u32 (BitVec.toNat (BitVec.ofInt 32 v3.toInt ^^^ BitVec.ofInt 32 v4.toInt))) ^^^ BitVec.ofInt 32 v5.toInt))) + IntKind.wrap .u32 (BitVec.toNat (BitVec.ofInt 32 (IntKind.wrap .u32 (BitVec.toNat (BitVec.ofInt 32 ((AV.fld (.agg o7_1) 4).toInt) &&& BitVec.ofInt 32 ((AV.fld (.agg o7_1) 5).toInt)))) ^^^ BitVec.ofInt 32 (IntKind.wrap .u32 (BitVec.toNat (BitVec.ofInt 32 (IntKind.wrap .u32 (BitVec.toNat (BitVec.ofInt 32 4294967295 ^^^ BitVec.ofInt 32 ((AV.fld (.agg o7_1) 4).toInt)))) &&& BitVec.ofInt 32 ((AV.fld (.agg o7_1) 6).toInt))))))) + (AV.fld (.agg o6_1) (Int.toNat x18_1)).toInt) + (AV.fld (.agg o5_1) (Int.toNat x18_1)).toInt) + IntKind.wrap .u32 (BitVec.toNat (BitVec.ofInt 32 (IntKind.wrap .u32 (BitVec.toNat (BitVec.ofInt 32 v6.toInt ^^^ BitVec.ofInt 32 v7.toInt))) ^^^ BitVec.ofInt 32 v8.toInt))) + IntKind.wrap .u32 (BitVec.toNat (BitVec.ofInt 32 (IntKind.wrap .u32 (BitVec.toNat (BitVec.ofInt 32 (IntKind.wrap .u32 (BitVec.toNat (BitVec.ofInt 32 ((AV.fld (.agg o7_1) 0).toInt) &&& BitVec.ofInt 32 ((AV.fld (.agg o7_1) 1).toInt)))) ^^^ BitVec.ofInt 32 (IntKind.wrap .u32 (BitVec.toNat (BitVec.ofInt 32 ((AV.fld (.agg o7_1) 0).toInt) &&& BitVec.ofInt 32 ((AV.fld (.agg o7_1) 2).toInt))))))) ^^^ BitVec.ofInt 32 (IntKind.wrap .u32 (BitVec.toNat (BitVec.ofInt 32 ((AV.fld (.agg o7_1) 1).toInt) &&& BitVec.ofInt 32 ((AV.fld (.agg o7_1) 2).toInt)))))))), .int ((AV.fld (.agg o7_1) 0).toInt), .int ((AV.fld (.agg o7_1) 1).toInt), .int ((AV.fld (.agg o7_1) 2).toInt), .int (IntKind.wrap .u32 ((AV.fld (.agg o7_1) 3).toInt + IntKind.wrap .u32 (IntKind.wrap .u32 (IntKind.wrap .u32 (IntKind.wrap .u32 ((AV.fld (.agg o7_1) 7).toInt + IntKind.wrap .u32 (BitVec.toNat (BitVec.ofInt 32 (IntKind.wrap .u32 (BitVec.toNat (BitVec.ofInt 32 v3.toInt ^^^ BitVec.ofInt 32 v4.toInt))) ^^^ BitVec.ofInt 32 v5.toInt))) + IntKind.wrap .u32 (BitVec.toNat (BitVec.ofInt 32 (IntKind.wrap .u32 (BitVec.toNat (BitVec.ofInt 32 ((AV.fld (.agg o7_1) 4).toInt) &&& BitVec.ofInt 32 ((AV.fld (.agg o7_1) 5).toInt)))) ^^^ BitVec.ofInt 32 (IntKind.wrap .u32 (BitVec.toNat (BitVec.ofInt 32 (IntKind.wrap .u32 (BitVec.toNat (BitVec.ofInt 32 4294967295 ^^^ BitVec.ofInt 32 ((AV.fld (.agg o7_1) 4).toInt)))) &&& BitVec.ofInt 32 ((AV.fld (.agg o7_1) 6).toInt))))))) + (AV.fld (.agg o6_1) (Int.toNat x18_1)).toInt) + (AV.fld (.agg o5_1) (Int.toNat x18_1)).toInt))), .int ((AV.fld (.agg o7_1) 4).toInt), .int ((AV.fld (.agg o7_1) 5).toInt), .int ((AV.fld (.agg o7_1) 6).toInt)]))))))
  else none
  else none))))))
  else
    f147_l2 run n k0 n 0 o2_1 o4_1 o7_1 := by kernel_rfl
noncomputable def f147 (run : Run) (n : Nat) (a0_1 : List AV) (a1_1 : List UInt8) : Option Res := evalK G run n f147_info.keep 0 f147_info.body (retE G f147_info) (f147_info.start [.agg a0_1, .str a1_1])
theorem f147_eq (run : Run) (n : Nat) (a0_1 : List AV) (a1_1 : List UInt8) : f147 run n a0_1 a1_1 =
  (run 151 [.str a1_1]).bind fun r1 =>
    nilV r1.outs (consV r1.vals fun v1 vs1 =>
    nilV vs1 ((run 152 []).bind fun r2 =>
    nilV r2.outs (consV r2.vals fun v2 vs2 =>
    nilV vs2 (f147_l0 run n n 0 a0_1 (List.replicate 8 (.int 0)) v1.toAgg v2.toAgg a0_1)))) := by kernel_rfl
theorem f147_run (ext : Run) (n : Nat) (a0_1 : List AV) (a1_1 : List UInt8) : runE G ext (n + 1) 147 [.agg a0_1, .str a1_1] = f147 (runE G ext n) n a0_1 a1_1 := runE_succ f147_at f147_in

noncomputable def f134_l0 (run : Run) (n : Nat) (k0 : Nat) (x4_1 : Int) (o0_1 : List AV) (o0_2 : List UInt8) (o0_3 : Int) (o0_4 : Bool) : Option Res :=
  iterK (evalK G run n f134_keep 0 (sub [1, 1, 1, 1, 1, 0, 0, 0] f134_body)) f134_t0 f134_o0 (blockK 0 (seqK (evalK G run n f134_keep 0 (sub [1, 1, 1, 1, 1, 1] f134_body) (retE G f134_info)) (retE G f134_info))) k0
    ⟨[.ptr ⟨(.struct [(.arr 8 (.int .u32)), .str, (.int .u64), .bool]), 0, 0, []⟩, .any, .any, .any, .val (.int .i64) none (.int x4_1), .any, .any, .any, .any, .any, .any, .any, .any, .any, .any, .any, .any, .any, .any, .any, .any, .any, .any, .any, .any, .any, .any, .any, .any, .any, .any, .any, .any, .any, .any, .any, .any, .any, .any, .any, .any, .any, .any, .any, .any, .any, .any, .any, .any, .any, .any, .any, .any, .any, .any, .any, .any, .any, .any, .any, .any, .any, .any, .any, .any, .any, .any, .any, .any, .any, .any, .any], [⟨0, some ⟨(.struct [(.arr 8 (.int .u32)), .str, (.int .u64), .bool]), .agg [.agg o0_1, .str o0_2, .int o0_3, .bool o0_4]⟩⟩, ⟨0, none⟩, ⟨0, none⟩, ⟨0, none⟩, ⟨0, none⟩, ⟨0, none⟩, ⟨0, none⟩, ⟨0, none⟩, ⟨0, none⟩, ⟨0, none⟩, ⟨0, none⟩, ⟨0, none⟩, ⟨0, none⟩, ⟨0, none⟩, ⟨0, none⟩, ⟨0, none⟩, ⟨0, none⟩, ⟨0, none⟩, ⟨0, none⟩, ⟨0, none⟩, ⟨0, none⟩, ⟨0, none⟩, ⟨0, none⟩, ⟨0, none⟩, ⟨0, none⟩, ⟨0, none⟩, ⟨0, none⟩, ⟨0, none⟩, ⟨0, none⟩, ⟨0, none⟩, ⟨0, none⟩, ⟨0, none⟩, ⟨0, none⟩, ⟨0, none⟩, ⟨0, none⟩, ⟨0, none⟩, ⟨0, none⟩, ⟨0, none⟩, ⟨0, none⟩, ⟨0, none⟩, ⟨0, none⟩, ⟨0, none⟩, ⟨0, none⟩, ⟨0, none⟩, ⟨0, none⟩, ⟨0, none⟩, ⟨0, none⟩, ⟨0, none⟩, ⟨0, none⟩, ⟨0, none⟩, ⟨0, none⟩, ⟨0, none⟩, ⟨0, none⟩, ⟨0, none⟩, ⟨0, none⟩, ⟨0, none⟩, ⟨0, none⟩, ⟨0, none⟩, ⟨0, none⟩, ⟨0, none⟩, ⟨0, none⟩, ⟨0, none⟩, ⟨0, none⟩, ⟨0, none⟩, ⟨0, none⟩, ⟨0, none⟩, ⟨0, none⟩, ⟨0, none⟩, ⟨0, none⟩, ⟨0, none⟩, ⟨0, none⟩, ⟨0, none⟩], List.replicate 72 0⟩
theorem f134_l0_eq (run : Run) (n : Nat) (k0 : Nat) (x4_1 : Int) (o0_1 : List AV) (o0_2 : List UInt8) (o0_3 : Int) (o0_4 : Bool) : f134_l0 run n (k0 + 1) x4_1 o0_1 o0_2 o0_3 o0_4 =
  bif leI 64 (IntKind.wrap .i64 ((o0_2.length : Int) - x4_1)) then
    bif boundsOk x4_1 (IntKind.wrap .i64 (x4_1 + 64)) (o0_2.length : Int) (o0_2.length : Int) then
    (run 147 [.agg o0_1, .str (List.drop (Int.toNat x4_1) (List.take (Int.toNat (IntKind.wrap .i64 (x4_1 + 64))) o0_2))]).bind fun r2 =>
    nilV r2.outs (consV r2.vals fun v2 vs2 =>
    nilV vs2 (f134_l0 run n k0 (IntKind.wrap .i64 (x4_1 + 64)) v2.toAgg o0_2 o0_3 o0_4))
  else none
  else
    bif boundsOk x4_1 (o0_2.length : Int) (o0_2.length : Int) (o0_2.length : Int) then
    some ⟨[], [.agg [.agg o0_1, .str (List.drop (Int.toNat x4_1) (List.take (Int.toNat (o0_2.length : Int)) o0_2)), .int o0_3, .bool o0_4]], f134_fresh⟩
  else none := by kernel_rfl
noncomputable def f134 (run : Run) (n : Nat) (a0_1 : List AV) (a0_2 : List UInt8) (a0_3 : Int) (a0_4 : Bool) (a1_1 : List UInt8) : Option Res := evalK G run n f134_info.keep 0 f134_info.body (retE G f134_info) (f134_info.start [.agg [.agg a0_1, .str a0_2, .int a0_3, .bool a0_4], .str a1_1])
theorem f134_eq (run : Run) (n : Nat) (a0_1 : List AV) (a0_2 : List UInt8) (a0_3 : Int) (a0_4 : Bool) (a1_1 : List UInt8) : f134 run n a0_1 a0_2 a0_3 a0_4 a1_1 =
  bif !a0_4 then
    (run 146 []).bind fun r1 =>
    nilV r1.outs (consV r1.vals fun v1 vs1 =>
    nilV vs1 (bif Nat.ble (a0_2.length + a1_1.length) maxLen then
    f134_l0 run n n 0 v1.toAgg (a0_2 ++ a1_1) (IntKind.wrap .u64 (a0_3 + IntKind.wrap .u64 (a1_1.length : Int))) true
  else none))
  else
    bif Nat.ble (a0_2.length + a1_1.length) maxLen then
    f134_l0 run n n 0 a0_1 (a0_2 ++ a1_1) (IntKind.wrap .u64 (a0_3 + IntKind.wrap .u64 (a1_1.length : Int))) a0_4
  else none := by kernel_rfl
theorem f134_run (ext : Run) (n : Nat) (a0_1 : List AV) (a0_2 : List UInt8) (a0_3 : Int) (a0_4 : Bool) (a1_1 : List UInt8) : runE G ext (n + 1) 134 [.agg [.agg a0_1, .str a0_2, .int a0_3, .bool a0_4], .str a1_1] = f134 (runE G ext n) n a0_1 a0_2 a0_3 a0_4 a1_1 := runE_succ f134_at f134_in

noncomputable def f137_l0 (run : Run) (n : Nat) (k0 : Nat) (x0_1 : Int) (x1_1 : Int) (m1 : Nat) (x9_1 : Int) (x10_1 : Int) (o8_1 : List AV) : Option Res :=
  iterK (evalK G run n f137_keep 0 (sub [1, 1, 0, 1, 0, 0] f137_body)) f137_t0 f137_o0 (blockK 0 (seqK (evalK G run n f137_keep 0 (sub [1, 1, 1] f137_body) (retE G f137_info)) (retE G f137_info))) k0
    ⟨[.val (.int .u64) none (.int x0_1), .val (.int .i64) none (.int x1_1), .any, .any, .any, .ref ⟨(.arr m1 (.int .u8)), 8, 1, []⟩ 0 m1, .any, .any, .any, .val (.int .i64) none (.int x9_1), .val (.int .i64) none (.int x10_1), .any, .any, .any, .any, .any, .any, .any, .any, .any, .any, .any, .any, .any, .any, .any], [⟨0, none⟩, ⟨0, none⟩, ⟨0, none⟩, ⟨0, none⟩, ⟨0, none⟩, ⟨0, none⟩, ⟨0, none⟩, ⟨0, none⟩, ⟨1, some ⟨(.arr m1 (.int .u8)), .agg o8_1⟩⟩, ⟨0, none⟩, ⟨0, none⟩, ⟨0, none⟩, ⟨0, none⟩, ⟨0, none⟩, ⟨0, none⟩, ⟨0, none⟩, ⟨0, none⟩, ⟨0, none⟩, ⟨0, none⟩, ⟨0, none⟩, ⟨0, none⟩, ⟨0, none⟩, ⟨0, none⟩, ⟨0, none⟩, ⟨0, none⟩, ⟨0, none⟩], List.replicate 26 0⟩
theorem f137_l0_eq (run : Run) (n : Nat) (k0 : Nat) (x0_1 : Int) (x1_1 : Int) (m1 : Nat) (x9_1 : Int) (x10_1 : Int) (o8_1 : List AV) : f137_l0 run n (k0 + 1) x0_1 x1_1 m1 x9_1 x10_1 o8_1 =
  bif ltI x10_1 x9_1 then
    bif inR (IntKind.wrap .i64 (IntKind.wrap .i64 (x1_1 - 1) - x10_1)) m1 then
    f137_l0 run n k0 (Int.fdiv x0_1 (2 ^ 8)) x1_1 m1 x9_1 (IntKind.wrap .i64 (x10_1 + 1)) (o8_1.set (0 + (Int.toNat (IntKind.wrap .i64 (IntKind.wrap .i64 (x1_1 - 1) - x10_1)))) (.int (IntKind.wrap .u8 x0_1)))
  else none
  else
    some ⟨[.str (bytesOf (List.drop 0 (List.take m1 o8_1)))], [], f137_fresh⟩ := by kernel_rfl
noncomputable def f137 (run : Run) (n : Nat) (a0_1 : Int) (a1_1 : Int) : Option Res := evalK G run n f137_info.keep 0 f137_info.body (retE G f137_info) (f137_info.start [.int a0_1, .int a1_1])
theorem f137_eq (run : Run) (n : Nat) (a0_1 : Int) (a1_1 : Int) : f137 run n a0_1 a1_1 =
  bif eqI a1_1 a1_1 && leI 0 a1_1 && Nat.ble (Int.toNat a1_1 * 1) 140737488355328 then
    f137_l0 run n n a0_1 a1_1 (Int.toNat a1_1) a1_1 0 (List.replicate (Int.toNat a1_1) (.int 0))
  else none := by kernel_rfl
theorem f137_run (ext : Run) (n : Nat) (a0_1 : Int) (a1_1 : Int) : runE G ext (n + 1) 137 [.int a0_1, .int a1_1] = f137 (runE G ext n) n a0_1 a1_1 := runE_succ f137_at f137_in

noncomputable def f112 (run : Run) (n : Nat) (a0_1 : Int) : Option Res := evalK G run n f112_info.keep 0 f112_info.body (retE G f112_info) (f112_info.start [.int a0_1])
theorem f112_eq (run : Run) (n : Nat) (a0_1 : Int) : f112 run n a0_1 =
  (run 137 [.int a0_1, .int 8]).bind fun r1 =>
    nilV r1.outs (consV r1.vals fun v1 vs1 =>
    nilV vs1 (some ⟨[.str v1.toStr], [], f112_fresh⟩)) := by kernel_rfl
theorem f112_run (ext : Run) (n : Nat) (a0_1 : Int) : runE G ext (n + 1) 112 [.int a0_1] = f112 (runE G ext n) n a0_1 := runE_succ f112_at f112_in

noncomputable def f148 (run : Run) (n : Nat) (a0_1 : Int) : Option Res := evalK G run n f148_info.keep 0 f148_info.body (retE G f148_info) (f148_info.start [.int a0_1])
theorem f148_eq (run : Run) (n : Nat) (a0_1 : Int) : f148 run n a0_1 =
  (run 154 [.str [0], .int (IntKind.wrap .i64 (Int.tmod (IntKind.wrap .u64 (119 - Int.tmod a0_1 64)) 64))]).bind fun r1 =>
    nilV r1.outs (consV r1.vals fun v1 vs1 =>
    nilV vs1 (bif Nat.ble (1 + v1.toStr.length) maxLen then
    (run 112 [.int (IntKind.wrap .u64 (8 * a0_1))]).bind fun r2 =>
    nilV r2.outs (consV r2.vals fun v2 vs2 =>
    nilV vs2 (bif Nat.ble (([128] ++ v1.toStr).length + v2.toStr.length) maxLen then
    some ⟨[.str (([128] ++ v1.toStr) ++ v2.toStr)], [], f148_fresh⟩
  else none))
  else none)) := by kernel_rfl
theorem f148_run (ext : Run) (n : Nat) (a0_1 : Int) : runE G ext (n + 1) 148 [.int a0_1] = f148 (runE G ext n) n a0_1 := runE_succ f148_at f148_in

noncomputable def f111 (run : Run) (n : Nat) (a0_1 : Int) : Option Res := evalK G run n f111_info.keep 0 f111_info.body (retE G f111_info) (f111_info.start [.int a0_1])
theorem f111_eq (run : Run) (n : Nat) (a0_1 : Int) : f111 run n a0_1 =
  (run 137 [.int (IntKind.wrap .u64 a0_1), .int 4]).bind fun r1 =>
    nilV r1.outs (consV r1.vals fun v1 vs1 =>
    nilV vs1 (some ⟨[.str v1.toStr], [], f111_fresh⟩)) := by kernel_rfl
theorem f111_run (ext : Run) (n : Nat) (a0_1 : Int) : runE G ext (n + 1) 111 [.int a0_1] = f111 (runE G ext n) n a0_1 := runE_succ f111_at f111_in

noncomputable def f135_l0 (run : Run) (n : Nat) (k0 : Nat) (x18_1 : List AV) (x19_1 : Int) (o0_1 : List AV) (o0_2 : List UInt8) (o0_3 : Int) (o0_4 : Bool) (o2_1 : List UInt8) (o4_1 : List UInt8) : Option Res :=
  iterK (evalK G run n f135_keep 0 (sub [1, 1, 1, 1, 1, 0, 1, 0, 0] f135_body)) f135_t0 f135_o0 (blockK 0 (seqK (evalK G run n f135_keep 0 (sub [1, 1, 1, 1, 1, 1] f135_body) (retE G f135_info)) (retE G f135_info))) k0
    ⟨[.ptr ⟨(.struct [(.arr 8 (.int .u32)), .str, (.int .u64), .bool]), 0, 0, []⟩, .any, .ptr ⟨(.blob 32), 2, 1, []⟩, .any, .ptr ⟨(.blob 32), 4, 1, []⟩, .any, .any, .any, .any, .any, .any, .any, .any, .any, .any, .any, .any, .any, .val (.arr 8 (.int .u32)) none (.agg x18_1), .val (.int .i64) none (.int x19_1), .any, .any, .any, .any, .any, .any, .any, .any, .any, .any, .any, .any, .any, .any, .any, .any, .any], [⟨0, some ⟨(.struct [(.arr 8 (.int .u32)), .str, (.int .u64), .bool]), .agg [.agg o0_1, .str o0_2, .int o0_3, .bool o0_4]⟩⟩, ⟨0, none⟩, ⟨1, some ⟨(.blob 32), .blob o2_1⟩⟩, ⟨0, none⟩, ⟨1, some ⟨(.blob 32), .blob o4_1⟩⟩, ⟨0, none⟩, ⟨0, none⟩, ⟨0, none⟩, ⟨0, none⟩, ⟨0, none⟩, ⟨0, none⟩, ⟨0, none⟩, ⟨0, none⟩, ⟨0, none⟩, ⟨0, none⟩, ⟨0, none⟩, ⟨0, none⟩, ⟨0, none⟩, ⟨0, none⟩, ⟨0, none⟩, ⟨0, none⟩, ⟨0, none⟩, ⟨0, none⟩, ⟨0, none⟩, ⟨0, none⟩, ⟨0, none⟩, ⟨0, none⟩, ⟨0, none⟩, ⟨0, none⟩, ⟨0, none⟩, ⟨0, none⟩, ⟨0, none⟩, ⟨0, none⟩, ⟨0, none⟩, ⟨0, none⟩, ⟨0, none⟩, ⟨0, none⟩], List.replicate 37 0⟩
theorem f135_l0_eq (run : Run) (n : Nat) (k0 : Nat) (x18_1 : List AV) (x19_1 : Int) (o0_1 : List AV) (o0_2 : List UInt8) (o0_3 : Int) (o0_4 : Bool) (o2_1 : List UInt8) (o4_1 : List UInt8) : f135_l0 run n (k0 + 1) x18_1 x19_1 o0_1 o0_2 o0_3 o0_4 o2_1 o4_1 =
  bif ltI x19_1 8 then
    bif inR x19_1 8 then
    bif boundsOk (IntKind.wrap .i64 (4 * x19_1)) (IntKind.wrap .i64 (IntKind.wrap .i64 (4 * x19_1) + 4)) (IntKind.wrap .i64 (IntKind.wrap .i64 (4 * x19_1) + 4)) 32 && true then
    (run 111 [.int ((AV.fld (.agg x18_1) (Int.toNat x19_1)).toInt)]).bind fun r3 =>
    nilV r3.outs (consV r3.vals fun v2 vs2 =>
    nilV vs2 (f135_l0 run n k0 x18_1 (IntKind.wrap .i64 (x19_1 + 1)) o0_1 o0_2 o0_3 o0_4 o2_1 (bytesOf (splice (ofBytes o4_1) (Int.toNat (IntKind.wrap .i64 (4 * x19_1))) (List.take ((Int.toNat (IntKind.wrap .i64 (IntKind.wrap .i64 (4 * x19_1) + 4))) - (Int.toNat (IntKind.wrap .i64 (4 * x19_1)))) (ofBytes v2.toStr))))))
  else none
  else none
  else
    some ⟨[.blob o4_1], [.agg [.agg o0_1, .str o0_2, .int o0_3, .bool o0_4]], f135_fresh⟩ := by kernel_rfl
noncomputable def f135 (run : Run) (n : Nat) (a0_1 : List AV) (a0_2 : List UInt8) (a0_3 : Int) (a0_4 : Bool) : Option Res := evalK G run n f135_info.keep 0 f135_info.body (retE G f135_info) (f135_info.start [.agg [.agg a0_1, .str a0_2, .int a0_3, .bool a0_4]])
theorem f135_eq (run : Run) (n : Nat) (a0_1 : List AV) (a0_2 : List UInt8) (a0_3 : Int) (a0_4 : Bool) : f135 run n a0_1 a0_2 a0_3 a0_4 =
  (run 148 [.int a0_3]).bind fun r1 =>
    nilV r1.outs (consV r1.vals fun v1 vs1 =>
    nilV vs1 ((run 134 [.agg [.agg a0_1, .str a0_2, .int a0_3, .bool a0_4], .str v1.toStr]).bind fun r2 =>
    consV r2.outs fun y1 ys1 =>
    nilV ys1 (nilV r2.vals (f135_l0 run n n ((y1.fld 0).toAgg) 0 a0_1 a0_2 a0_3 a0_4 (List.replicate 32 0) (List.replicate 32 0))))) := by kernel_rfl
theorem f135_run (ext : Run) (n : Nat) (a0_1 : List AV) (a0_2 : List UInt8) (a0_3 : Int) (a0_4 : Bool) : runE G ext (n + 1) 135 [.agg [.agg a0_1, .str a0_2, .int a0_3, .bool a0_4]] = f135 (runE G ext n) n a0_1 a0_2 a0_3 a0_4 := runE_succ f135_at f135_in

noncomputable def f109 (run : Run) (n : Nat) (a0_1 : List UInt8) : Option Res := evalK G run n f109_info.keep 0 f109_info.body (retE G f109_info) (f109_info.start [.str a0_1])
theorem f109_eq (run : Run) (n : Nat) (a0_1 : List UInt8) : f109 run n a0_1 =
  (run 133 []).bind fun r1 =>
    nilV r1.outs (consV r1.vals fun v1 vs1 =>
    nilV vs1 ((run 134 [.agg [.agg ((v1.fld 0).toAgg), .str ((v1.fld 1).toStr), .int ((v1.fld 2).toInt), .bool ((v1.fld 3).toBool)], .str a0_1]).bind fun r2 =>
    consV r2.outs fun y1 ys1 =>
    nilV ys1 (nilV r2.vals ((run 135 [.agg [.agg ((y1.fld 0).toAgg), .str ((y1.fld 1).toStr), .int ((y1.fld 2).toInt), .bool ((y1.fld 3).toBool)]]).bind fun r3 =>
    consV r3.outs fun _y2 ys2 =>
    nilV ys2 (consV r3.vals fun v2 vs2 =>
    nilV vs2 (some ⟨[.blob v2.toBlob], [], f109_fresh⟩)))))) := by kernel_rfl
theorem f109_run (ext : Run) (n : Nat) (a0_1 : List UInt8) : runE G ext (n + 1) 109 [.str a0_1] = f109 (runE G ext n) n a0_1 := runE_succ f109_at f109_in

noncomputable def f84 (run : Run) (n : Nat) (a0_1 : List UInt8) : Option Res := evalK G run n f84_info.keep 0 f84_info.body (retE G f84_info) (f84_info.start [.str a0_1])
theorem f84_eq (run : Run) (n : Nat) (a0_1 : List UInt8) : f84 run n a0_1 =
  (run 115 [.str a0_1]).bind fun r1 =>
    nilV r1.outs (consV r1.vals fun v1 vs1 =>
    nilV vs1 ((run 109 [.str v1.toStr]).bind fun r2 =>
    nilV r2.outs (consV r2.vals fun v2 vs2 =>
    nilV vs2 (some ⟨[.blob v2.toBlob], [], f84_fresh⟩)))) := by kernel_rfl
theorem f84_run (ext : Run) (n : Nat) (a0_1 : List UInt8) : runE G ext (n + 1) 84 [.str a0_1] = f84 (runE G ext n) n a0_1 := runE_succ f84_at f84_in

noncomputable def f83_s84_l0 (run : Run) (n : Nat) (k0 : Nat) (x5_1 : List AV) (x8_1 : List AV) (x9_1 : Int) (x10_1 : Int) : Option Res :=
  iterK (evalK G run n f83_keep 0 (sub [1, 1, 0, 1, 0, 0] f83_body)) f83_t0 f83_o0 (blockK 0 (seqK (evalK G run n f83_keep 0 (sub [1, 1, 1] f83_body) (retE G f83_info)) (retE G f83_info))) k0
    ⟨[.any, .val .fn none (.fn 84), .any, .any, .any, .val (.slice (.blob 32)) (some (5, 0)) (.slice x5_1), .any, .any, .val (.slice .str) none (.slice x8_1), .val (.int .i64) none (.int x9_1), .val (.int .i64) none (.int x10_1), .any, .any, .any, .any, .any, .any, .any, .any, .any, .any, .any], [⟨0, none⟩, ⟨0, none⟩, ⟨0, none⟩, ⟨0, none⟩, ⟨0, none⟩, ⟨0, none⟩, ⟨0, none⟩, ⟨0, none⟩, ⟨0, none⟩, ⟨0, none⟩, ⟨0, none⟩, ⟨0, none⟩, ⟨0, none⟩, ⟨0, none⟩, ⟨0, none⟩, ⟨0, none⟩, ⟨0, none⟩, ⟨0, none⟩, ⟨0, none⟩, ⟨0, none⟩, ⟨0, none⟩, ⟨0, none⟩], List.replicate 22 0⟩
theorem f83_s84_l0_eq (run : Run) (n : Nat) (k0 : Nat) (x5_1 : List AV) (x8_1 : List AV) (x9_1 : Int) (x10_1 : Int) : f83_s84_l0 run n (k0 + 1) x5_1 x8_1 x9_1 x10_1 =
  bif ltI x10_1 x9_1 then
    bif inR x10_1 x8_1.length then
    (run 84 [.str ((nth x8_1 (Int.toNat x10_1)).toStr)]).bind fun r1 =>
    nilV r1.outs (consV r1.vals fun v1 vs1 =>
    nilV vs1 (bif Nat.ble ((x5_1.length + 1) * 32) 140737488355328 then
    f83_s84_l0 run n k0 (x5_1 ++ [.blob v1.toBlob]) x8_1 x9_1 (IntKind.wrap .i64 (x10_1 + 1))
  else none))
  else none
  else
    some ⟨[.slice x5_1], [], f83_fresh⟩ := by kernel_rfl
noncomputable def f83_s84 (run : Run) (n : Nat) (a0_1 : List AV) : Option Res := evalK G run n f83_info.keep 0 f83_info.body (retE G f83_info) (f83_info.start [.slice a0_1, .fn 84])
theorem f83_s84_eq (run : Run) (n : Nat) (a0_1 : List AV) : f83_s84 run n a0_1 =
  f83_s84_l0 run n n [] a0_1 (a0_1.length : Int) 0 := by kernel_rfl
theorem f83_s84_run (ext : Run) (n : Nat) (a0_1 : List AV) : runE G ext (n + 1) 83 [.slice a0_1, .fn 84] = f83_s84 (runE G ext n) n a0_1 := runE_succ f83_at f83_in

noncomputable def f45 (run : Run) (n : Nat) (a0_1 : List AV) : Option Res := evalK G run n f45_info.keep 0 f45_info.body (retE G f45_info) (f45_info.start [.slice a0_1])
theorem f45_eq (run : Run) (n : Nat) (a0_1 : List AV) : f45 run n a0_1 =
  (run 83 [.slice a0_1, .fn 84]).bind fun r1 =>
    bif r1.fresh then
    nilV r1.outs (consV r1.vals fun v1 vs1 =>
    nilV vs1 (some ⟨[.slice v1.toSlice], [], f45_fresh⟩))
  else none := by kernel_rfl
theorem f45_run (ext : Run) (n : Nat) (a0_1 : List AV) : runE G ext (n + 1) 45 [.slice a0_1] = f45 (runE G ext n) n a0_1 := runE_succ f45_at f45_in

noncomputable def f114 (run : Run) (n : Nat) (a0_1 : List AV) : Option Res := evalK G run n f114_info.keep 0 f114_info.body (retE G f114_info) (f114_info.start [.slice a0_1])
theorem f114_eq (run : Run) (n : Nat) (a0_1 : List AV) : f114 run n a0_1 =
  (run 51 [.int (a0_1.length : Int)]).bind fun r1 =>
    nilV r1.outs (consV r1.vals fun v1 vs1 =>
    nilV vs1 (bif boundsOk 0 v1.toInt (a0_1.length : Int) (a0_1.length : Int) && true then
    bif boundsOk v1.toInt (a0_1.length : Int) (a0_1.length : Int) (a0_1.length : Int) && true then
    some ⟨[.slice (List.drop 0 (List.take (Int.toNat v1.toInt) a0_1)), .slice (List.drop (Int.toNat v1.toInt) (List.take (Int.toNat (a0_1.length : Int)) a0_1))], [], f114_fresh⟩
  else none
  else none)) := by kernel_rfl
theorem f114_run (ext : Run) (n : Nat) (a0_1 : List AV) : runE G ext (n + 1) 114 [.slice a0_1] = f114 (runE G ext n) n a0_1 := runE_succ f114_at f114_in

noncomputable def f125 (run : Run) (n : Nat) (a0_1 : List UInt8) (a1_1 : List UInt8) : Option Res := evalK G run n f125_info.keep 0 f125_info.body (retE G f125_info) (f125_info.start [.blob a0_1, .blob a1_1])
theorem f125_eq (run : Run) (n : Nat) (a0_1 : List UInt8) (a1_1 : List UInt8) : f125 run n a0_1 a1_1 =
  (run 136 [.int 1, .slice [.str (bytesOf (List.drop 0 (List.take 32 (ofBytes a0_1)))), .str (bytesOf (List.drop 0 (List.take 32 (ofBytes a1_1))))]]).bind fun r1 =>
    nilV r1.outs (consV r1.vals fun v1 vs1 =>
    nilV vs1 (some ⟨[.str v1.toStr], [], f125_fresh⟩)) := by kernel_rfl
theorem f125_run (ext : Run) (n : Nat) (a0_1 : List UInt8) (a1_1 : List UInt8) : runE G ext (n + 1) 125 [.blob a0_1, .blob a1_1] = f125 (runE G ext n) n a0_1 a1_1 := runE_succ f125_at f125_in

noncomputable def f91 (run : Run) (n : Nat) (a0_1 : List UInt8) (a1_1 : List UInt8) : Option Res := evalK G run n f91_info.keep 0 f91_info.body (retE G f91_info) (f91_info.start [.blob a0_1, .blob a1_1])
theorem f91_eq (run : Run) (n : Nat) (a0_1 : List UInt8) (a1_1 : List UInt8) : f91 run n a0_1 a1_1 =
  (run 125 [.blob a0_1, .blob a1_1]).bind fun r1 =>
    nilV r1.outs (consV r1.vals fun v1 vs1 =>
    nilV vs1 ((run 109 [.str v1.toStr]).bind fun r2 =>
    nilV r2.outs (consV r2.vals fun v2 vs2 =>
    nilV vs2 (some ⟨[.blob v2.toBlob], [], f91_fresh⟩)))) := by kernel_rfl
theorem f91_run (ext : Run) (n : Nat) (a0_1 : List UInt8) (a1_1 : List UInt8) : runE G ext (n + 1) 91 [.blob a0_1, .blob a1_1] = f91 (runE G ext n) n a0_1 a1_1 := runE_succ f91_at f91_in

noncomputable def f82 (run : Run) (n : Nat) (a0_1 : List AV) : Option Res := evalK G run n f82_info.keep 0 f82_info.body (retE G f82_info) (f82_info.start [.slice a0_1])
theorem f82_eq (run : Run) (n : Nat) (a0_1 : List AV) : f82 run n a0_1 =
  bif eqI (a0_1.length : Int) 0 then
    some ⟨[.blob [0, 0, 0, 0, 0, 0, 0, 0, 0, 0, 0, 0, 0, 0, 0, 0, 0, 0, 0, 0, 0, 0, 0, 0, 0, 0, 0, 0, 0, 0, 0, 0]], [], f82_fresh⟩
  else
    bif eqI (a0_1.length : Int) 1 then
    bif inR 0 a0_1.length then
    some ⟨[.blob ((nth a0_1 0).toBlob)], [], f82_fresh⟩
  else none
  else
    (run 114 [.slice a0_1]).bind fun r1 =>
    nilV r1.outs (consV r1.vals fun v1 vs1 =>
    consV vs1 fun v2 vs2 =>
    nilV vs2 ((run 82 [.slice v1.toSlice]).bind fun r2 =>
    nilV r2.outs (consV r2.vals fun v3 vs3 =>
    nilV vs3 ((run 82 [.slice v2.toSlice]).bind fun r3 =>
    nilV r3.outs (consV r3.vals fun v4 vs4 =>
    nilV vs4 ((run 91 [.blob v3.toBlob, .blob v4.toBlob]).bind fun r4 =>
    nilV r4.outs (consV r4.vals fun v5 vs5 =>
    nilV vs5 (some ⟨[.blob v5.toBlob], [], f82_fresh⟩)))))))) := by kernel_rfl
theorem f82_run (ext : Run) (n : Nat) (a0_1 : List AV) : runE G ext (n + 1) 82 [.slice a0_1] = f82 (runE G ext n) n a0_1 := runE_succ f82_at f82_in

noncomputable def f44 (run : Run) (n : Nat) (a0_1 : List AV) (a1_1 : List AV) : Option Res := evalK G run n f44_info.keep 0 f44_info.body (retE G f44_info) (f44_info.start [.slice a0_1, .slice a1_1])
theorem f44_eq (run : Run) (n : Nat) (a0_1 : List AV) (a1_1 : List AV) : f44 run n a0_1 a1_1 =
  bif eqI (a1_1.length : Int) 0 then
    (run 82 [.slice a0_1]).bind fun r1 =>
    nilV r1.outs (consV r1.vals fun v1 vs1 =>
    nilV vs1 (some ⟨[.slice [.blob v1.toBlob]], [], f44_fresh⟩))
  else
    bif eqI (a0_1.length : Int) 1 then
    some ⟨[.slice []], [], f44_fresh⟩
  else
    (run 51 [.int (a0_1.length : Int)]).bind fun r2 =>
    nilV r2.outs (consV r2.vals fun v2 vs2 =>
    nilV vs2 ((run 52 [.slice a1_1, .int v2.toInt]).bind fun r3 =>
    nilV r3.outs (consV r3.vals fun v3 vs3 =>
    consV vs3 fun v4 vs4 =>
    nilV vs4 (bif boundsOk 0 v2.toInt (a0_1.length : Int) (a0_1.length : Int) && true then
    (run 44 [.slice (List.drop 0 (List.take (Int.toNat v2.toInt) a0_1)), .slice v3.toSlice]).bind fun r4 =>
    bif r4.fresh then
    nilV r4.outs (consV r4.vals fun v5 vs5 =>
    nilV vs5 (bif boundsOk v2.toInt (a0_1.length : Int) (a0_1.length : Int) (a0_1.length : Int) && true then
    (run 44 [.slice (List.drop (Int.toNat v2.toInt) (List.take (Int.toNat (a0_1.length : Int)) a0_1)), .slice v4.toSlice]).bind fun r5 =>
    bif r5.fresh then
    nilV r5.outs (consV r5.vals fun v6 vs6 =>
    nilV vs6 (bif Nat.ble ((v5.toSlice.length + v6.toSlice.length) * 32) 140737488355328 then
    some ⟨[.slice (v5.toSlice ++ v6.toSlice)], [], f44_fresh⟩
  else none))
  else none
  else none))
  else none
  else none)))) := by kernel_rfl
theorem f44_run (ext : Run) (n : Nat) (a0_1 : List AV) (a1_1 : List AV) : runE G ext (n + 1) 44 [.slice a0_1, .slice a1_1] = f44 (runE G ext n) n a0_1 a1_1 := runE_succ f44_at f44_in

noncomputable def f10 (run : Run) (n : Nat) (a0_1 : List AV) (a1_1 : List AV) : Option Res := evalK G run n f10_info.keep 0 f10_info.body (retE G f10_info) (f10_info.start [.slice a0_1, .slice a1_1])
theorem f10_eq (run : Run) (n : Nat) (a0_1 : List AV) (a1_1 : List AV) : f10 run n a0_1 a1_1 =
  bif ltI 1048576 (a0_1.length : Int) then
    some ⟨[.agg [.int 0, .slice [], .slice []], .int 4], [], f10_fresh⟩
  else
    (run 43 [.int (a0_1.length : Int), .slice a1_1]).bind fun r1 =>
    nilV r1.outs (consV r1.vals fun v1 vs1 =>
    nilV vs1 (bif !v1.toBool then
    some ⟨[.agg [.int 0, .slice [], .slice []], .int 3], [], f10_fresh⟩
  else
    bif Nat.ble ((a1_1.length) * 8) 140737488355328 then
    (run 45 [.slice a0_1]).bind fun r2 =>
    bif r2.fresh then
    nilV r2.outs (consV r2.vals fun v2 vs2 =>
    nilV vs2 ((run 44 [.slice v2.toSlice, .slice a1_1]).bind fun r3 =>
    bif r3.fresh then
    nilV r3.outs (consV r3.vals fun v3 vs3 =>
    nilV vs3 (some ⟨[.agg [.int (a0_1.length : Int), .slice a1_1, .slice v3.toSlice], .int 0], [], f10_fresh⟩))
  else none))
  else none
  else none)) := by kernel_rfl
theorem f10_run (ext : Run) (n : Nat) (a0_1 : List AV) (a1_1 : List AV) : runE G ext (n + 1) 10 [.slice a0_1, .slice a1_1] = f10 (runE G ext n) n a0_1 a1_1 := runE_succ f10_at f10_in

noncomputable def f11_l0 (run : Run) (n : Nat) (k0 : Nat) (x0_1 : Int) (x1_1 : List AV) (x5_1 : Int) : Option Res :=
  iterK (evalK G run n f11_keep 0 (sub [1, 0, 1, 0, 0] f11_body)) f11_t0 f11_o0 (blockK 0 (seqK (evalK G run n f11_keep 0 (sub [1, 1] f11_body) (retE G f11_info)) (retE G f11_info))) k0
    ⟨[.val (.int .i64) none (.int x0_1), .val (.slice (.int .i64)) none (.slice x1_1), .any, .any, .any, .val (.int .i64) none (.int x5_1), .any, .any, .any, .any, .any, .any, .any, .any, .any, .any, .any, .any, .any, .any, .any, .any, .any, .any, .any, .any, .any, .any, .any, .any, .any, .any, .any, .any, .any, .any, .any, .any, .any, .any, .any, .any, .any, .any], [⟨0, none⟩, ⟨0, none⟩, ⟨0, none⟩, ⟨0, none⟩, ⟨0, none⟩, ⟨0, none⟩, ⟨0, none⟩, ⟨0, none⟩, ⟨0, none⟩, ⟨0, none⟩, ⟨0, none⟩, ⟨0, none⟩, ⟨0, none⟩, ⟨0, none⟩, ⟨0, none⟩, ⟨0, none⟩, ⟨0, none⟩, ⟨0, none⟩, ⟨0, none⟩, ⟨0, none⟩, ⟨0, none⟩, ⟨0, none⟩, ⟨0, none⟩, ⟨0, none⟩, ⟨0, none⟩, ⟨0, none⟩, ⟨0, none⟩, ⟨0, none⟩, ⟨0, none⟩, ⟨0, none⟩, ⟨0, none⟩, ⟨0, none⟩, ⟨0, none⟩, ⟨0, none⟩, ⟨0, none⟩, ⟨0, none⟩, ⟨0, none⟩, ⟨0, none⟩, ⟨0, none⟩, ⟨0, none⟩, ⟨0, none⟩, ⟨0, none⟩, ⟨0, none⟩, ⟨0, none⟩], List.replicate 44 0⟩
theorem f11_l0_eq (run : Run) (n : Nat) (k0 : Nat) (x0_1 : Int) (x1_1 : List AV) (x5_1 : Int) : f11_l0 run n (k0 + 1) x0_1 x1_1 x5_1 =
  bif ltI x5_1 (x1_1.length : Int) then
    bif inR x5_1 x1_1.length then
    bif ltI ((nth x1_1 (Int.toNat x5_1)).toInt) 0 then
    some ⟨[.bool false], [], f11_fresh⟩
  else
    bif inR x5_1 x1_1.length then
    bif leI x0_1 ((nth x1_1 (Int.toNat x5_1)).toInt) then
    some ⟨[.bool false], [], f11_fresh⟩
  else
    bif ltI 0 x5_1 then
    bif inR x5_1 x1_1.length then
    bif inR (IntKind.wrap .i64 (x5_1 - 1)) x1_1.length then
    bif leI ((nth x1_1 (Int.toNat x5_1)).toInt) ((nth x1_1 (Int.toNat (IntKind.wrap .i64 (x5_1 - 1)))).toInt) then
    some ⟨[.bool false], [], f11_fresh⟩
  else
    f11_l0 run n k0 x0_1 x1_1 (IntKind.wrap .i64 (x5_1 + 1))
  else none
  else none
  else
    f11_l0 run n k0 x0_1 x1_1 (IntKind.wrap .i64 (x5_1 + 1))
  else none
  else none
  else
    some ⟨[.bool (ltI 0 (x1_1.length : Int))], [], f11_fresh⟩ := by kernel_rfl
noncomputable def f11 (run : Run) (n : Nat) (a0_1 : Int) (a1_1 : List AV) : Option Res := evalK G run n f11_info.keep 0 f11_info.body (retE G f11_info) (f11_info.start [.int a0_1, .slice a1_1])
theorem f11_eq (run : Run) (n : Nat) (a0_1 : Int) (a1_1 : List AV) : f11 run n a0_1 a1_1 =
  f11_l0 run n n a0_1 a1_1 0 := by kernel_rfl
theorem f11_run (ext : Run) (n : Nat) (a0_1 : Int) (a1_1 : List AV) : runE G ext (n + 1) 11 [.int a0_1, .slice a1_1] = f11 (runE G ext n) n a0_1 a1_1 := runE_succ f11_at f11_in

noncomputable def f120 (run : Run) (n : Nat) (a0_1 : Int) : Option Res := evalK G run n f120_info.keep 0 f120_info.body (retE G f120_info) (f120_info.start [.int a0_1])
theorem f120_eq (run : Run) (n : Nat) (a0_1 : Int) : f120 run n a0_1 =
  some ⟨[.str (bytesOf [.int (IntKind.wrap .u8 a0_1)])], [], f120_fresh⟩ := by kernel_rfl
theorem f120_run (ext : Run) (n : Nat) (a0_1 : Int) : runE G ext (n + 1) 120 [.int a0_1] = f120 (runE G ext n) n a0_1 := runE_succ f120_at f120_in

noncomputable def f123 (run : Run) (n : Nat) (a0_1 : List UInt8) : Option Res := evalK G run n f123_info.keep 0 f123_info.body (retE G f123_info) (f123_info.start [.str a0_1])
theorem f123_eq (run : Run) (n : Nat) (a0_1 : List UInt8) : f123 run n a0_1 =
  (run 120 [.int 0]).bind fun r1 =>
    nilV r1.outs (consV r1.vals fun v1 vs1 =>
    nilV vs1 (bif Nat.ble (v1.toStr.length + a0_1.length) maxLen then
    some ⟨[.str (v1.toStr ++ a0_1)], [], f123_fresh⟩
  else none)) := by kernel_rfl
theorem f123_run (ext : Run) (n : Nat) (a0_1 : List UInt8) : runE G ext (n + 1) 123 [.str a0_1] = f123 (runE G ext n) n a0_1 := runE_succ f123_at f123_in

noncomputable def f116 (run : Run) (n : Nat) : Option Res := evalK G run n f116_info.keep 0 f116_info.body (retE G f116_info) (f116_info.start [])
theorem f116_eq (run : Run) (n : Nat) : f116 run n  =
  some ⟨[.agg [.int 1779033703, .int 3144134277, .int 1013904242, .int 2773480762, .int 1359893119, .int 2600822924, .int 528734635, .int 1541459225]], [], f116_fresh⟩ := by kernel_rfl
theorem f116_run (ext : Run) (n : Nat) : runE G ext (n + 1) 116 [] = f116 (runE G ext n) n  := runE_succ f116_at f116_in

noncomputable def f119_l0 (run : Run) (n : Nat) (k0 : Nat) (x0_1 : Int) (x1_1 : Int) (x5_1 : List UInt8) (x6_1 : Int) : Option Res :=
  iterK (evalK G run n f119_keep 0 (sub [1, 1, 0, 1, 0, 0] f119_body)) f119_t0 f119_o0 (blockK 0 (seqK (evalK G run n f119_keep 0 (sub [1, 1, 1] f119_body) (retE G f119_info)) (retE G f119_info))) k0
    ⟨[.val (.int .u64) none (.int x0_1), .val (.int .i64) none (.int x1_1), .any, .any, .any, .val .str none (.str x5_1), .val (.int .i64) none (.int x6_1), .any, .any, .any, .any, .any, .any, .any, .any, .any, .any, .any, .any, .any, .any], [⟨0, none⟩, ⟨0, none⟩, ⟨0, none⟩, ⟨0, none⟩, ⟨0, none⟩, ⟨0, none⟩, ⟨0, none⟩, ⟨0, none⟩, ⟨0, none⟩, ⟨0, none⟩, ⟨0, none⟩, ⟨0, none⟩, ⟨0, none⟩, ⟨0, none⟩, ⟨0, none⟩, ⟨0, none⟩, ⟨0, none⟩, ⟨0, none⟩, ⟨0, none⟩, ⟨0, none⟩, ⟨0, none⟩], List.replicate 21 0⟩
theorem f119_l0_eq (run : Run) (n : Nat) (k0 : Nat) (x0_1 : Int) (x1_1 : Int) (x5_1 : List UInt8) (x6_1 : Int) : f119_l0 run n (k0 + 1) x0_1 x1_1 x5_1 x6_1 =
  bif ltI x6_1 x1_1 then
    (run 120 [.int (IntKind.wrap .i64 (Int.tmod x0_1 256))]).bind fun r1 =>
    nilV r1.outs (consV r1.vals fun v1 vs1 =>
    nilV vs1 (bif Nat.ble (v1.toStr.length + x5_1.length) maxLen then
    f119_l0 run n k0 (IntKind.wrap .u64 (Int.tdiv x0_1 256)) x1_1 (v1.toStr ++ x5_1) (IntKind.wrap .i64 (x6_1 + 1))
  else none))
  else
    some ⟨[.str x5_1], [], f119_fresh⟩ := by kernel_rfl
noncomputable def f119 (run : Run) (n : Nat) (a0_1 : Int) (a1_1 : Int) : Option Res := evalK G run n f119_info.keep 0 f119_info.body (retE G f119_info) (f119_info.start [.int a0_1, .int a1_1])
theorem f119_eq (run : Run) (n : Nat) (a0_1 : Int) (a1_1 : Int) : f119 run n a0_1 a1_1 =
  f119_l0 run n n a0_1 a1_1 [] 0 := by kernel_rfl
theorem f119_run (ext : Run) (n : Nat) (a0_1 : Int) (a1_1 : Int) : runE G ext (n + 1) 119 [.int a0_1, .int a1_1] = f119 (runE G ext n) n a0_1 a1_1 := runE_succ f119_at f119_in

noncomputable def f117_l0 (run : Run) (n : Nat) (k0 : Nat) (x0_1 : Int) (x3_1 : List UInt8) : Option Res :=
  iterK (evalK G run n f117_keep 0 (sub [1, 1, 0, 0, 0] f117_body)) f117_t0 f117_o0 (blockK 0 (seqK (evalK G run n f117_keep 0 (sub [1, 1, 1] f117_body) (retE G f117_info)) (retE G f117_info))) k0
    ⟨[.val (.int .u64) none (.int x0_1), .any, .any, .val .str none (.str x3_1), .any, .any, .any, .any, .any, .any, .any, .any, .any, .any, .any, .any, .any, .any, .any, .any, .any, .any], [⟨0, none⟩, ⟨0, none⟩, ⟨0, none⟩, ⟨0, none⟩, ⟨0, none⟩, ⟨0, none⟩, ⟨0, none⟩, ⟨0, none⟩, ⟨0, none⟩, ⟨0, none⟩, ⟨0, none⟩, ⟨0, none⟩, ⟨0, none⟩, ⟨0, none⟩, ⟨0, none⟩, ⟨0, none⟩, ⟨0, none⟩, ⟨0, none⟩, ⟨0, none⟩, ⟨0, none⟩, ⟨0, none⟩, ⟨0, none⟩], List.replicate 22 0⟩
theorem f117_l0_eq (run : Run) (n : Nat) (k0 : Nat) (x0_1 : Int) (x3_1 : List UInt8) : f117_l0 run n (k0 + 1) x0_1 x3_1 =
  bif !(eqI (Int.tmod (IntKind.wrap .u64 (IntKind.wrap .u64 (Int.tmod x0_1 64 + IntKind.wrap .u64 (x3_1.length : Int)) + 8)) 64) 0) then
    (run 120 [.int 0]).bind fun r2 =>
    nilV r2.outs (consV r2.vals fun v2 vs2 =>
    nilV vs2 (bif Nat.ble (x3_1.length + v2.toStr.length) maxLen then
    f117_l0 run n k0 x0_1 (x3_1 ++ v2.toStr)
  else none))
  else
    (run 119 [.int (IntKind.wrap .u64 (x0_1 * 8)), .int 8]).bind fun r3 =>
    nilV r3.outs (consV r3.vals fun v3 vs3 =>
    nilV vs3 (bif Nat.ble (x3_1.length + v3.toStr.length) maxLen then
    some ⟨[.str (x3_1 ++ v3.toStr)], [], f117_fresh⟩
  else none)) := by kernel_rfl
noncomputable def f117 (run : Run) (n : Nat) (a0_1 : Int) : Option Res := evalK G run n f117_info.keep 0 f117_info.body (retE G f117_info) (f117_info.start [.int a0_1])
theorem f117_eq (run : Run) (n : Nat) (a0_1 : Int) : f117 run n a0_1 =
  (run 120 [.int 128]).bind fun r1 =>
    nilV r1.outs (consV r1.vals fun v1 vs1 =>
    nilV vs1 (f117_l0 run n n a0_1 v1.toStr)) := by kernel_rfl
theorem f117_run (ext : Run) (n : Nat) (a0_1 : Int) : runE G ext (n + 1) 117 [.int a0_1] = f117 (runE G ext n) n a0_1 := runE_succ f117_at f117_in

noncomputable def f150_l0 (run : Run) (n : Nat) (k0 : Nat) (x0_1 : List UInt8) (x1_1 : Int) (x2_1 : Int) (x7_1 : Int) (x8_1 : Int) : Option Res :=
  iterK (evalK G run n f150_keep 0 (sub [1, 1, 0, 1, 0, 0] f150_body)) f150_t0 f150_o0 (blockK 0 (seqK (evalK G run n f150_keep 0 (sub [1, 1, 1] f150_body) (retE G f150_info)) (retE G f150_info))) k0
    ⟨[.val .str none (.str x0_1), .val (.int .i64) none (.int x1_1), .val (.int .i64) none (.int x2_1), .any, .any, .any, .any, .val (.int .u64) none (.int x7_1), .val (.int .i64) none (.int x8_1), .any, .any, .any, .any, .any, .any, .any, .any, .any, .any, .any, .any, .any, .any, .any, .any, .any, .any, .any, .any, .any, .any, .any, .any, .any, .any, .any, .any, .any, .any, .any, .any], [⟨0, none⟩, ⟨0, none⟩, ⟨0, none⟩, ⟨0, none⟩, ⟨0, none⟩, ⟨0, none⟩, ⟨0, none⟩, ⟨0, none⟩, ⟨0, none⟩, ⟨0, none⟩, ⟨0, none⟩, ⟨0, none⟩, ⟨0, none⟩, ⟨0, none⟩, ⟨0, none⟩, ⟨0, none⟩, ⟨0, none⟩, ⟨0, none⟩, ⟨0, none⟩, ⟨0, none⟩, ⟨0, none⟩, ⟨0, none⟩, ⟨0, none⟩, ⟨0, none⟩, ⟨0, none⟩, ⟨0, none⟩, ⟨0, none⟩, ⟨0, none⟩, ⟨0, none⟩, ⟨0, none⟩, ⟨0, none⟩, ⟨0, none⟩, ⟨0, none⟩, ⟨0, none⟩, ⟨0, none⟩, ⟨0, none⟩, ⟨0, none⟩, ⟨0, none⟩, ⟨0, none⟩, ⟨0, none⟩, ⟨0, none⟩], List.replicate 41 0⟩
theorem f150_l0_eq (run : Run) (n : Nat) (k0 : Nat) (x0_1 : List UInt8) (x1_1 : Int) (x2_1 : Int) (x7_1 : Int) (x8_1 : Int) : f150_l0 run n (k0 + 1) x0_1 x1_1 x2_1 x7_1 x8_1 =
  bif ltI x8_1 x2_1 then
    bif leI 0 x1_1 then
    bif ltI x1_1 (x0_1.length : Int) then
    bif ltI x8_1 (IntKind.wrap .i64 ((x0_1.length : Int) - x1_1)) then
    bif inR (IntKind.wrap .i64 (x1_1 + x8_1)) x0_1.length then
    f150_l0 run n k0 x0_1 x1_1 x2_1 (IntKind.wrap .u64 (IntKind.wrap .u64 (x7_1 * 256) + IntKind.wrap .u64 ((x0_1.getD (Int.toNat (IntKind.wrap .i64 (x1_1 + x8_1))) 0).toNat : Int))) (IntKind.wrap .i64 (x8_1 + 1))
  else none
  else
    f150_l0 run n k0 x0_1 x1_1 x2_1 (IntKind.wrap .u64 (x7_1 * 256)) (IntKind.wrap .i64 (x8_1 + 1))
  else
    f150_l0 run n k0 x0_1 x1_1 x2_1 (IntKind.wrap .u64 (x7_1 * 256)) (IntKind.wrap .i64 (x8_1 + 1))
  else
    f150_l0 run n k0 x0_1 x1_1 x2_1 (IntKind.wrap .u64 (x7_1 * 256)) (IntKind.wrap .i64 (x8_1 + 1))
  else
    some ⟨[.int x7_1], [], f150_fresh⟩ := by kernel_rfl
noncomputable def f150 (run : Run) (n : Nat) (a0_1 : List UInt8) (a1_1 : Int) (a2_1 : Int) : Option Res := evalK G run n f150_info.keep 0 f150_info.body (retE G f150_info) (f150_info.start [.str a0_1, .int a1_1, .int a2_1])
theorem f150_eq (run : Run) (n : Nat) (a0_1 : List UInt8) (a1_1 : Int) (a2_1 : Int) : f150 run n a0_1 a1_1 a2_1 =
  f150_l0 run n n a0_1 a1_1 a2_1 0 0 := by kernel_rfl
theorem f150_run (ext : Run) (n : Nat) (a0_1 : List UInt8) (a1_1 : Int) (a2_1 : Int) : runE G ext (n + 1) 150 [.str a0_1, .int a1_1, .int a2_1] = f150 (runE G ext n) n a0_1 a1_1 a2_1 := runE_succ f150_at f150_in

noncomputable def f139 (run : Run) (n : Nat) (a0_1 : Int) (a1_1 : Int) : Option Res := evalK G run n f139_info.keep 0 f139_info.body (retE G f139_info) (f139_info.start [.int a0_1, .int a1_1])
theorem f139_eq (run : Run) (n : Nat) (a0_1 : Int) (a1_1 : Int) : f139 run n a0_1 a1_1 =
  bif leI 0 a1_1 then
    bif leI 0 (IntKind.wrap .u64 (32 - a1_1)) then
    some ⟨[.int (IntKind.wrap .u32 (Int.fdiv a0_1 (2 ^ (min (Int.toNat a1_1) 32)) + IntKind.wrap .u32 (a0_1 * 2 ^ (min (Int.toNat (IntKind.wrap .u64 (32 - a1_1))) 32))))], [], f139_fresh⟩
  else none
  else none := by kernel_rfl
theorem f139_run (ext : Run) (n : Nat) (a0_1 : Int) (a1_1 : Int) : runE G ext (n + 1) 139 [.int a0_1, .int a1_1] = f139 (runE G ext n) n a0_1 a1_1 := runE_succ f139_at f139_in

noncomputable def f138_l2 (run : Run) (n : Nat) (_k0 : Nat) (k2 : Nat) (x5_1 : Int) (o2_3 : List AV) (o3_3 : List AV) : Option Res :=
  iterK (evalK G run n f138_keep 2 (sub [1, 1, 1, 0, 1, 0, 0] f138_body)) f138_t2 f138_o2 (blockK 2 (seqK (evalK G run n f138_keep 0 (sub [1, 1, 1, 1] f138_body) (retE G f138_info)) (retE G f138_info))) k2
    ⟨[.any, .any, .ptr ⟨(.arr 64 (.int .u32)), 2, 1, []⟩, .ptr ⟨(.arr 64 (.int .u32)), 3, 1, []⟩, .any, .val (.int .i64) none (.int x5_1), .any, .any, .any, .any, .any, .any, .any, .any, .any, .any, .any, .any, .any, .any, .any, .any, .any, .any, .any, .any, .any, .any, .any, .any, .any, .any, .any, .any, .any, .any, .any, .any, .any, .any, .any, .any, .any, .any, .any, .any, .any, .any, .any, .any, .any, .any, .any, .any, .any, .any, .any, .any, .any, .any, .any], [⟨0, none⟩, ⟨0, none⟩, ⟨1, some ⟨(.arr 64 (.int .u32)), .agg o2_3⟩⟩, ⟨1, some ⟨(.arr 64 (.int .u32)), .agg o3_3⟩⟩, ⟨0, none⟩, ⟨0, none⟩, ⟨0, none⟩, ⟨0, none⟩, ⟨0, none⟩, ⟨0, none⟩, ⟨0, none⟩, ⟨0, none⟩, ⟨0, none⟩, ⟨0, none⟩, ⟨0, none⟩, ⟨0, none⟩, ⟨0, none⟩, ⟨0, none⟩, ⟨0, none⟩, ⟨0, none⟩, ⟨0, none⟩, ⟨0, none⟩, ⟨0, none⟩, ⟨0, none⟩, ⟨0, none⟩, ⟨0, none⟩, ⟨0, none⟩, ⟨0, none⟩, ⟨0, none⟩, ⟨0, none⟩, ⟨0, none⟩, ⟨0, none⟩, ⟨0, none⟩, ⟨0, none⟩, ⟨0, none⟩, ⟨0, none⟩, ⟨0, none⟩, ⟨0, none⟩, ⟨0, none⟩, ⟨0, none⟩, ⟨0, none⟩, ⟨0, none⟩, ⟨0, none⟩, ⟨0, none⟩, ⟨0, none⟩, ⟨0, none⟩, ⟨0, none⟩, ⟨0, none⟩, ⟨0, none⟩, ⟨0, none⟩, ⟨0, none⟩, ⟨0, none⟩, ⟨0, none⟩, ⟨0, none⟩, ⟨0, none⟩, ⟨0, none⟩, ⟨0, none⟩, ⟨0, none⟩, ⟨0, none⟩, ⟨0, none⟩, ⟨0, none⟩], List.replicate 61 0⟩
noncomputable def f138_l0 (run : Run) (n : Nat) (k0 : Nat) (x0_1 : List UInt8) (x4_1 : Int) (o2_1 : List AV) (o3_1 : List AV) : Option Res :=
  iterK (evalK G run n f138_keep 0 (sub [1, 1, 0, 1, 0, 0] f138_body)) f138_t0 f138_o0 (blockK 0 (seqK (evalK G run n f138_keep 0 (sub [1, 1, 1] f138_body) (retE G f138_info)) (retE G f138_info))) k0
    ⟨[.val .str none (.str x0_1), .any, .ptr ⟨(.arr 64 (.int .u32)), 2, 1, []⟩, .ptr ⟨(.arr 64 (.int .u32)), 3, 1, []⟩, .val (.int .i64) none (.int x4_1), .any, .any, .any, .any, .any, .any, .any, .any, .any, .any, .any, .any, .any, .any, .any, .any, .any, .any, .any, .any, .any, .any, .any, .any, .any, .any, .any, .any, .any, .any, .any, .any, .any, .any, .any, .any, .any, .any, .any, .any, .any, .any, .any, .any, .any, .any, .any, .any, .any, .any, .any, .any, .any, .any, .any, .any], [⟨0, none⟩, ⟨0, none⟩, ⟨1, some ⟨(.arr 64 (.int .u32)), .agg o2_1⟩⟩, ⟨1, some ⟨(.arr 64 (.int .u32)), .agg o3_1⟩⟩, ⟨0, none⟩, ⟨0, none⟩, ⟨0, none⟩, ⟨0, none⟩, ⟨0, none⟩, ⟨0, none⟩, ⟨0, none⟩, ⟨0, none⟩, ⟨0, none⟩, ⟨0, none⟩, ⟨0, none⟩, ⟨0, none⟩, ⟨0, none⟩, ⟨0, none⟩, ⟨0, none⟩, ⟨0, none⟩, ⟨0, none⟩, ⟨0, none⟩, ⟨0, none⟩, ⟨0, none⟩, ⟨0, none⟩, ⟨0, none⟩, ⟨0, none⟩, ⟨0, none⟩, ⟨0, none⟩, ⟨0, none⟩, ⟨0, none⟩, ⟨0, none⟩, ⟨0, none⟩, ⟨0, none⟩, ⟨0, none⟩, ⟨0, none⟩, ⟨0, none⟩, ⟨0, none⟩, ⟨0, none⟩, ⟨0, none⟩, ⟨0, none⟩, ⟨0, none⟩, ⟨0, none⟩, ⟨0, none⟩, ⟨0, none⟩, ⟨0, none⟩, ⟨0, none⟩, ⟨0, none⟩, ⟨0, none⟩, ⟨0, none⟩, ⟨0, none⟩, ⟨0, none⟩, ⟨0, none⟩, ⟨0, none⟩, ⟨0, none⟩, ⟨0, none⟩, ⟨0, none⟩, ⟨0, none⟩, ⟨0, none⟩, ⟨0, none⟩, ⟨0, none⟩], List.replicate 61 0⟩
theorem f138_l2_eq (run : Run) (n : Nat) (k0 : Nat) (k2 : Nat) (x5_1 : Int) (o2_3 : List AV) (o3_3 : List AV) : f138_l2 run n k0 (k2 + 1) x5_1 o2_3 o3_3 =
  bif ltI x5_1 64 then
    bif inR (IntKind.wrap .i64 (x5_1 - 15)) 64 then
    bif inR (IntKind.wrap .i64 (x5_1 - 2)) 64 then
    bif inR (IntKind.wrap .i64 (x5_1 - 16)) 64 then
    (run 139 [.int ((AV.fld (.agg o3_3) (Int.toNat (IntKind.wrap .i64 (x5_1 - 15)))).toInt), .int 7]).bind fun r2 =>
    nilV r2.outs (consV r2.vals fun v2 vs2 =>
    nilV vs2 ((run 139 [.int ((AV.fld (.agg o3_3) (Int.toNat (IntKind.wrap .i64 (x5_1 - 15)))).toInt), .int 18]).bind fun r3 =>
    nilV r3.outs (consV r3.vals fun v3 vs3 =>
    nilV vs3 (bif inR (IntKind.wrap .i64 (x5_1 - 7)) 64 then
    (run 139 [.int ((AV.fld (.agg o3_3) (Int.toNat (IntKind.wrap .i64 (x5_1 - 2)))).toInt), .int 17]).bind fun r4 =>
    nilV r4.outs (consV r4.vals fun v4 vs4 =>
    nilV vs4 ((run 139 [.int ((AV.fld (.agg o3_3) (Int.toNat (IntKind.wrap .i64 (x5_1 - 2)))).toInt), .int 19]).bind fun r5 =>
    nilV r5.outs (consV r5.vals fun v5 vs5 =>
    nilV vs5 (bif inR x5_1 64 then
    f138_l2 run n k0 k2 (IntKind.wrap .i64 (x5_1 + 1)) o2_3 (o3_3.set (Int.toNat x5_1) (.int (IntKind.wrap .u32 (IntKind.wrap .u32 (IntKind.wrap .u32 ((AV.fld (.agg o3_3) (Int.toNat (IntKind.wrap .i64 (x5_1 - 16)))).toInt + IntKind.wrap .u32 (BitVec.toNat (BitVec.ofInt 32 (IntKind.wrap .u32 (BitVec.toNat (BitVec.ofInt 32 v2.toInt ^^^ BitVec.ofInt 32 v3.toInt))) ^^^ BitVec.ofInt 32 (Int.fdiv ((AV.fld (.agg o3_3) (Int.toNat (IntKind.wrap .i64 (x5_1 - 15)))).toInt) (2 ^ 3))))) + (AV.fld (.agg o3_3) (Int.toNat (IntKind.wrap .i64 (x5_1 - 7)))).toInt) + IntKind.wrap .u32 (BitVec.toNat (BitVec.ofInt 32 (IntKind.wrap .u32 (BitVec.toNat (BitVec.ofInt 32 v4.toInt ^^^ BitVec.ofInt 32 v5.toInt))) ^^^ BitVec.ofInt 32 (Int.fdiv ((AV.fld (.agg o3_3) (Int.toNat (IntKind.wrap .i64 (x5_1 - 2)))).toInt) (2 ^ 10))))))))
  else none))))
  else none))))
  else none
  else none
  else none
  else
    some ⟨[.agg o3_3], [], f138_fresh⟩ := by kernel_rfl
theorem f138_l0_eq (run : Run) (n : Nat) (k0 : Nat) (x0_1 : List UInt8) (x4_1 : Int) (o2_1 : List AV) (o3_1 : List AV) : f138_l0 run n (k0 + 1) x0_1 x4_1 o2_1 o3_1 =
  bif ltI x4_1 16 then
    (run 150 [.str x0_1, .int (IntKind.wrap .i64 (4 * x4_1)), .int 4]).bind fun r1 =>
    nilV r1.outs (consV r1.vals fun v1 vs1 =>
    nilV vs1 (bif inR x4_1 64 then
    f138_l0 run n k0 x0_1 (IntKind.wrap .i64 (x4_1 + 1)) o2_1 (o3_1.set (Int.toNat x4_1) (.int (IntKind.wrap .u32 v1.toInt)))
  else none))
  else
    f138_l2 run n k0 n 16 o2_1 o3_1 := by kernel_rfl
noncomputable def f138 (run : Run) (n : Nat) (a0_1 : List UInt8) : Option Res := evalK G run n f138_info.keep 0 f138_info.body (retE G f138_info) (f138_info.start [.str a0_1])
theorem f138_eq (run : Run) (n : Nat) (a0_1 : List UInt8) : f138 run n a0_1 =
  f138_l0 run n n a0_1 0 (List.replicate 64 (.int 0)) (List.replicate 64 (.int 0)) := by kernel_rfl
theorem f138_run (ext : Run) (n : Nat) (a0_1 : List UInt8) : runE G ext (n + 1) 138 [.str a0_1] = f138 (runE G ext n) n a0_1 := runE_succ f138_at f138_in

noncomputable def f140 (run : Run) (n : Nat) (a0_1 : Int) : Option Res := evalK G run n f140_info.keep 0 f140_info.body (retE G f140_info) (f140_info.start [.int a0_1])
theorem f140_eq (run : Run) (n : Nat) (a0_1 : Int) : f140 run n a0_1 =
  bif inR a0_1 64 then
    some ⟨[.int ((nth [.int 1116352408, .int 1899447441, .int 3049323471, .int 3921009573, .int 961987163, .int 1508970993, .int 2453635748, .int 2870763221, .int 3624381080, .int 310598401, .int 607225278, .int 1426881987, .int 1925078388, .int 2162078206, .int 2614888103, .int 3248222580, .int 3835390401, .int 4022224774, .int 264347078, .int 604807628, .int 770255983, .int 1249150122, .int 1555081692, .int 1996064986, .int 2554220882, .int 2821834349, .int 2952996808, .int 3210313671, .int 3336571891, .int 3584528711, .int 113926993, .int 338241895, .int 666307205, .int 773529912, .int 1294757372, .int 1396182291, .int 1695183700, .int 1986661051, .int 2177026350, .int 2456956037, .int 2730485921, .int 2820302411, .int 3259730800, .int 3345764771, .int 3516065817, .int 3600352804, .int 4094571909, .int 275423344, .int 430227734, .int 506948616, .int 659060556, .int 883997877, .int 958139571, .int 1322822218, .int 1537002063, .int 1747873779, .int 1955562222, .int 2024104815, .int 2227730452, .int 2361852424, .int 2428436474, .int 2756734187, .int 3204031479, .int 3329325298] (Int.toNat a0_1)).toInt)], [], f140_fresh⟩
  else none := by kernel_rfl
theorem f140_run (ext : Run) (n : Nat) (a0_1 : Int) : runE G ext (n + 1) 140 [.int a0_1] = f140 (runE G ext n) n a0_1 := runE_succ f140_at f140_in

end Go.Proofs.Ytncajhkogppojaa.Ev
