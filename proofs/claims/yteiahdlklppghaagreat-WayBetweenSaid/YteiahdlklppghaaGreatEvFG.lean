/- What the evaluator does with the functions, as programs over plain values: printed by gen.py, checked by the kernel. -/
import Derived.Test.YteiahdlklppghaaGreatEvFA
namespace Go.Proofs.YteiahdlklppghaaGreat.Ev
open Go Go.RowKit
set_option maxRecDepth 100000


noncomputable def f37_l2 (run : Run) (n : Nat) (k0 : Nat) (k2 : Nat) (x0_2 : List AV) (x2_2 : Int) (x7_2 : List AV) (x8_1 : List AV) (x9_1 : Int) (x10_1 : Int) : Option Res :=
  iterK (evalK G run n f37_keep 2 (sub [1, 1, 1, 0, 0, 0, 1, 0, 1, 1, 0, 1, 0, 0] f37_body)) f37_t2 f37_o2 (blockK 2 (seqK (evalK G run n f37_keep 1 (sub [1, 1, 1, 0, 0, 0, 1, 0, 1, 1, 1] f37_body) (blockK 1 (seqK (fun t => iterK (evalK G run n f37_keep 0 (sub [1, 1, 1, 0, 0, 0] f37_body)) f37_t0 f37_o0 (blockK 0 (seqK (evalK G run n f37_keep 0 (sub [1, 1, 1, 1] f37_body) (retE G f37_info)) (retE G f37_info))) k0 (t.clear f37_t0 f37_o0)) (blockK 0 (seqK (evalK G run n f37_keep 0 (sub [1, 1, 1, 1] f37_body) (retE G f37_info)) (retE G f37_info)))))) (blockK 1 (seqK (fun t => iterK (evalK G run n f37_keep 0 (sub [1, 1, 1, 0, 0, 0] f37_body)) f37_t0 f37_o0 (blockK 0 (seqK (evalK G run n f37_keep 0 (sub [1, 1, 1, 1] f37_body) (retE G f37_info)) (retE G f37_info))) k0 (t.clear f37_t0 f37_o0)) (blockK 0 (seqK (evalK G run n f37_keep 0 (sub [1, 1, 1, 1] f37_body) (retE G f37_info)) (retE G f37_info))))))) k2
    ⟨[.val (.slice (.int .i64)) none (.slice x0_2), .any, .val (.int .i64) none (.int x2_2), .any, .any, .any, .any, .val (.slice (.int .i64)) (some (7, 0)) (.slice x7_2), .val (.slice (.int .i64)) (some (8, 0)) (.slice x8_1), .val (.int .i64) none (.int x9_1), .val (.int .i64) none (.int x10_1), .any, .any, .any, .any, .any, .any, .any, .any, .any, .any, .any, .any, .any, .any, .any, .any, .any, .any, .any, .any, .any, .any, .any, .any, .any, .any, .any, .any, .any, .any, .any, .any, .any, .any, .any, .any, .any, .any, .any, .any, .any, .any, .any, .any, .any, .any, .any, .any, .any, .any, .any, .any, .any, .any, .any, .any, .any], [⟨0, none⟩, ⟨0, none⟩, ⟨0, none⟩, ⟨0, none⟩, ⟨0, none⟩, ⟨0, none⟩, ⟨0, none⟩, ⟨0, none⟩, ⟨0, none⟩, ⟨0, none⟩, ⟨0, none⟩, ⟨0, none⟩, ⟨0, none⟩, ⟨0, none⟩, ⟨0, none⟩, ⟨0, none⟩, ⟨0, none⟩, ⟨0, none⟩, ⟨0, none⟩, ⟨0, none⟩, ⟨0, none⟩, ⟨0, none⟩, ⟨0, none⟩, ⟨0, none⟩, ⟨0, none⟩, ⟨0, none⟩, ⟨0, none⟩, ⟨0, none⟩, ⟨0, none⟩, ⟨0, none⟩, ⟨0, none⟩, ⟨0, none⟩, ⟨0, none⟩, ⟨0, none⟩, ⟨0, none⟩, ⟨0, none⟩, ⟨0, none⟩, ⟨0, none⟩, ⟨0, none⟩, ⟨0, none⟩, ⟨0, none⟩, ⟨0, none⟩, ⟨0, none⟩, ⟨0, none⟩, ⟨0, none⟩, ⟨0, none⟩, ⟨0, none⟩, ⟨0, none⟩, ⟨0, none⟩, ⟨0, none⟩, ⟨0, none⟩, ⟨0, none⟩, ⟨0, none⟩, ⟨0, none⟩, ⟨0, none⟩, ⟨0, none⟩, ⟨0, none⟩, ⟨0, none⟩, ⟨0, none⟩, ⟨0, none⟩, ⟨0, none⟩, ⟨0, none⟩, ⟨0, none⟩, ⟨0, none⟩, ⟨0, none⟩, ⟨0, none⟩, ⟨0, none⟩, ⟨0, none⟩], List.replicate 68 0⟩
noncomputable def f37_l0 (run : Run) (n : Nat) (k0 : Nat) (x0_1 : List AV) (x1_1 : Int) (x2_1 : Int) (x7_1 : List AV) : Option Res :=
  iterK (evalK G run n f37_keep 0 (sub [1, 1, 1, 0, 0, 0] f37_body)) f37_t0 f37_o0 (blockK 0 (seqK (evalK G run n f37_keep 0 (sub [1, 1, 1, 1] f37_body) (retE G f37_info)) (retE G f37_info))) k0
    ⟨[.val (.slice (.int .i64)) none (.slice x0_1), .val (.int .i64) none (.int x1_1), .val (.int .i64) none (.int x2_1), .any, .any, .any, .any, .val (.slice (.int .i64)) (some (7, 0)) (.slice x7_1), .any, .any, .any, .any, .any, .any, .any, .any, .any, .any, .any, .any, .any, .any, .any, .any, .any, .any, .any, .any, .any, .any, .any, .any, .any, .any, .any, .any, .any, .any, .any, .any, .any, .any, .any, .any, .any, .any, .any, .any, .any, .any, .any, .any, .any, .any, .any, .any, .any, .any, .any, .any, .any, .any, .any, .any, .any, .any, .any, .any], [⟨0, none⟩, ⟨0, none⟩, ⟨0, none⟩, ⟨0, none⟩, ⟨0, none⟩, ⟨0, none⟩, ⟨0, none⟩, ⟨0, none⟩, ⟨0, none⟩, ⟨0, none⟩, ⟨0, none⟩, ⟨0, none⟩, ⟨0, none⟩, ⟨0, none⟩, ⟨0, none⟩, ⟨0, none⟩, ⟨0, none⟩, ⟨0, none⟩, ⟨0, none⟩, ⟨0, none⟩, ⟨0, none⟩, ⟨0, none⟩, ⟨0, none⟩, ⟨0, none⟩, ⟨0, none⟩, ⟨0, none⟩, ⟨0, none⟩, ⟨0, none⟩, ⟨0, none⟩, ⟨0, none⟩, ⟨0, none⟩, ⟨0, none⟩, ⟨0, none⟩, ⟨0, none⟩, ⟨0, none⟩, ⟨0, none⟩, ⟨0, none⟩, ⟨0, none⟩, ⟨0, none⟩, ⟨0, none⟩, ⟨0, none⟩, ⟨0, none⟩, ⟨0, none⟩, ⟨0, none⟩, ⟨0, none⟩, ⟨0, none⟩, ⟨0, none⟩, ⟨0, none⟩, ⟨0, none⟩, ⟨0, none⟩, ⟨0, none⟩, ⟨0, none⟩, ⟨0, none⟩, ⟨0, none⟩, ⟨0, none⟩, ⟨0, none⟩, ⟨0, none⟩, ⟨0, none⟩, ⟨0, none⟩, ⟨0, none⟩, ⟨0, none⟩, ⟨0, none⟩, ⟨0, none⟩, ⟨0, none⟩, ⟨0, none⟩, ⟨0, none⟩, ⟨0, none⟩, ⟨0, none⟩], List.replicate 68 0⟩
theorem f37_l2_eq (run : Run) (n : Nat) (k0 : Nat) (k2 : Nat) (x0_2 : List AV) (x2_2 : Int) (x7_2 : List AV) (x8_1 : List AV) (x9_1 : Int) (x10_1 : Int) : f37_l2 run n k0 (k2 + 1) x0_2 x2_2 x7_2 x8_1 x9_1 x10_1 =
  bif ltI x10_1 (x8_1.length : Int) then
    bif inR x10_1 x8_1.length then
    bif leI x2_2 ((nth x8_1 (Int.toNat x10_1)).toInt) then
    bif ltI x9_1 0 then
    bif inR x10_1 x8_1.length then
    f37_l2 run n k0 k2 x0_2 x2_2 x7_2 x8_1 ((nth x8_1 (Int.toNat x10_1)).toInt) (IntKind.wrap .i64 (x10_1 + 1))
  else none
  else
    bif inR x10_1 x8_1.length then
    bif ltI ((nth x8_1 (Int.toNat x10_1)).toInt) x9_1 then
    bif inR x10_1 x8_1.length then
    f37_l2 run n k0 k2 x0_2 x2_2 x7_2 x8_1 ((nth x8_1 (Int.toNat x10_1)).toInt) (IntKind.wrap .i64 (x10_1 + 1))
  else none
  else
    f37_l2 run n k0 k2 x0_2 x2_2 x7_2 x8_1 x9_1 (IntKind.wrap .i64 (x10_1 + 1))
  else none
  else
    f37_l2 run n k0 k2 x0_2 x2_2 x7_2 x8_1 x9_1 (IntKind.wrap .i64 (x10_1 + 1))
  else none
  else
    bif ltI x9_1 0 then
    some ⟨[.slice []], [], f37_fresh⟩
  else
    bif Nat.ble ((x7_2.length + 1) * 8) 140737488355328 then
    f37_l0 run n k0 x0_2 x9_1 x2_2 (x7_2 ++ [.int x9_1])
  else none := by kernel_rfl
theorem f37_l0_eq (run : Run) (n : Nat) (k0 : Nat) (x0_1 : List AV) (x1_1 : Int) (x2_1 : Int) (x7_1 : List AV) : f37_l0 run n (k0 + 1) x0_1 x1_1 x2_1 x7_1 =
  bif ltI x2_1 x1_1 then
    (run 69 [.slice x0_1, .int x1_1]).bind fun r1 =>
    bif r1.fresh then
    nilV r1.outs (consV r1.vals fun v1 vs1 =>
    nilV vs1 (f37_l2 run n k0 n x0_1 x2_1 x7_1 v1.toSlice (-1) 0))
  else none
  else
    some ⟨[.slice x7_1], [], f37_fresh⟩ := by kernel_rfl
noncomputable def f37 (run : Run) (n : Nat) (a0_1 : List AV) (a1_1 : Int) (a2_1 : Int) : Option Res := evalK G run n f37_info.keep 0 f37_info.body (retE G f37_info) (f37_info.start [.slice a0_1, .int a1_1, .int a2_1])
theorem f37_eq (run : Run) (n : Nat) (a0_1 : List AV) (a1_1 : Int) (a2_1 : Int) : f37 run n a0_1 a1_1 a2_1 =
  bif ltI a2_1 0 then
    some ⟨[.slice []], [], f37_fresh⟩
  else
    bif ltI a1_1 a2_1 then
    some ⟨[.slice []], [], f37_fresh⟩
  else
    bif leI (a0_1.length : Int) a1_1 then
    some ⟨[.slice []], [], f37_fresh⟩
  else
    f37_l0 run n n a0_1 a1_1 a2_1 [.int a1_1] := by kernel_rfl
theorem f37_run (ext : Run) (n : Nat) (a0_1 : List AV) (a1_1 : Int) (a2_1 : Int) : runE G ext (n + 1) 37 [.slice a0_1, .int a1_1, .int a2_1] = f37 (runE G ext n) n a0_1 a1_1 a2_1 := runE_succ f37_at f37_in

noncomputable def f18_l2 (run : Run) (n : Nat) (_k0 : Nat) (k2 : Nat) (x9_3 : List AV) (x11_3 : List AV) (x13_1 : Int) : Option Res :=
  iterK (evalK G run n f18_keep 2 (sub [1, 1, 1, 1, 1, 1, 1, 0, 1, 0, 0] f18_body)) f18_t2 f18_o2 (blockK 2 (seqK (evalK G run n f18_keep 0 (sub [1, 1, 1, 1, 1, 1, 1, 1] f18_body) (retE G f18_info)) (retE G f18_info))) k2
    ⟨[.any, .any, .any, .any, .any, .any, .any, .any, .any, .val (.slice (.int .i64)) (some (9, 0)) (.slice x9_3), .any, .val (.slice (.int .i64)) (some (11, 0)) (.slice x11_3), .any, .val (.int .i64) none (.int x13_1), .any, .any, .any, .any, .any, .any, .any, .any, .any, .any, .any, .any, .any, .any, .any, .any, .any, .any, .any, .any, .any, .any, .any, .any, .any, .any, .any, .any, .any, .any, .any, .any, .any, .any, .any, .any, .any, .any, .any, .any, .any, .any, .any, .any, .any, .any, .any, .any, .any, .any, .any, .any, .any], [⟨0, none⟩, ⟨0, none⟩, ⟨0, none⟩, ⟨0, none⟩, ⟨0, none⟩, ⟨0, none⟩, ⟨0, none⟩, ⟨0, none⟩, ⟨0, none⟩, ⟨0, none⟩, ⟨0, none⟩, ⟨0, none⟩, ⟨0, none⟩, ⟨0, none⟩, ⟨0, none⟩, ⟨0, none⟩, ⟨0, none⟩, ⟨0, none⟩, ⟨0, none⟩, ⟨0, none⟩, ⟨0, none⟩, ⟨0, none⟩, ⟨0, none⟩, ⟨0, none⟩, ⟨0, none⟩, ⟨0, none⟩, ⟨0, none⟩, ⟨0, none⟩, ⟨0, none⟩, ⟨0, none⟩, ⟨0, none⟩, ⟨0, none⟩, ⟨0, none⟩, ⟨0, none⟩, ⟨0, none⟩, ⟨0, none⟩, ⟨0, none⟩, ⟨0, none⟩, ⟨0, none⟩, ⟨0, none⟩, ⟨0, none⟩, ⟨0, none⟩, ⟨0, none⟩, ⟨0, none⟩, ⟨0, none⟩, ⟨0, none⟩, ⟨0, none⟩, ⟨0, none⟩, ⟨0, none⟩, ⟨0, none⟩, ⟨0, none⟩, ⟨0, none⟩, ⟨0, none⟩, ⟨0, none⟩, ⟨0, none⟩, ⟨0, none⟩, ⟨0, none⟩, ⟨0, none⟩, ⟨0, none⟩, ⟨0, none⟩, ⟨0, none⟩, ⟨0, none⟩, ⟨0, none⟩, ⟨0, none⟩, ⟨0, none⟩, ⟨0, none⟩, ⟨0, none⟩], List.replicate 67 0⟩
noncomputable def f18_l0 (run : Run) (n : Nat) (k0 : Nat) (x9_1 : List AV) (x10_1 : List AV) (x11_1 : List AV) (x12_1 : Int) : Option Res :=
  iterK (evalK G run n f18_keep 0 (sub [1, 1, 1, 1, 1, 1, 0, 1, 0, 0] f18_body)) f18_t0 f18_o0 (blockK 0 (seqK (evalK G run n f18_keep 0 (sub [1, 1, 1, 1, 1, 1, 1] f18_body) (retE G f18_info)) (retE G f18_info))) k0
    ⟨[.any, .any, .any, .any, .any, .any, .any, .any, .any, .val (.slice (.int .i64)) (some (9, 0)) (.slice x9_1), .val (.slice (.int .i64)) (some (10, 0)) (.slice x10_1), .val (.slice (.int .i64)) (some (11, 0)) (.slice x11_1), .val (.int .i64) none (.int x12_1), .any, .any, .any, .any, .any, .any, .any, .any, .any, .any, .any, .any, .any, .any, .any, .any, .any, .any, .any, .any, .any, .any, .any, .any, .any, .any, .any, .any, .any, .any, .any, .any, .any, .any, .any, .any, .any, .any, .any, .any, .any, .any, .any, .any, .any, .any, .any, .any, .any, .any, .any, .any, .any, .any], [⟨0, none⟩, ⟨0, none⟩, ⟨0, none⟩, ⟨0, none⟩, ⟨0, none⟩, ⟨0, none⟩, ⟨0, none⟩, ⟨0, none⟩, ⟨0, none⟩, ⟨0, none⟩, ⟨0, none⟩, ⟨0, none⟩, ⟨0, none⟩, ⟨0, none⟩, ⟨0, none⟩, ⟨0, none⟩, ⟨0, none⟩, ⟨0, none⟩, ⟨0, none⟩, ⟨0, none⟩, ⟨0, none⟩, ⟨0, none⟩, ⟨0, none⟩, ⟨0, none⟩, ⟨0, none⟩, ⟨0, none⟩, ⟨0, none⟩, ⟨0, none⟩, ⟨0, none⟩, ⟨0, none⟩, ⟨0, none⟩, ⟨0, none⟩, ⟨0, none⟩, ⟨0, none⟩, ⟨0, none⟩, ⟨0, none⟩, ⟨0, none⟩, ⟨0, none⟩, ⟨0, none⟩, ⟨0, none⟩, ⟨0, none⟩, ⟨0, none⟩, ⟨0, none⟩, ⟨0, none⟩, ⟨0, none⟩, ⟨0, none⟩, ⟨0, none⟩, ⟨0, none⟩, ⟨0, none⟩, ⟨0, none⟩, ⟨0, none⟩, ⟨0, none⟩, ⟨0, none⟩, ⟨0, none⟩, ⟨0, none⟩, ⟨0, none⟩, ⟨0, none⟩, ⟨0, none⟩, ⟨0, none⟩, ⟨0, none⟩, ⟨0, none⟩, ⟨0, none⟩, ⟨0, none⟩, ⟨0, none⟩, ⟨0, none⟩, ⟨0, none⟩, ⟨0, none⟩], List.replicate 67 0⟩
theorem f18_l2_eq (run : Run) (n : Nat) (k0 : Nat) (k2 : Nat) (x9_3 : List AV) (x11_3 : List AV) (x13_1 : Int) : f18_l2 run n k0 (k2 + 1) x9_3 x11_3 x13_1 =
  bif ltI 0 x13_1 then
    bif inR x13_1 x9_3.length then
    bif Nat.ble ((x11_3.length + 1) * 8) 140737488355328 then
    f18_l2 run n k0 k2 x9_3 (x11_3 ++ [.int ((nth x9_3 (Int.toNat x13_1)).toInt)]) (IntKind.wrap .i64 (x13_1 - 1))
  else none
  else none
  else
    some ⟨[.slice x11_3], [], f18_fresh⟩ := by kernel_rfl
theorem f18_l0_eq (run : Run) (n : Nat) (k0 : Nat) (x9_1 : List AV) (x10_1 : List AV) (x11_1 : List AV) (x12_1 : Int) : f18_l0 run n (k0 + 1) x9_1 x10_1 x11_1 x12_1 =
  bif leI 0 x12_1 then
    bif inR x12_1 x10_1.length then
    bif Nat.ble ((x11_1.length + 1) * 8) 140737488355328 then
    f18_l0 run n k0 x9_1 x10_1 (x11_1 ++ [.int ((nth x10_1 (Int.toNat x12_1)).toInt)]) (IntKind.wrap .i64 (x12_1 - 1))
  else none
  else none
  else
    f18_l2 run n k0 n x9_1 x11_1 (IntKind.wrap .i64 ((x9_1.length : Int) - 2)) := by kernel_rfl
noncomputable def f18 (run : Run) (n : Nat) (a0_1 : List AV) (a1_1 : Int) (a2_1 : Int) (a3_1 : Int) : Option Res := evalK G run n f18_info.keep 0 f18_info.body (retE G f18_info) (f18_info.start [.slice a0_1, .int a1_1, .int a2_1, .int a3_1])
theorem f18_eq (run : Run) (n : Nat) (a0_1 : List AV) (a1_1 : Int) (a2_1 : Int) (a3_1 : Int) : f18 run n a0_1 a1_1 a2_1 a3_1 =
  bif leI a1_1 a2_1 then
    some ⟨[.slice []], [], f18_fresh⟩
  else
    bif leI a2_1 a3_1 then
    some ⟨[.slice []], [], f18_fresh⟩
  else
    (run 37 [.slice a0_1, .int a1_1, .int a2_1]).bind fun r1 =>
    bif r1.fresh then
    nilV r1.outs (consV r1.vals fun v1 vs1 =>
    nilV vs1 ((run 37 [.slice a0_1, .int a2_1, .int a3_1]).bind fun r2 =>
    bif r2.fresh then
    nilV r2.outs (consV r2.vals fun v2 vs2 =>
    nilV vs2 (bif eqI (v1.toSlice.length : Int) 0 then
    some ⟨[.slice []], [], f18_fresh⟩
  else
    bif eqI (v2.toSlice.length : Int) 0 then
    some ⟨[.slice []], [], f18_fresh⟩
  else
    f18_l0 run n n v1.toSlice v2.toSlice [] (IntKind.wrap .i64 ((v2.toSlice.length : Int) - 2))))
  else none))
  else none := by kernel_rfl
theorem f18_run (ext : Run) (n : Nat) (a0_1 : List AV) (a1_1 : Int) (a2_1 : Int) (a3_1 : Int) : runE G ext (n + 1) 18 [.slice a0_1, .int a1_1, .int a2_1, .int a3_1] = f18 (runE G ext n) n a0_1 a1_1 a2_1 a3_1 := runE_succ f18_at f18_in

noncomputable def f4 (run : Run) (n : Nat) (a0_1 : List AV) (a1_1 : List AV) : Option Res := evalK G run n f4_info.keep 0 f4_info.body (retE G f4_info) (f4_info.start [.slice a0_1, .agg a1_1])
theorem f4_eq (run : Run) (n : Nat) (a0_1 : List AV) (a1_1 : List AV) : f4 run n a0_1 a1_1 =
  bif ltI 60 (a0_1.length : Int) then
    (run 16 []).bind fun r1 =>
    nilV r1.outs (consV r1.vals fun v1 vs1 =>
    nilV vs1 (some ⟨[.bool v1.toBool], [], f4_fresh⟩))
  else
    (run 17 [.slice a0_1, .int ((AV.fld (.agg a1_1) 0).toInt), .int ((AV.fld (.agg a1_1) 1).toInt), .int ((AV.fld (.agg a1_1) 2).toInt)]).bind fun r2 =>
    nilV r2.outs (consV r2.vals fun v2 vs2 =>
    nilV vs2 ((run 18 [.slice a0_1, .int ((AV.fld (.agg a1_1) 0).toInt), .int ((AV.fld (.agg a1_1) 1).toInt), .int ((AV.fld (.agg a1_1) 2).toInt)]).bind fun r3 =>
    bif r3.fresh then
    nilV r3.outs (consV r3.vals fun v3 vs3 =>
    nilV vs3 ((run 10 [.slice v2.toSlice, .slice v3.toSlice]).bind fun r4 =>
    nilV r4.outs (consV r4.vals fun v4 vs4 =>
    nilV vs4 (bif v4.toBool then
    (run 16 []).bind fun r5 =>
    nilV r5.outs (consV r5.vals fun v5 vs5 =>
    nilV vs5 (some ⟨[.bool v5.toBool], [], f4_fresh⟩))
  else
    some ⟨[.bool false], [], f4_fresh⟩))))
  else none)) := by kernel_rfl
theorem f4_run (ext : Run) (n : Nat) (a0_1 : List AV) (a1_1 : List AV) : runE G ext (n + 1) 4 [.slice a0_1, .agg a1_1] = f4 (runE G ext n) n a0_1 a1_1 := runE_succ f4_at f4_in

noncomputable def f41 (run : Run) (n : Nat) (a0_1 : List AV) (a1_1 : Int) : Option Res := evalK G run n f41_info.keep 0 f41_info.body (retE G f41_info) (f41_info.start [.slice a0_1, .int a1_1])
theorem f41_eq (run : Run) (n : Nat) (a0_1 : List AV) (a1_1 : Int) : f41 run n a0_1 a1_1 =
  (run 73 [.slice a0_1]).bind fun r1 =>
    nilV r1.outs (consV r1.vals fun v1 vs1 =>
    nilV vs1 (bif !(eqI v1.toInt 0) then
    some ⟨[.agg [.int 0, .int 0, .slice []], .int v1.toInt], [], f41_fresh⟩
  else
    (run 74 [.slice a0_1]).bind fun r2 =>
    bif r2.fresh then
    nilV r2.outs (consV r2.vals fun v2 vs2 =>
    nilV vs2 ((run 47 [.slice v2.toSlice, .int a1_1]).bind fun r3 =>
    nilV r3.outs (consV r3.vals fun v3 vs3 =>
    consV vs3 fun v4 vs4 =>
    nilV vs4 (some ⟨[.agg [.int ((v3.fld 0).toInt), .int ((v3.fld 1).toInt), .slice ((v3.fld 2).toSlice)], .int v4.toInt], [], f41_fresh⟩))))
  else none)) := by kernel_rfl
theorem f41_run (ext : Run) (n : Nat) (a0_1 : List AV) (a1_1 : Int) : runE G ext (n + 1) 41 [.slice a0_1, .int a1_1] = f41 (runE G ext n) n a0_1 a1_1 := runE_succ f41_at f41_in

noncomputable def f20_l2 (run : Run) (n : Nat) (_k0 : Nat) (k2 : Nat) (x2_3 : Int) (x14_1 : List AV) (x16_1 : List AV) (o8_21 : Int) (o8_22 : List AV) (o8_23 : Int) (o8_24 : Int) (o8_25 : List AV) (o8_26 : Int) (o8_27 : List UInt8) (o8_28 : Int) (o8_29 : Int) (o8_30 : List AV) (o13_21 : Int) (o13_22 : List AV) (o13_23 : Int) (o13_24 : Int) (o13_25 : List AV) (o13_26 : Int) (o13_27 : List UInt8) (o13_28 : Int) (o13_29 : Int) (o13_30 : List AV) : Option Res :=
  iterK (evalK G run n f20_keep 2 (sub [1, 1, 1, 1, 1, 1, 1, 1, 1, 1, 1, 1, 1, 1, 0, 0, 0] f20_body)) f20_t2 f20_o2 (blockK 2 (seqK (evalK G run n f20_keep 0 (sub [1, 1, 1, 1, 1, 1, 1, 1, 1, 1, 1, 1, 1, 1, 1] f20_body) (retE G f20_info)) (retE G f20_info))) k2
    ⟨[.any, .any, .val (.int .i64) none (.int x2_3), .any, .any, .any, .any, .any, .ptr ⟨(.struct [(.int .i64), (.slice (.struct [(.struct [(.int .u32), (.blob 32), (.blob 32), (.int .u64)]), (.struct [(.int .i64), (.int .i64), (.slice (.blob 32))])])), (.struct [(.int .i64), (.int .i64), (.slice (.blob 32))]), (.int .i64), .str, (.struct [(.int .i64), (.int .i64), (.slice (.blob 32))])]), 8, 1, []⟩, .any, .any, .any, .any, .ptr ⟨(.struct [(.int .i64), (.slice (.struct [(.struct [(.int .u32), (.blob 32), (.blob 32), (.int .u64)]), (.struct [(.int .i64), (.int .i64), (.slice (.blob 32))])])), (.struct [(.int .i64), (.int .i64), (.slice (.blob 32))]), (.int .i64), .str, (.struct [(.int .i64), (.int .i64), (.slice (.blob 32))])]), 13, 1, []⟩, .val (.slice (.int .i64)) (some (14, 0)) (.slice x14_1), .any, .val (.slice (.struct [(.struct [(.int .u32), (.blob 32), (.blob 32), (.int .u64)]), (.struct [(.int .i64), (.int .i64), (.slice (.blob 32))])])) none (.slice x16_1), .any, .any, .any, .any, .any, .any, .any, .any, .any, .any, .any, .any, .any, .any, .any, .any, .any, .any, .any, .any, .any, .any, .any, .any, .any, .any, .any, .any, .any, .any, .any, .any, .any, .any, .any, .any, .any, .any, .any, .any, .any, .any, .any, .any, .any, .any, .any, .any, .any, .any, .any, .any, .any, .any, .any, .any, .any, .any, .any, .any, .any, .any, .any, .any, .any, .any, .any, .any, .any, .any, .any, .any, .any, .any, .any, .any, .any, .any, .any, .any, .any, .any, .any, .any, .any, .any, .any, .any, .any, .any, .any, .any, .any, .any, .any, .any, .any, .any, .any, .any, .any, .any, .any, .any, .any, .any, .any, .any, .any, .any, .any, .any, .any, .any, .any, .any, .any, .any, .any, .any, .any, .any, .any, .any, .any, .any, .any, .any, .any, .any, .any, .any, .any, .any, .any, .any], [⟨0, none⟩, ⟨0, none⟩, ⟨0, none⟩, ⟨0, none⟩, ⟨0, none⟩, ⟨0, none⟩, ⟨0, none⟩, ⟨0, none⟩, ⟨1, some ⟨(.struct [(.int .i64), (.slice (.struct [(.struct [(.int .u32), (.blob 32), (.blob 32), (.int .u64)]), (.struct [(.int .i64), (.int .i64), (.slice (.blob 32))])])), (.struct [(.int .i64), (.int .i64), (.slice (.blob 32))]), (.int .i64), .str, (.struct [(.int .i64), (.int .i64), (.slice (.blob 32))])]), .agg [.int o8_21, .slice o8_22, .agg [.int o8_23, .int o8_24, .slice o8_25], .int o8_26, .str o8_27, .agg [.int o8_28, .int o8_29, .slice o8_30]]⟩⟩, ⟨0, none⟩, ⟨0, none⟩, ⟨0, none⟩, ⟨0, none⟩, ⟨1, some ⟨(.struct [(.int .i64), (.slice (.struct [(.struct [(.int .u32), (.blob 32), (.blob 32), (.int .u64)]), (.struct [(.int .i64), (.int .i64), (.slice (.blob 32))])])), (.struct [(.int .i64), (.int .i64), (.slice (.blob 32))]), (.int .i64), .str, (.struct [(.int .i64), (.int .i64), (.slice (.blob 32))])]), .agg [.int o13_21, .slice o13_22, .agg [.int o13_23, .int o13_24, .slice o13_25], .int o13_26, .str o13_27, .agg [.int o13_28, .int o13_29, .slice o13_30]]⟩⟩, ⟨0, none⟩, ⟨0, none⟩, ⟨0, none⟩, ⟨0, none⟩, ⟨0, none⟩, ⟨0, none⟩, ⟨0, none⟩, ⟨0, none⟩, ⟨0, none⟩, ⟨0, none⟩, ⟨0, none⟩, ⟨0, none⟩, ⟨0, none⟩, ⟨0, none⟩, ⟨0, none⟩, ⟨0, none⟩, ⟨0, none⟩, ⟨0, none⟩, ⟨0, none⟩, ⟨0, none⟩, ⟨0, none⟩, ⟨0, none⟩, ⟨0, none⟩, ⟨0, none⟩, ⟨0, none⟩, ⟨0, none⟩, ⟨0, none⟩, ⟨0, none⟩, ⟨0, none⟩, ⟨0, none⟩, ⟨0, none⟩, ⟨0, none⟩, ⟨0, none⟩, ⟨0, none⟩, ⟨0, none⟩, ⟨0, none⟩, ⟨0, none⟩, ⟨0, none⟩, ⟨0, none⟩, ⟨0, none⟩, ⟨0, none⟩, ⟨0, none⟩, ⟨0, none⟩, ⟨0, none⟩, ⟨0, none⟩, ⟨0, none⟩, ⟨0, none⟩, ⟨0, none⟩, ⟨0, none⟩, ⟨0, none⟩, ⟨0, none⟩, ⟨0, none⟩, ⟨0, none⟩, ⟨0, none⟩, ⟨0, none⟩, ⟨0, none⟩, ⟨0, none⟩, ⟨0, none⟩, ⟨0, none⟩, ⟨0, none⟩, ⟨0, none⟩, ⟨0, none⟩, ⟨0, none⟩, ⟨0, none⟩, ⟨0, none⟩, ⟨0, none⟩, ⟨0, none⟩, ⟨0, none⟩, ⟨0, none⟩, ⟨0, none⟩, ⟨0, none⟩, ⟨0, none⟩, ⟨0, none⟩, ⟨0, none⟩, ⟨0, none⟩, ⟨0, none⟩, ⟨0, none⟩, ⟨0, none⟩, ⟨0, none⟩, ⟨0, none⟩, ⟨0, none⟩, ⟨0, none⟩, ⟨0, none⟩, ⟨0, none⟩, ⟨0, none⟩, ⟨0, none⟩, ⟨0, none⟩, ⟨0, none⟩, ⟨0, none⟩, ⟨0, none⟩, ⟨0, none⟩, ⟨0, none⟩, ⟨0, none⟩, ⟨0, none⟩, ⟨0, none⟩, ⟨0, none⟩, ⟨0, none⟩, ⟨0, none⟩, ⟨0, none⟩, ⟨0, none⟩, ⟨0, none⟩, ⟨0, none⟩, ⟨0, none⟩, ⟨0, none⟩, ⟨0, none⟩, ⟨0, none⟩, ⟨0, none⟩, ⟨0, none⟩, ⟨0, none⟩, ⟨0, none⟩, ⟨0, none⟩, ⟨0, none⟩, ⟨0, none⟩, ⟨0, none⟩, ⟨0, none⟩, ⟨0, none⟩, ⟨0, none⟩, ⟨0, none⟩, ⟨0, none⟩, ⟨0, none⟩, ⟨0, none⟩, ⟨0, none⟩, ⟨0, none⟩, ⟨0, none⟩, ⟨0, none⟩, ⟨0, none⟩, ⟨0, none⟩, ⟨0, none⟩, ⟨0, none⟩, ⟨0, none⟩, ⟨0, none⟩, ⟨0, none⟩, ⟨0, none⟩, ⟨0, none⟩, ⟨0, none⟩, ⟨0, none⟩, ⟨0, none⟩, ⟨0, none⟩, ⟨0, none⟩], List.replicate 153 0⟩
noncomputable def f20_l0 (run : Run) (n : Nat) (k0 : Nat) (x1_1 : List AV) (x2_1 : Int) (x12_1 : List AV) (o4_1 : Int) (o4_2 : List UInt8) (o4_3 : List UInt8) (o4_4 : Int) (o4_5 : List UInt8) (o4_6 : Int) (o4_7 : Int) (o4_8 : Int) (o4_9 : Int) (o4_10 : Int) (o4_11 : Int) (o8_1 : Int) (o8_2 : List AV) (o8_3 : Int) (o8_4 : Int) (o8_5 : List AV) (o8_6 : Int) (o8_7 : List UInt8) (o8_8 : Int) (o8_9 : Int) (o8_10 : List AV) (o13_1 : Int) (o13_2 : List AV) (o13_3 : Int) (o13_4 : Int) (o13_5 : List AV) (o13_6 : Int) (o13_7 : List UInt8) (o13_8 : Int) (o13_9 : Int) (o13_10 : List AV) : Option Res :=
  iterK (evalK G run n f20_keep 0 (sub [1, 1, 1, 1, 1, 1, 1, 1, 0, 0, 0] f20_body)) f20_t0 f20_o0 (blockK 0 (seqK (evalK G run n f20_keep 0 (sub [1, 1, 1, 1, 1, 1, 1, 1, 1] f20_body) (retE G f20_info)) (retE G f20_info))) k0
    ⟨[.any, .val (.slice (.struct [(.struct [(.int .u32), (.blob 32), (.blob 32), (.int .u64)]), (.slice .str)])) none (.slice x1_1), .val (.int .i64) none (.int x2_1), .any, .ptr ⟨(.struct [(.struct [(.int .u32), (.blob 32), (.blob 32), (.int .u64)]), (.blob 32), (.int .i64), (.int .i64), (.int .i64), (.int .i64), (.int .i64), (.int .i64)]), 4, 1, []⟩, .any, .any, .any, .ptr ⟨(.struct [(.int .i64), (.slice (.struct [(.struct [(.int .u32), (.blob 32), (.blob 32), (.int .u64)]), (.struct [(.int .i64), (.int .i64), (.slice (.blob 32))])])), (.struct [(.int .i64), (.int .i64), (.slice (.blob 32))]), (.int .i64), .str, (.struct [(.int .i64), (.int .i64), (.slice (.blob 32))])]), 8, 1, []⟩, .any, .any, .any, .val (.slice (.int .i64)) (some (12, 0)) (.slice x12_1), .ptr ⟨(.struct [(.int .i64), (.slice (.struct [(.struct [(.int .u32), (.blob 32), (.blob 32), (.int .u64)]), (.struct [(.int .i64), (.int .i64), (.slice (.blob 32))])])), (.struct [(.int .i64), (.int .i64), (.slice (.blob 32))]), (.int .i64), .str, (.struct [(.int .i64), (.int .i64), (.slice (.blob 32))])]), 13, 1, []⟩, .any, .any, .any, .any, .any, .any, .any, .any, .any, .any, .any, .any, .any, .any, .any, .any, .any, .any, .any, .any, .any, .any, .any, .any, .any, .any, .any, .any, .any, .any, .any, .any, .any, .any, .any, .any, .any, .any, .any, .any, .any, .any, .any, .any, .any, .any, .any, .any, .any, .any, .any, .any, .any, .any, .any, .any, .any, .any, .any, .any, .any, .any, .any, .any, .any, .any, .any, .any, .any, .any, .any, .any, .any, .any, .any, .any, .any, .any, .any, .any, .any, .any, .any, .any, .any, .any, .any, .any, .any, .any, .any, .any, .any, .any, .any, .any, .any, .any, .any, .any, .any, .any, .any, .any, .any, .any, .any, .any, .any, .any, .any, .any, .any, .any, .any, .any, .any, .any, .any, .any, .any, .any, .any, .any, .any, .any, .any, .any, .any, .any, .any, .any, .any, .any, .any, .any, .any, .any, .any], [⟨0, none⟩, ⟨0, none⟩, ⟨0, none⟩, ⟨0, none⟩, ⟨1, some ⟨(.struct [(.struct [(.int .u32), (.blob 32), (.blob 32), (.int .u64)]), (.blob 32), (.int .i64), (.int .i64), (.int .i64), (.int .i64), (.int .i64), (.int .i64)]), .agg [.agg [.int o4_1, .blob o4_2, .blob o4_3, .int o4_4], .blob o4_5, .int o4_6, .int o4_7, .int o4_8, .int o4_9, .int o4_10, .int o4_11]⟩⟩, ⟨0, none⟩, ⟨0, none⟩, ⟨0, none⟩, ⟨1, some ⟨(.struct [(.int .i64), (.slice (.struct [(.struct [(.int .u32), (.blob 32), (.blob 32), (.int .u64)]), (.struct [(.int .i64), (.int .i64), (.slice (.blob 32))])])), (.struct [(.int .i64), (.int .i64), (.slice (.blob 32))]), (.int .i64), .str, (.struct [(.int .i64), (.int .i64), (.slice (.blob 32))])]), .agg [.int o8_1, .slice o8_2, .agg [.int o8_3, .int o8_4, .slice o8_5], .int o8_6, .str o8_7, .agg [.int o8_8, .int o8_9, .slice o8_10]]⟩⟩, ⟨0, none⟩, ⟨0, none⟩, ⟨0, none⟩, ⟨0, none⟩, ⟨1, some ⟨(.struct [(.int .i64), (.slice (.struct [(.struct [(.int .u32), (.blob 32), (.blob 32), (.int .u64)]), (.struct [(.int .i64), (.int .i64), (.slice (.blob 32))])])), (.struct [(.int .i64), (.int .i64), (.slice (.blob 32))]), (.int .i64), .str, (.struct [(.int .i64), (.int .i64), (.slice (.blob 32))])]), .agg [.int o13_1, .slice o13_2, .agg [.int o13_3, .int o13_4, .slice o13_5], .int o13_6, .str o13_7, .agg [.int o13_8, .int o13_9, .slice o13_10]]⟩⟩, ⟨0, none⟩, ⟨0, none⟩, ⟨0, none⟩, ⟨0, none⟩, ⟨0, none⟩, ⟨0, none⟩, ⟨0, none⟩, ⟨0, none⟩, ⟨0, none⟩, ⟨0, none⟩, ⟨0, none⟩, ⟨0, none⟩, ⟨0, none⟩, ⟨0, none⟩, ⟨0, none⟩, ⟨0, none⟩, ⟨0, none⟩, ⟨0, none⟩, ⟨0, none⟩, ⟨0, none⟩, ⟨0, none⟩, ⟨0, none⟩, ⟨0, none⟩, ⟨0, none⟩, ⟨0, none⟩, ⟨0, none⟩, ⟨0, none⟩, ⟨0, none⟩, ⟨0, none⟩, ⟨0, none⟩, ⟨0, none⟩, ⟨0, none⟩, ⟨0, none⟩, ⟨0, none⟩, ⟨0, none⟩, ⟨0, none⟩, ⟨0, none⟩, ⟨0, none⟩, ⟨0, none⟩, ⟨0, none⟩, ⟨0, none⟩, ⟨0, none⟩, ⟨0, none⟩, ⟨0, none⟩, ⟨0, none⟩, ⟨0, none⟩, ⟨0, none⟩, ⟨0, none⟩, ⟨0, none⟩, ⟨0, none⟩, ⟨0, none⟩, ⟨0, none⟩, ⟨0, none⟩, ⟨0, none⟩, ⟨0, none⟩, ⟨0, none⟩, ⟨0, none⟩, ⟨0, none⟩, ⟨0, none⟩, ⟨0, none⟩, ⟨0, none⟩, ⟨0, none⟩, ⟨0, none⟩, ⟨0, none⟩, ⟨0, none⟩, ⟨0, none⟩, ⟨0, none⟩, ⟨0, none⟩, ⟨0, none⟩, ⟨0, none⟩, ⟨0, none⟩, ⟨0, none⟩, ⟨0, none⟩, ⟨0, none⟩, ⟨0, none⟩, ⟨0, none⟩, ⟨0, none⟩, ⟨0, none⟩, ⟨0, none⟩, ⟨0, none⟩, ⟨0, none⟩, ⟨0, none⟩, ⟨0, none⟩, ⟨0, none⟩, ⟨0, none⟩, ⟨0, none⟩, ⟨0, none⟩, ⟨0, none⟩, ⟨0, none⟩, ⟨0, none⟩, ⟨0, none⟩, ⟨0, none⟩, ⟨0, none⟩, ⟨0, none⟩, ⟨0, none⟩, ⟨0, none⟩, ⟨0, none⟩, ⟨0, none⟩, ⟨0, none⟩, ⟨0, none⟩, ⟨0, none⟩, ⟨0, none⟩, ⟨0, none⟩, ⟨0, none⟩, ⟨0, none⟩, ⟨0, none⟩, ⟨0, none⟩, ⟨0, none⟩, ⟨0, none⟩, ⟨0, none⟩, ⟨0, none⟩, ⟨0, none⟩, ⟨0, none⟩, ⟨0, none⟩, ⟨0, none⟩, ⟨0, none⟩, ⟨0, none⟩, ⟨0, none⟩, ⟨0, none⟩, ⟨0, none⟩, ⟨0, none⟩, ⟨0, none⟩, ⟨0, none⟩, ⟨0, none⟩, ⟨0, none⟩, ⟨0, none⟩, ⟨0, none⟩, ⟨0, none⟩, ⟨0, none⟩, ⟨0, none⟩, ⟨0, none⟩, ⟨0, none⟩, ⟨0, none⟩, ⟨0, none⟩, ⟨0, none⟩, ⟨0, none⟩, ⟨0, none⟩, ⟨0, none⟩, ⟨0, none⟩], List.replicate 153 0⟩
theorem f20_l2_eq (run : Run) (n : Nat) (k0 : Nat) (k2 : Nat) (x2_3 : Int) (x14_1 : List AV) (x16_1 : List AV) (o8_21 : Int) (o8_22 : List AV) (o8_23 : Int) (o8_24 : Int) (o8_25 : List AV) (o8_26 : Int) (o8_27 : List UInt8) (o8_28 : Int) (o8_29 : Int) (o8_30 : List AV) (o13_21 : Int) (o13_22 : List AV) (o13_23 : Int) (o13_24 : Int) (o13_25 : List AV) (o13_26 : Int) (o13_27 : List UInt8) (o13_28 : Int) (o13_29 : Int) (o13_30 : List AV) : f20_l2 run n k0 (k2 + 1) x2_3 x14_1 x16_1 o8_21 o8_22 o8_23 o8_24 o8_25 o8_26 o8_27 o8_28 o8_29 o8_30 o13_21 o13_22 o13_23 o13_24 o13_25 o13_26 o13_27 o13_28 o13_29 o13_30 =
  bif inR o13_26 x14_1.length then
    bif !(eqI ((nth x14_1 (Int.toNat o13_26)).toInt) x2_3) then
    f20_l2 run n k0 k2 x2_3 x14_1 x16_1 o8_21 o8_22 o8_23 o8_24 o8_25 o8_26 o8_27 o8_28 o8_29 o8_30 o13_21 o13_22 o13_23 o13_24 o13_25 (IntKind.wrap .i64 (o13_26 + 1)) o13_27 o13_28 o13_29 o13_30
  else
    bif boundsOk 1 (IntKind.wrap .i64 ((x16_1.length : Int) - 1)) (x16_1.length : Int) (x16_1.length : Int) && true then
    bif inR (IntKind.wrap .i64 ((x16_1.length : Int) - 1)) x16_1.length then
    some ⟨[.agg [.int o13_21, .slice (List.drop 1 (List.take (Int.toNat (IntKind.wrap .i64 ((x16_1.length : Int) - 1))) x16_1)), .agg [.int ((((nth x16_1 (Int.toNat (IntKind.wrap .i64 ((x16_1.length : Int) - 1)))).fld 1).fld 0).toInt), .int ((((nth x16_1 (Int.toNat (IntKind.wrap .i64 ((x16_1.length : Int) - 1)))).fld 1).fld 1).toInt), .slice ((((nth x16_1 (Int.toNat (IntKind.wrap .i64 ((x16_1.length : Int) - 1)))).fld 1).fld 2).toSlice)], .int o13_26, .str o13_27, .agg [.int o13_28, .int o13_29, .slice o13_30]], .int 0], [], f20_fresh⟩
  else none
  else none
  else none := by kernel_rfl
theorem f20_l0_eq (run : Run) (n : Nat) (k0 : Nat) (x1_1 : List AV) (x2_1 : Int) (x12_1 : List AV) (o4_1 : Int) (o4_2 : List UInt8) (o4_3 : List UInt8) (o4_4 : Int) (o4_5 : List UInt8) (o4_6 : Int) (o4_7 : Int) (o4_8 : Int) (o4_9 : Int) (o4_10 : Int) (o4_11 : Int) (o8_1 : Int) (o8_2 : List AV) (o8_3 : Int) (o8_4 : Int) (o8_5 : List AV) (o8_6 : Int) (o8_7 : List UInt8) (o8_8 : Int) (o8_9 : Int) (o8_10 : List AV) (o13_1 : Int) (o13_2 : List AV) (o13_3 : Int) (o13_4 : Int) (o13_5 : List AV) (o13_6 : Int) (o13_7 : List UInt8) (o13_8 : Int) (o13_9 : Int) (o13_10 : List AV) : f20_l0 run n (k0 + 1) x1_1 x2_1 x12_1 o4_1 o4_2 o4_3 o4_4 o4_5 o4_6 o4_7 o4_8 o4_9 o4_10 o4_11 o8_1 o8_2 o8_3 o8_4 o8_5 o8_6 o8_7 o8_8 o8_9 o8_10 o13_1 o13_2 o13_3 o13_4 o13_5 o13_6 o13_7 o13_8 o13_9 o13_10 =
  bif inR o13_1 x12_1.length then
    bif ltI ((nth x12_1 (Int.toNat o13_1)).toInt) x2_1 then
    f20_l0 run n k0 x1_1 x2_1 x12_1 o4_1 o4_2 o4_3 o4_4 o4_5 o4_6 o4_7 o4_8 o4_9 o4_10 o4_11 o8_1 o8_2 o8_3 o8_4 o8_5 o8_6 o8_7 o8_8 o8_9 o8_10 (IntKind.wrap .i64 (o13_1 + 1)) o13_2 o13_3 o13_4 o13_5 o13_6 o13_7 o13_8 o13_9 o13_10
  else
    bif inR o13_1 x12_1.length then
    bif eqI ((nth x12_1 (Int.toNat o13_1)).toInt) x2_1 then
    some ⟨[.agg [.int o13_1, .slice o13_2, .agg [.int o13_3, .int o13_4, .slice o13_5], .int o13_6, .str o13_7, .agg [.int o13_8, .int o13_9, .slice o13_10]], .int 0], [], f20_fresh⟩
  else
    (run 29 [.slice x1_1]).bind fun r4 =>
    bif r4.fresh then
    nilV r4.outs (consV r4.vals fun v5 vs5 =>
    nilV vs5 ((run 28 [.blob o4_5, .slice v5.toSlice]).bind fun r5 =>
    bif r5.fresh then
    nilV r5.outs (consV r5.vals fun v6 vs6 =>
    nilV vs6 (bif inR o13_1 x12_1.length then
    bif inR (IntKind.wrap .i64 (o13_1 - 1)) x12_1.length then
    (run 18 [.slice v6.toSlice, .int ((nth x12_1 (Int.toNat o13_1)).toInt), .int x2_1, .int ((nth x12_1 (Int.toNat (IntKind.wrap .i64 (o13_1 - 1)))).toInt)]).bind fun r6 =>
    bif r6.fresh then
    nilV r6.outs (consV r6.vals fun v7 vs7 =>
    nilV vs7 (bif inR (IntKind.wrap .i64 (o13_1 - 1)) x12_1.length then
    bif Nat.ble ((1 + v7.toSlice.length) * 8) 140737488355328 then
    bif inR o13_1 x12_1.length then
    bif Nat.ble ((([.int ((nth x12_1 (Int.toNat (IntKind.wrap .i64 (o13_1 - 1)))).toInt)] ++ v7.toSlice : List AV).length + 1) * 8) 140737488355328 then
    (run 24 [.blob o4_5, .slice x1_1, .slice (([.int ((nth x12_1 (Int.toNat (IntKind.wrap .i64 (o13_1 - 1)))).toInt)] ++ v7.toSlice) ++ [.int ((nth x12_1 (Int.toNat o13_1)).toInt)])]).bind fun r7 =>
    nilV r7.outs (consV r7.vals fun v8 vs8 =>
    consV vs8 fun v9 vs9 =>
    nilV vs9 (bif !(eqI v9.toInt 0) then
    some ⟨[.agg [.int 0, .slice [], .agg [.int 0, .int 0, .slice []], .int 0, .str [], .agg [.int 0, .int 0, .slice []]], .int v9.toInt], [], f20_fresh⟩
  else
    f20_l2 run n k0 n x2_1 v7.toSlice v8.toSlice o8_1 o8_2 o8_3 o8_4 o8_5 o8_6 o8_7 o8_8 o8_9 o8_10 o13_1 o13_2 o13_3 o13_4 o13_5 o13_6 o13_7 o13_8 o13_9 o13_10))
  else none
  else none
  else none
  else none))
  else none
  else none
  else none))
  else none))
  else none
  else none
  else none := by kernel_rfl
noncomputable def f20 (run : Run) (n : Nat) (a0_1 : Int) (a0_2 : List UInt8) (a0_3 : List UInt8) (a0_4 : Int) (a0_5 : List UInt8) (a0_6 : Int) (a0_7 : Int) (a0_8 : Int) (a0_9 : Int) (a0_10 : Int) (a0_11 : Int) (a1_1 : List AV) (a2_1 : Int) (a3_1 : Int) : Option Res := evalK G run n f20_info.keep 0 f20_info.body (retE G f20_info) (f20_info.start [.agg [.agg [.int a0_1, .blob a0_2, .blob a0_3, .int a0_4], .blob a0_5, .int a0_6, .int a0_7, .int a0_8, .int a0_9, .int a0_10, .int a0_11], .slice a1_1, .int a2_1, .int a3_1])
theorem f20_eq (run : Run) (n : Nat) (a0_1 : Int) (a0_2 : List UInt8) (a0_3 : List UInt8) (a0_4 : Int) (a0_5 : List UInt8) (a0_6 : Int) (a0_7 : Int) (a0_8 : Int) (a0_9 : Int) (a0_10 : Int) (a0_11 : Int) (a1_1 : List AV) (a2_1 : Int) (a3_1 : Int) : f20 run n a0_1 a0_2 a0_3 a0_4 a0_5 a0_6 a0_7 a0_8 a0_9 a0_10 a0_11 a1_1 a2_1 a3_1 =
  (run 15 [.agg [.agg [.int a0_1, .blob a0_2, .blob a0_3, .int a0_4], .blob a0_5, .int a0_6, .int a0_7, .int a0_8, .int a0_9, .int a0_10, .int a0_11], .slice a1_1]).bind fun r1 =>
    nilV r1.outs (consV r1.vals fun v1 vs1 =>
    nilV vs1 (bif !(eqI v1.toInt 0) then
    some ⟨[.agg [.int 0, .slice [], .agg [.int 0, .int 0, .slice []], .int 0, .str [], .agg [.int 0, .int 0, .slice []]], .int v1.toInt], [], f20_fresh⟩
  else
    bif ltI a2_1 0 then
    some ⟨[.agg [.int 0, .slice [], .agg [.int 0, .int 0, .slice []], .int 0, .str [], .agg [.int 0, .int 0, .slice []]], .int 15], [], f20_fresh⟩
  else
    bif leI (IntKind.wrap .i64 ((a1_1.length : Int) - a0_7)) a2_1 then
    some ⟨[.agg [.int 0, .slice [], .agg [.int 0, .int 0, .slice []], .int 0, .str [], .agg [.int 0, .int 0, .slice []]], .int 15], [], f20_fresh⟩
  else
    bif inR a2_1 a1_1.length then
    (run 41 [.slice (((nth a1_1 (Int.toNat a2_1)).fld 1).toSlice), .int a3_1]).bind fun r2 =>
    nilV r2.outs (consV r2.vals fun v2 vs2 =>
    consV vs2 fun v3 vs3 =>
    nilV vs3 (bif !(eqI v3.toInt 0) then
    some ⟨[.agg [.int 0, .slice [], .agg [.int 0, .int 0, .slice []], .int 0, .str [], .agg [.int 0, .int 0, .slice []]], .int 14], [], f20_fresh⟩
  else
    (run 12 [.agg [.agg [.int a0_1, .blob a0_2, .blob a0_3, .int a0_4], .blob a0_5, .int a0_6, .int a0_7, .int a0_8, .int a0_9, .int a0_10, .int a0_11], .slice a1_1]).bind fun r3 =>
    bif r3.fresh then
    nilV r3.outs (consV r3.vals fun v4 vs4 =>
    nilV vs4 (bif inR a2_1 a1_1.length then
    bif inR a3_1 ((((nth a1_1 (Int.toNat a2_1)).fld 1).toSlice).length) then
    f20_l0 run n n a1_1 a2_1 v4.toSlice a0_1 a0_2 a0_3 a0_4 a0_5 a0_6 a0_7 a0_8 a0_9 a0_10 a0_11 0 [] 0 0 [] 0 [] 0 0 [] 0 [] 0 0 [] 0 ((nth (((nth a1_1 (Int.toNat a2_1)).fld 1).toSlice) (Int.toNat a3_1)).toStr) ((v2.fld 0).toInt) ((v2.fld 1).toInt) ((v2.fld 2).toSlice)
  else none
  else none))
  else none))
  else none)) := by kernel_rfl
theorem f20_run (ext : Run) (n : Nat) (a0_1 : Int) (a0_2 : List UInt8) (a0_3 : List UInt8) (a0_4 : Int) (a0_5 : List UInt8) (a0_6 : Int) (a0_7 : Int) (a0_8 : Int) (a0_9 : Int) (a0_10 : Int) (a0_11 : Int) (a1_1 : List AV) (a2_1 : Int) (a3_1 : Int) : runE G ext (n + 1) 20 [.agg [.agg [.int a0_1, .blob a0_2, .blob a0_3, .int a0_4], .blob a0_5, .int a0_6, .int a0_7, .int a0_8, .int a0_9, .int a0_10, .int a0_11], .slice a1_1, .int a2_1, .int a3_1] = f20 (runE G ext n) n a0_1 a0_2 a0_3 a0_4 a0_5 a0_6 a0_7 a0_8 a0_9 a0_10 a0_11 a1_1 a2_1 a3_1 := runE_succ f20_at f20_in

noncomputable def f21 (run : Run) (n : Nat) (a0_1 : Int) (a0_2 : List AV) (a0_3 : Int) (a0_4 : Int) (a0_5 : List AV) (a0_6 : Int) (a0_7 : List UInt8) (a0_8 : Int) (a0_9 : Int) (a0_10 : List AV) (a1_1 : Int) (a1_2 : List AV) (a1_3 : Int) (a1_4 : Int) (a1_5 : List AV) (a1_6 : Int) (a1_7 : List UInt8) (a1_8 : Int) (a1_9 : Int) (a1_10 : List AV) : Option Res := evalK G run n f21_info.keep 0 f21_info.body (retE G f21_info) (f21_info.start [.agg [.int a0_1, .slice a0_2, .agg [.int a0_3, .int a0_4, .slice a0_5], .int a0_6, .str a0_7, .agg [.int a0_8, .int a0_9, .slice a0_10]], .agg [.int a1_1, .slice a1_2, .agg [.int a1_3, .int a1_4, .slice a1_5], .int a1_6, .str a1_7, .agg [.int a1_8, .int a1_9, .slice a1_10]]])
theorem f21_eq (run : Run) (n : Nat) (a0_1 : Int) (a0_2 : List AV) (a0_3 : Int) (a0_4 : Int) (a0_5 : List AV) (a0_6 : Int) (a0_7 : List UInt8) (a0_8 : Int) (a0_9 : Int) (a0_10 : List AV) (a1_1 : Int) (a1_2 : List AV) (a1_3 : Int) (a1_4 : Int) (a1_5 : List AV) (a1_6 : Int) (a1_7 : List UInt8) (a1_8 : Int) (a1_9 : Int) (a1_10 : List AV) : f21 run n a0_1 a0_2 a0_3 a0_4 a0_5 a0_6 a0_7 a0_8 a0_9 a0_10 a1_1 a1_2 a1_3 a1_4 a1_5 a1_6 a1_7 a1_8 a1_9 a1_10 =
  bif eqI a0_1 a1_1 then
    bif eqI a0_6 a1_6 then
    bif eqS a0_7 a1_7 then
    (run 13 [.slice a0_2, .slice a1_2]).bind fun r1 =>
    nilV r1.outs (consV r1.vals fun v1 vs1 =>
    nilV vs1 (bif v1.toBool then
    (run 42 [.agg [.int a0_3, .int a0_4, .slice a0_5], .agg [.int a1_3, .int a1_4, .slice a1_5]]).bind fun r2 =>
    nilV r2.outs (consV r2.vals fun v2 vs2 =>
    nilV vs2 (bif v2.toBool then
    (run 42 [.agg [.int a0_8, .int a0_9, .slice a0_10], .agg [.int a1_8, .int a1_9, .slice a1_10]]).bind fun r3 =>
    nilV r3.outs (consV r3.vals fun v3 vs3 =>
    nilV vs3 (some ⟨[.bool v3.toBool], [], f21_fresh⟩))
  else
    some ⟨[.bool false], [], f21_fresh⟩))
  else
    some ⟨[.bool false], [], f21_fresh⟩))
  else
    some ⟨[.bool false], [], f21_fresh⟩
  else
    some ⟨[.bool false], [], f21_fresh⟩
  else
    some ⟨[.bool false], [], f21_fresh⟩ := by kernel_rfl
theorem f21_run (ext : Run) (n : Nat) (a0_1 : Int) (a0_2 : List AV) (a0_3 : Int) (a0_4 : Int) (a0_5 : List AV) (a0_6 : Int) (a0_7 : List UInt8) (a0_8 : Int) (a0_9 : Int) (a0_10 : List AV) (a1_1 : Int) (a1_2 : List AV) (a1_3 : Int) (a1_4 : Int) (a1_5 : List AV) (a1_6 : Int) (a1_7 : List UInt8) (a1_8 : Int) (a1_9 : Int) (a1_10 : List AV) : runE G ext (n + 1) 21 [.agg [.int a0_1, .slice a0_2, .agg [.int a0_3, .int a0_4, .slice a0_5], .int a0_6, .str a0_7, .agg [.int a0_8, .int a0_9, .slice a0_10]], .agg [.int a1_1, .slice a1_2, .agg [.int a1_3, .int a1_4, .slice a1_5], .int a1_6, .str a1_7, .agg [.int a1_8, .int a1_9, .slice a1_10]]] = f21 (runE G ext n) n a0_1 a0_2 a0_3 a0_4 a0_5 a0_6 a0_7 a0_8 a0_9 a0_10 a1_1 a1_2 a1_3 a1_4 a1_5 a1_6 a1_7 a1_8 a1_9 a1_10 := runE_succ f21_at f21_in

noncomputable def f5 (run : Run) (n : Nat) (a0_1 : Int) (a0_2 : List UInt8) (a0_3 : List UInt8) (a0_4 : Int) (a0_5 : List UInt8) (a0_6 : Int) (a0_7 : Int) (a0_8 : Int) (a0_9 : Int) (a0_10 : Int) (a0_11 : Int) (a1_1 : List AV) (a2_1 : List AV) : Option Res := evalK G run n f5_info.keep 0 f5_info.body (retE G f5_info) (f5_info.start [.agg [.agg [.int a0_1, .blob a0_2, .blob a0_3, .int a0_4], .blob a0_5, .int a0_6, .int a0_7, .int a0_8, .int a0_9, .int a0_10, .int a0_11], .slice a1_1, .agg a2_1])
theorem f5_eq (run : Run) (n : Nat) (a0_1 : Int) (a0_2 : List UInt8) (a0_3 : List UInt8) (a0_4 : Int) (a0_5 : List UInt8) (a0_6 : Int) (a0_7 : Int) (a0_8 : Int) (a0_9 : Int) (a0_10 : Int) (a0_11 : Int) (a1_1 : List AV) (a2_1 : List AV) : f5 run n a0_1 a0_2 a0_3 a0_4 a0_5 a0_6 a0_7 a0_8 a0_9 a0_10 a0_11 a1_1 a2_1 =
  (run 6 [.slice a1_1]).bind fun r1 =>
    nilV r1.outs (consV r1.vals fun v1 vs1 =>
    nilV vs1 (bif v1.toBool then
    (run 16 []).bind fun r2 =>
    nilV r2.outs (consV r2.vals fun v2 vs2 =>
    nilV vs2 (some ⟨[.bool v2.toBool], [], f5_fresh⟩))
  else
    (run 19 [.agg [.agg [.int a0_1, .blob a0_2, .blob a0_3, .int a0_4], .blob a0_5, .int a0_6, .int a0_7, .int a0_8, .int a0_9, .int a0_10, .int a0_11], .slice a1_1, .int ((AV.fld (.agg a2_1) 0).toInt), .int ((AV.fld (.agg a2_1) 1).toInt)]).bind fun r3 =>
    nilV r3.outs (consV r3.vals fun v3 vs3 =>
    consV vs3 fun v4 vs4 =>
    nilV vs4 ((run 20 [.agg [.agg [.int a0_1, .blob a0_2, .blob a0_3, .int a0_4], .blob a0_5, .int a0_6, .int a0_7, .int a0_8, .int a0_9, .int a0_10, .int a0_11], .slice a1_1, .int ((AV.fld (.agg a2_1) 0).toInt), .int ((AV.fld (.agg a2_1) 1).toInt)]).bind fun r4 =>
    nilV r4.outs (consV r4.vals fun v5 vs5 =>
    consV vs5 fun v6 vs6 =>
    nilV vs6 ((run 21 [.agg [.int ((v3.fld 0).toInt), .slice ((v3.fld 1).toSlice), .agg [.int (((v3.fld 2).fld 0).toInt), .int (((v3.fld 2).fld 1).toInt), .slice (((v3.fld 2).fld 2).toSlice)], .int ((v3.fld 3).toInt), .str ((v3.fld 4).toStr), .agg [.int (((v3.fld 5).fld 0).toInt), .int (((v3.fld 5).fld 1).toInt), .slice (((v3.fld 5).fld 2).toSlice)]], .agg [.int ((v5.fld 0).toInt), .slice ((v5.fld 1).toSlice), .agg [.int (((v5.fld 2).fld 0).toInt), .int (((v5.fld 2).fld 1).toInt), .slice (((v5.fld 2).fld 2).toSlice)], .int ((v5.fld 3).toInt), .str ((v5.fld 4).toStr), .agg [.int (((v5.fld 5).fld 0).toInt), .int (((v5.fld 5).fld 1).toInt), .slice (((v5.fld 5).fld 2).toSlice)]]]).bind fun r5 =>
    nilV r5.outs (consV r5.vals fun v7 vs7 =>
    nilV vs7 (bif v7.toBool then
    bif eqI v4.toInt v6.toInt then
    (run 16 []).bind fun r6 =>
    nilV r6.outs (consV r6.vals fun v8 vs8 =>
    nilV vs8 (some ⟨[.bool v8.toBool], [], f5_fresh⟩))
  else
    some ⟨[.bool false], [], f5_fresh⟩
  else
    some ⟨[.bool false], [], f5_fresh⟩)))))))) := by kernel_rfl
theorem f5_run (ext : Run) (n : Nat) (a0_1 : Int) (a0_2 : List UInt8) (a0_3 : List UInt8) (a0_4 : Int) (a0_5 : List UInt8) (a0_6 : Int) (a0_7 : Int) (a0_8 : Int) (a0_9 : Int) (a0_10 : Int) (a0_11 : Int) (a1_1 : List AV) (a2_1 : List AV) : runE G ext (n + 1) 5 [.agg [.agg [.int a0_1, .blob a0_2, .blob a0_3, .int a0_4], .blob a0_5, .int a0_6, .int a0_7, .int a0_8, .int a0_9, .int a0_10, .int a0_11], .slice a1_1, .agg a2_1] = f5 (runE G ext n) n a0_1 a0_2 a0_3 a0_4 a0_5 a0_6 a0_7 a0_8 a0_9 a0_10 a0_11 a1_1 a2_1 := runE_succ f5_at f5_in

noncomputable def f67_l0 (run : Run) (n : Nat) (k0 : Nat) (x1_1 : Int) (x6_1 : Int) (x7_1 : Bool) (x10_1 : List AV) (x11_1 : Int) (x12_1 : Int) : Option Res :=
  iterK (evalK G run n f67_keep 0 (sub [1, 1, 0, 1, 0, 0] f67_body)) f67_t0 f67_o0 (blockK 0 (seqK (evalK G run n f67_keep 0 (sub [1, 1, 1] f67_body) (retE G f67_info)) (retE G f67_info))) k0
    ⟨[.any, .val (.int .i64) none (.int x1_1), .any, .any, .any, .any, .val (.int .i64) none (.int x6_1), .val .bool none (.bool x7_1), .any, .any, .val (.slice (.int .i64)) none (.slice x10_1), .val (.int .i64) none (.int x11_1), .val (.int .i64) none (.int x12_1), .any, .any, .any, .any, .any, .any, .any, .any, .any, .any, .any, .any, .any, .any, .any, .any, .any, .any, .any], [⟨0, none⟩, ⟨0, none⟩, ⟨0, none⟩, ⟨0, none⟩, ⟨0, none⟩, ⟨0, none⟩, ⟨0, none⟩, ⟨0, none⟩, ⟨0, none⟩, ⟨0, none⟩, ⟨0, none⟩, ⟨0, none⟩, ⟨0, none⟩, ⟨0, none⟩, ⟨0, none⟩, ⟨0, none⟩, ⟨0, none⟩, ⟨0, none⟩, ⟨0, none⟩, ⟨0, none⟩, ⟨0, none⟩, ⟨0, none⟩, ⟨0, none⟩, ⟨0, none⟩, ⟨0, none⟩, ⟨0, none⟩, ⟨0, none⟩, ⟨0, none⟩, ⟨0, none⟩, ⟨0, none⟩, ⟨0, none⟩, ⟨0, none⟩], List.replicate 32 0⟩
theorem f67_l0_eq (run : Run) (n : Nat) (k0 : Nat) (x1_1 : Int) (x6_1 : Int) (x7_1 : Bool) (x10_1 : List AV) (x11_1 : Int) (x12_1 : Int) : f67_l0 run n (k0 + 1) x1_1 x6_1 x7_1 x10_1 x11_1 x12_1 =
  bif ltI x12_1 x11_1 then
    bif inR x12_1 x10_1.length then
    bif leI x1_1 ((nth x10_1 (Int.toNat x12_1)).toInt) then
    bif !x7_1 then
    f67_l0 run n k0 x1_1 ((nth x10_1 (Int.toNat x12_1)).toInt) true x10_1 x11_1 (IntKind.wrap .i64 (x12_1 + 1))
  else
    bif ltI ((nth x10_1 (Int.toNat x12_1)).toInt) x6_1 then
    f67_l0 run n k0 x1_1 ((nth x10_1 (Int.toNat x12_1)).toInt) true x10_1 x11_1 (IntKind.wrap .i64 (x12_1 + 1))
  else
    f67_l0 run n k0 x1_1 x6_1 x7_1 x10_1 x11_1 (IntKind.wrap .i64 (x12_1 + 1))
  else
    f67_l0 run n k0 x1_1 x6_1 x7_1 x10_1 x11_1 (IntKind.wrap .i64 (x12_1 + 1))
  else none
  else
    some ⟨[.int x6_1, .bool x7_1], [], f67_fresh⟩ := by kernel_rfl
noncomputable def f67 (run : Run) (n : Nat) (a0_1 : List AV) (a1_1 : Int) : Option Res := evalK G run n f67_info.keep 0 f67_info.body (retE G f67_info) (f67_info.start [.slice a0_1, .int a1_1])
theorem f67_eq (run : Run) (n : Nat) (a0_1 : List AV) (a1_1 : Int) : f67 run n a0_1 a1_1 =
  f67_l0 run n n a1_1 0 false a0_1 (a0_1.length : Int) 0 := by kernel_rfl
theorem f67_run (ext : Run) (n : Nat) (a0_1 : List AV) (a1_1 : Int) : runE G ext (n + 1) 67 [.slice a0_1, .int a1_1] = f67 (runE G ext n) n a0_1 a1_1 := runE_succ f67_at f67_in

noncomputable def f35_l0 (run : Run) (n : Nat) (k0 : Nat) (x0_1 : List AV) (x1_1 : Int) (x2_1 : Int) (x7_1 : List AV) : Option Res :=
  iterK (evalK G run n f35_keep 0 (sub [1, 1, 1, 0, 0, 0] f35_body)) f35_t0 f35_o0 (blockK 0 (seqK (evalK G run n f35_keep 0 (sub [1, 1, 1, 1] f35_body) (retE G f35_info)) (retE G f35_info))) k0
    ⟨[.val (.slice (.int .i64)) none (.slice x0_1), .val (.int .i64) none (.int x1_1), .val (.int .i64) none (.int x2_1), .any, .any, .any, .any, .val (.slice (.int .i64)) (some (7, 0)) (.slice x7_1), .any, .any, .any, .any, .any, .any, .any, .any, .any, .any, .any, .any, .any, .any, .any, .any, .any, .any, .any, .any, .any, .any, .any, .any, .any, .any, .any, .any, .any, .any, .any, .any, .any, .any, .any, .any], [⟨0, none⟩, ⟨0, none⟩, ⟨0, none⟩, ⟨0, none⟩, ⟨0, none⟩, ⟨0, none⟩, ⟨0, none⟩, ⟨0, none⟩, ⟨0, none⟩, ⟨0, none⟩, ⟨0, none⟩, ⟨0, none⟩, ⟨0, none⟩, ⟨0, none⟩, ⟨0, none⟩, ⟨0, none⟩, ⟨0, none⟩, ⟨0, none⟩, ⟨0, none⟩, ⟨0, none⟩, ⟨0, none⟩, ⟨0, none⟩, ⟨0, none⟩, ⟨0, none⟩, ⟨0, none⟩, ⟨0, none⟩, ⟨0, none⟩, ⟨0, none⟩, ⟨0, none⟩, ⟨0, none⟩, ⟨0, none⟩, ⟨0, none⟩, ⟨0, none⟩, ⟨0, none⟩, ⟨0, none⟩, ⟨0, none⟩, ⟨0, none⟩, ⟨0, none⟩, ⟨0, none⟩, ⟨0, none⟩, ⟨0, none⟩, ⟨0, none⟩, ⟨0, none⟩, ⟨0, none⟩], List.replicate 44 0⟩
theorem f35_l0_eq (run : Run) (n : Nat) (k0 : Nat) (x0_1 : List AV) (x1_1 : Int) (x2_1 : Int) (x7_1 : List AV) : f35_l0 run n (k0 + 1) x0_1 x1_1 x2_1 x7_1 =
  bif ltI x2_1 x1_1 then
    (run 68 [.slice x0_1, .int x1_1]).bind fun r1 =>
    bif r1.fresh then
    nilV r1.outs (consV r1.vals fun v1 vs1 =>
    nilV vs1 ((run 67 [.slice v1.toSlice, .int x2_1]).bind fun r2 =>
    nilV r2.outs (consV r2.vals fun v2 vs2 =>
    consV vs2 fun v3 vs3 =>
    nilV vs3 (bif !v3.toBool then
    some ⟨[.slice []], [], f35_fresh⟩
  else
    bif Nat.ble ((x7_1.length + 1) * 8) 140737488355328 then
    f35_l0 run n k0 x0_1 v2.toInt x2_1 (x7_1 ++ [.int v2.toInt])
  else none))))
  else none
  else
    some ⟨[.slice x7_1], [], f35_fresh⟩ := by kernel_rfl
noncomputable def f35 (run : Run) (n : Nat) (a0_1 : List AV) (a1_1 : Int) (a2_1 : Int) : Option Res := evalK G run n f35_info.keep 0 f35_info.body (retE G f35_info) (f35_info.start [.slice a0_1, .int a1_1, .int a2_1])
theorem f35_eq (run : Run) (n : Nat) (a0_1 : List AV) (a1_1 : Int) (a2_1 : Int) : f35 run n a0_1 a1_1 a2_1 =
  bif ltI a2_1 0 then
    some ⟨[.slice []], [], f35_fresh⟩
  else
    bif ltI a1_1 a2_1 then
    some ⟨[.slice []], [], f35_fresh⟩
  else
    bif leI (a0_1.length : Int) a1_1 then
    some ⟨[.slice []], [], f35_fresh⟩
  else
    f35_l0 run n n a0_1 a1_1 a2_1 [.int a1_1] := by kernel_rfl
theorem f35_run (ext : Run) (n : Nat) (a0_1 : List AV) (a1_1 : Int) (a2_1 : Int) : runE G ext (n + 1) 35 [.slice a0_1, .int a1_1, .int a2_1] = f35 (runE G ext n) n a0_1 a1_1 a2_1 := runE_succ f35_at f35_in

end Go.Proofs.YteiahdlklppghaaGreat.Ev
