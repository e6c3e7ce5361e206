/- What the evaluator does with the functions, as programs over plain values: printed by gen.py, checked by the kernel. -/
import Derived.Test.YtogehijjhibdkaaEvFA
namespace Go.Proofs.Ytogehijjhibdkaa.Ev
open Go Go.RowKit
set_option maxRecDepth 100000


noncomputable def f32 (run : Run) (n : Nat) (a0_1 : Int) (a1_1 : Int) (a2_1 : Int) (a3_1 : Int) (a4_1 : Int) : Option Res := evalK G run n f32_info.keep 0 f32_info.body (retE G f32_info) (f32_info.start [.int a0_1, .int a1_1, .int a2_1, .int a3_1, .int a4_1])
theorem f32_eq (run : Run) (n : Nat) (a0_1 : Int) (a1_1 : Int) (a2_1 : Int) (a3_1 : Int) (a4_1 : Int) : f32 run n a0_1 a1_1 a2_1 a3_1 a4_1 =
  (run 18 [.int a3_1, .int a4_1]).bind fun r1 =>
    nilV r1.outs (consV r1.vals fun v1 vs1 =>
    nilV vs1 (bif !v1.toBool then
    some ⟨[.int 2], [], f32_fresh⟩
  else
    bif ltI a2_1 0 then
    some ⟨[.int 2], [], f32_fresh⟩
  else
    bif ltI 255 a2_1 then
    some ⟨[.int 2], [], f32_fresh⟩
  else
    bif ltI a0_1 65536 then
    bif ltI a1_1 65536 then
    bif leI a2_1 16 then
    bif leI 0 a2_1 then
    bif ltI (IntKind.wrap .i64 (IntKind.wrap .i64 a1_1 * IntKind.wrap .i64 (a4_1 - a3_1))) (IntKind.wrap .i64 (IntKind.wrap .i64 (IntKind.wrap .i64 a0_1 * a4_1) * 2 ^ (min (Int.toNat a2_1) 64))) then
    some ⟨[.int 1], [], f32_fresh⟩
  else
    bif ltI (IntKind.wrap .i64 (IntKind.wrap .i64 (IntKind.wrap .i64 a0_1 * a4_1) * 2 ^ (min (Int.toNat a2_1) 64))) (IntKind.wrap .i64 (IntKind.wrap .i64 a1_1 * IntKind.wrap .i64 (a4_1 - a3_1))) then
    some ⟨[.int (-1)], [], f32_fresh⟩
  else
    some ⟨[.int 0], [], f32_fresh⟩
  else none
  else
    (run 36 [.int (IntKind.wrap .u64 a0_1)]).bind fun r2 =>
    nilV r2.outs (consV r2.vals fun v2 vs2 =>
    nilV vs2 ((run 36 [.int (IntKind.wrap .u64 a4_1)]).bind fun r3 =>
    nilV r3.outs (consV r3.vals fun v3 vs3 =>
    nilV vs3 ((run 35 [.slice v2.toSlice, .slice v3.toSlice]).bind fun r4 =>
    nilV r4.outs (consV r4.vals fun v4 vs4 =>
    nilV vs4 ((run 37 [.int a2_1]).bind fun r5 =>
    nilV r5.outs (consV r5.vals fun v5 vs5 =>
    nilV vs5 ((run 35 [.slice v4.toSlice, .slice v5.toSlice]).bind fun r6 =>
    nilV r6.outs (consV r6.vals fun v6 vs6 =>
    nilV vs6 ((run 36 [.int (IntKind.wrap .u64 a1_1)]).bind fun r7 =>
    nilV r7.outs (consV r7.vals fun v7 vs7 =>
    nilV vs7 ((run 36 [.int (IntKind.wrap .u64 (IntKind.wrap .i64 (a4_1 - a3_1)))]).bind fun r8 =>
    nilV r8.outs (consV r8.vals fun v8 vs8 =>
    nilV vs8 ((run 35 [.slice v7.toSlice, .slice v8.toSlice]).bind fun r9 =>
    nilV r9.outs (consV r9.vals fun v9 vs9 =>
    nilV vs9 ((run 38 [.slice v6.toSlice, .slice v9.toSlice]).bind fun r10 =>
    nilV r10.outs (consV r10.vals fun v10 vs10 =>
    nilV vs10 (some ⟨[.int v10.toInt], [], f32_fresh⟩))))))))))))))))))
  else
    (run 36 [.int (IntKind.wrap .u64 a0_1)]).bind fun r11 =>
    nilV r11.outs (consV r11.vals fun v11 vs11 =>
    nilV vs11 ((run 36 [.int (IntKind.wrap .u64 a4_1)]).bind fun r12 =>
    nilV r12.outs (consV r12.vals fun v12 vs12 =>
    nilV vs12 ((run 35 [.slice v11.toSlice, .slice v12.toSlice]).bind fun r13 =>
    nilV r13.outs (consV r13.vals fun v13 vs13 =>
    nilV vs13 ((run 37 [.int a2_1]).bind fun r14 =>
    nilV r14.outs (consV r14.vals fun v14 vs14 =>
    nilV vs14 ((run 35 [.slice v13.toSlice, .slice v14.toSlice]).bind fun r15 =>
    nilV r15.outs (consV r15.vals fun v15 vs15 =>
    nilV vs15 ((run 36 [.int (IntKind.wrap .u64 a1_1)]).bind fun r16 =>
    nilV r16.outs (consV r16.vals fun v16 vs16 =>
    nilV vs16 ((run 36 [.int (IntKind.wrap .u64 (IntKind.wrap .i64 (a4_1 - a3_1)))]).bind fun r17 =>
    nilV r17.outs (consV r17.vals fun v17 vs17 =>
    nilV vs17 ((run 35 [.slice v16.toSlice, .slice v17.toSlice]).bind fun r18 =>
    nilV r18.outs (consV r18.vals fun v18 vs18 =>
    nilV vs18 ((run 38 [.slice v15.toSlice, .slice v18.toSlice]).bind fun r19 =>
    nilV r19.outs (consV r19.vals fun v19 vs19 =>
    nilV vs19 (some ⟨[.int v19.toInt], [], f32_fresh⟩))))))))))))))))))
  else
    (run 36 [.int (IntKind.wrap .u64 a0_1)]).bind fun r20 =>
    nilV r20.outs (consV r20.vals fun v20 vs20 =>
    nilV vs20 ((run 36 [.int (IntKind.wrap .u64 a4_1)]).bind fun r21 =>
    nilV r21.outs (consV r21.vals fun v21 vs21 =>
    nilV vs21 ((run 35 [.slice v20.toSlice, .slice v21.toSlice]).bind fun r22 =>
    nilV r22.outs (consV r22.vals fun v22 vs22 =>
    nilV vs22 ((run 37 [.int a2_1]).bind fun r23 =>
    nilV r23.outs (consV r23.vals fun v23 vs23 =>
    nilV vs23 ((run 35 [.slice v22.toSlice, .slice v23.toSlice]).bind fun r24 =>
    nilV r24.outs (consV r24.vals fun v24 vs24 =>
    nilV vs24 ((run 36 [.int (IntKind.wrap .u64 a1_1)]).bind fun r25 =>
    nilV r25.outs (consV r25.vals fun v25 vs25 =>
    nilV vs25 ((run 36 [.int (IntKind.wrap .u64 (IntKind.wrap .i64 (a4_1 - a3_1)))]).bind fun r26 =>
    nilV r26.outs (consV r26.vals fun v26 vs26 =>
    nilV vs26 ((run 35 [.slice v25.toSlice, .slice v26.toSlice]).bind fun r27 =>
    nilV r27.outs (consV r27.vals fun v27 vs27 =>
    nilV vs27 ((run 38 [.slice v24.toSlice, .slice v27.toSlice]).bind fun r28 =>
    nilV r28.outs (consV r28.vals fun v28 vs28 =>
    nilV vs28 (some ⟨[.int v28.toInt], [], f32_fresh⟩)))))))))))))))))))) := by kernel_rfl
theorem f32_run (ext : Run) (n : Nat) (a0_1 : Int) (a1_1 : Int) (a2_1 : Int) (a3_1 : Int) (a4_1 : Int) : runE G ext (n + 1) 32 [.int a0_1, .int a1_1, .int a2_1, .int a3_1, .int a4_1] = f32 (runE G ext n) n a0_1 a1_1 a2_1 a3_1 a4_1 := runE_succ f32_at f32_in

noncomputable def f31 (run : Run) (n : Nat) (a0_1 : Int) (a1_1 : Int) (a2_1 : Int) (a3_1 : Int) (a4_1 : Int) : Option Res := evalK G run n f31_info.keep 0 f31_info.body (retE G f31_info) (f31_info.start [.int a0_1, .int a1_1, .int a2_1, .int a3_1, .int a4_1])
theorem f31_eq (run : Run) (n : Nat) (a0_1 : Int) (a1_1 : Int) (a2_1 : Int) (a3_1 : Int) (a4_1 : Int) : f31 run n a0_1 a1_1 a2_1 a3_1 a4_1 =
  bif leI 0 a0_1 then
    bif leI a0_1 1024 then
    bif leI 0 a1_1 then
    bif leI a1_1 1024 then
    (run 32 [.int (IntKind.wrap .u32 a0_1), .int (IntKind.wrap .u32 a1_1), .int a2_1, .int a3_1, .int a4_1]).bind fun r1 =>
    nilV r1.outs (consV r1.vals fun v1 vs1 =>
    nilV vs1 (some ⟨[.bool (eqI v1.toInt 1)], [], f31_fresh⟩))
  else
    some ⟨[.bool false], [], f31_fresh⟩
  else
    some ⟨[.bool false], [], f31_fresh⟩
  else
    some ⟨[.bool false], [], f31_fresh⟩
  else
    some ⟨[.bool false], [], f31_fresh⟩ := by kernel_rfl
theorem f31_run (ext : Run) (n : Nat) (a0_1 : Int) (a1_1 : Int) (a2_1 : Int) (a3_1 : Int) (a4_1 : Int) : runE G ext (n + 1) 31 [.int a0_1, .int a1_1, .int a2_1, .int a3_1, .int a4_1] = f31 (runE G ext n) n a0_1 a1_1 a2_1 a3_1 a4_1 := runE_succ f31_at f31_in

noncomputable def f24_l0 (run : Run) (n : Nat) (k0 : Nat) (x0_1 : List AV) (x1_1 : Int) (x2_1 : Int) (x3_1 : Int) (x4_1 : Int) (x11_1 : Int) : Option Res :=
  iterK (evalK G run n f24_keep 0 (sub [1, 1, 1, 0, 1, 0, 0] f24_body)) f24_t0 f24_o0 (blockK 0 (seqK (evalK G run n f24_keep 0 (sub [1, 1, 1, 1] f24_body) (retE G f24_info)) (retE G f24_info))) k0
    ⟨[.val (.slice (.int .i64)) none (.slice x0_1), .val (.int .i64) none (.int x1_1), .val (.int .i64) none (.int x2_1), .val (.int .i64) none (.int x3_1), .val (.int .i64) none (.int x4_1), .any, .any, .any, .any, .any, .any, .val (.int .i64) none (.int x11_1), .any, .any, .any, .any, .any, .any, .any, .any, .any, .any, .any, .any, .any, .any, .any, .any, .any, .any, .any, .any, .any, .any, .any, .any, .any, .any, .any, .any, .any, .any, .any, .any, .any, .any, .any, .any, .any, .any, .any, .any], [⟨0, none⟩, ⟨0, none⟩, ⟨0, none⟩, ⟨0, none⟩, ⟨0, none⟩, ⟨0, none⟩, ⟨0, none⟩, ⟨0, none⟩, ⟨0, none⟩, ⟨0, none⟩, ⟨0, none⟩, ⟨0, none⟩, ⟨0, none⟩, ⟨0, none⟩, ⟨0, none⟩, ⟨0, none⟩, ⟨0, none⟩, ⟨0, none⟩, ⟨0, none⟩, ⟨0, none⟩, ⟨0, none⟩, ⟨0, none⟩, ⟨0, none⟩, ⟨0, none⟩, ⟨0, none⟩, ⟨0, none⟩, ⟨0, none⟩, ⟨0, none⟩, ⟨0, none⟩, ⟨0, none⟩, ⟨0, none⟩, ⟨0, none⟩, ⟨0, none⟩, ⟨0, none⟩, ⟨0, none⟩, ⟨0, none⟩, ⟨0, none⟩, ⟨0, none⟩, ⟨0, none⟩, ⟨0, none⟩, ⟨0, none⟩, ⟨0, none⟩, ⟨0, none⟩, ⟨0, none⟩, ⟨0, none⟩, ⟨0, none⟩, ⟨0, none⟩, ⟨0, none⟩, ⟨0, none⟩, ⟨0, none⟩, ⟨0, none⟩, ⟨0, none⟩], List.replicate 52 0⟩
theorem f24_l0_eq (run : Run) (n : Nat) (k0 : Nat) (x0_1 : List AV) (x1_1 : Int) (x2_1 : Int) (x3_1 : Int) (x4_1 : Int) (x11_1 : Int) : f24_l0 run n (k0 + 1) x0_1 x1_1 x2_1 x3_1 x4_1 x11_1 =
  bif ltI x11_1 (x0_1.length : Int) then
    bif boundsOk x11_1 (x0_1.length : Int) (x0_1.length : Int) (x0_1.length : Int) && true then
    (run 30 [.slice (List.drop (Int.toNat x11_1) (List.take (Int.toNat (x0_1.length : Int)) x0_1)), .int x1_1]).bind fun r1 =>
    nilV r1.outs (consV r1.vals fun v1 vs1 =>
    nilV vs1 (bif inR x11_1 x0_1.length then
    bif leI x1_1 ((nth x0_1 (Int.toNat x11_1)).toInt) then
    bif leI x2_1 v1.toInt then
    (run 31 [.int v1.toInt, .int ((List.drop (Int.toNat x11_1) (List.take (Int.toNat (x0_1.length : Int)) x0_1)).length : Int), .int x1_1, .int x3_1, .int x4_1]).bind fun r2 =>
    nilV r2.outs (consV r2.vals fun v2 vs2 =>
    nilV vs2 (bif !v2.toBool then
    some ⟨[.bool false], [], f24_fresh⟩
  else
    f24_l0 run n k0 x0_1 x1_1 x2_1 x3_1 x4_1 (IntKind.wrap .i64 (x11_1 + 1))))
  else
    f24_l0 run n k0 x0_1 x1_1 x2_1 x3_1 x4_1 (IntKind.wrap .i64 (x11_1 + 1))
  else
    f24_l0 run n k0 x0_1 x1_1 x2_1 x3_1 x4_1 (IntKind.wrap .i64 (x11_1 + 1))
  else none))
  else none
  else
    some ⟨[.bool true], [], f24_fresh⟩ := by kernel_rfl
noncomputable def f24 (run : Run) (n : Nat) (a0_1 : List AV) (a1_1 : Int) (a2_1 : Int) (a3_1 : Int) (a4_1 : Int) : Option Res := evalK G run n f24_info.keep 0 f24_info.body (retE G f24_info) (f24_info.start [.slice a0_1, .int a1_1, .int a2_1, .int a3_1, .int a4_1])
theorem f24_eq (run : Run) (n : Nat) (a0_1 : List AV) (a1_1 : Int) (a2_1 : Int) (a3_1 : Int) (a4_1 : Int) : f24 run n a0_1 a1_1 a2_1 a3_1 a4_1 =
  bif ltI 1024 (a0_1.length : Int) then
    some ⟨[.bool false], [], f24_fresh⟩
  else
    bif ltI a2_1 1 then
    f24_l0 run n n a0_1 a1_1 1 a3_1 a4_1 0
  else
    f24_l0 run n n a0_1 a1_1 a2_1 a3_1 a4_1 0 := by kernel_rfl
theorem f24_run (ext : Run) (n : Nat) (a0_1 : List AV) (a1_1 : Int) (a2_1 : Int) (a3_1 : Int) (a4_1 : Int) : runE G ext (n + 1) 24 [.slice a0_1, .int a1_1, .int a2_1, .int a3_1, .int a4_1] = f24 (runE G ext n) n a0_1 a1_1 a2_1 a3_1 a4_1 := runE_succ f24_at f24_in

noncomputable def f25_l4 (run : Run) (n : Nat) (k0 : Nat) (k2 : Nat) (k4 : Nat) (x0_3 : List AV) (x1_3 : Int) (x2_3 : Int) (x3_3 : Int) (x4_3 : Int) (x11_3 : Int) (x12_2 : Int) (x13_1 : Int) : Option Res :=
  iterK (evalK G run n f25_keep 4 (sub [1, 1, 1, 0, 1, 0, 0, 1, 0, 0, 1, 0, 0, 1, 0, 0, 1, 0, 0] f25_body)) f25_t4 f25_o4 (blockK 4 (blockK 3 (seqK (evalK G run n f25_keep 2 (sub [1, 1, 1, 0, 1, 0, 0, 1, 0, 0, 1, 0, 0, 1, 1] f25_body) (seqK (fun t => iterK (evalK G run n f25_keep 2 (sub [1, 1, 1, 0, 1, 0, 0, 1, 0, 0, 1, 0, 0] f25_body)) f25_t2 f25_o2 (blockK 2 (blockK 1 (seqK (evalK G run n f25_keep 0 (sub [1, 1, 1, 0, 1, 0, 0, 1, 1] f25_body) (seqK (fun t => iterK (evalK G run n f25_keep 0 (sub [1, 1, 1, 0, 1, 0, 0] f25_body)) f25_t0 f25_o0 (blockK 0 (seqK (evalK G run n f25_keep 0 (sub [1, 1, 1, 1] f25_body) (retE G f25_info)) (retE G f25_info))) k0 (t.clear f25_t0 f25_o0)) (blockK 0 (seqK (evalK G run n f25_keep 0 (sub [1, 1, 1, 1] f25_body) (retE G f25_info)) (retE G f25_info))))) (seqK (fun t => iterK (evalK G run n f25_keep 0 (sub [1, 1, 1, 0, 1, 0, 0] f25_body)) f25_t0 f25_o0 (blockK 0 (seqK (evalK G run n f25_keep 0 (sub [1, 1, 1, 1] f25_body) (retE G f25_info)) (retE G f25_info))) k0 (t.clear f25_t0 f25_o0)) (blockK 0 (seqK (evalK G run n f25_keep 0 (sub [1, 1, 1, 1] f25_body) (retE G f25_info)) (retE G f25_info))))))) k2 (t.clear f25_t2 f25_o2)) (blockK 2 (blockK 1 (seqK (evalK G run n f25_keep 0 (sub [1, 1, 1, 0, 1, 0, 0, 1, 1] f25_body) (seqK (fun t => iterK (evalK G run n f25_keep 0 (sub [1, 1, 1, 0, 1, 0, 0] f25_body)) f25_t0 f25_o0 (blockK 0 (seqK (evalK G run n f25_keep 0 (sub [1, 1, 1, 1] f25_body) (retE G f25_info)) (retE G f25_info))) k0 (t.clear f25_t0 f25_o0)) (blockK 0 (seqK (evalK G run n f25_keep 0 (sub [1, 1, 1, 1] f25_body) (retE G f25_info)) (retE G f25_info))))) (seqK (fun t => iterK (evalK G run n f25_keep 0 (sub [1, 1, 1, 0, 1, 0, 0] f25_body)) f25_t0 f25_o0 (blockK 0 (seqK (evalK G run n f25_keep 0 (sub [1, 1, 1, 1] f25_body) (retE G f25_info)) (retE G f25_info))) k0 (t.clear f25_t0 f25_o0)) (blockK 0 (seqK (evalK G run n f25_keep 0 (sub [1, 1, 1, 1] f25_body) (retE G f25_info)) (retE G f25_info))))))))) (seqK (fun t => iterK (evalK G run n f25_keep 2 (sub [1, 1, 1, 0, 1, 0, 0, 1, 0, 0, 1, 0, 0] f25_body)) f25_t2 f25_o2 (blockK 2 (blockK 1 (seqK (evalK G run n f25_keep 0 (sub [1, 1, 1, 0, 1, 0, 0, 1, 1] f25_body) (seqK (fun t => iterK (evalK G run n f25_keep 0 (sub [1, 1, 1, 0, 1, 0, 0] f25_body)) f25_t0 f25_o0 (blockK 0 (seqK (evalK G run n f25_keep 0 (sub [1, 1, 1, 1] f25_body) (retE G f25_info)) (retE G f25_info))) k0 (t.clear f25_t0 f25_o0)) (blockK 0 (seqK (evalK G run n f25_keep 0 (sub [1, 1, 1, 1] f25_body) (retE G f25_info)) (retE G f25_info))))) (seqK (fun t => iterK (evalK G run n f25_keep 0 (sub [1, 1, 1, 0, 1, 0, 0] f25_body)) f25_t0 f25_o0 (blockK 0 (seqK (evalK G run n f25_keep 0 (sub [1, 1, 1, 1] f25_body) (retE G f25_info)) (retE G f25_info))) k0 (t.clear f25_t0 f25_o0)) (blockK 0 (seqK (evalK G run n f25_keep 0 (sub [1, 1, 1, 1] f25_body) (retE G f25_info)) (retE G f25_info))))))) k2 (t.clear f25_t2 f25_o2)) (blockK 2 (blockK 1 (seqK (evalK G run n f25_keep 0 (sub [1, 1, 1, 0, 1, 0, 0, 1, 1] f25_body) (seqK (fun t => iterK (evalK G run n f25_keep 0 (sub [1, 1, 1, 0, 1, 0, 0] f25_body)) f25_t0 f25_o0 (blockK 0 (seqK (evalK G run n f25_keep 0 (sub [1, 1, 1, 1] f25_body) (retE G f25_info)) (retE G f25_info))) k0 (t.clear f25_t0 f25_o0)) (blockK 0 (seqK (evalK G run n f25_keep 0 (sub [1, 1, 1, 1] f25_body) (retE G f25_info)) (retE G f25_info))))) (seqK (fun t => iterK (evalK G run n f25_keep 0 (sub [1, 1, 1, 0, 1, 0, 0] f25_body)) f25_t0 f25_o0 (blockK 0 (seqK (evalK G run n f25_keep 0 (sub [1, 1, 1, 1] f25_body) (retE G f25_info)) (retE G f25_info))) k0 (t.clear f25_t0 f25_o0)) (blockK 0 (seqK (evalK G run n f25_keep 0 (sub [1, 1, 1, 1] f25_body) (retE G f25_info)) (retE G f25_info))))))))))) k4
    ⟨[.val (.slice (.int .i64)) none (.slice x0_3), .val (.int .i64) none (.int x1_3), .val (.int .i64) none (.int x2_3), .val (.int .i64) none (.int x3_3), .val (.int .i64) none (.int x4_3), .any, .any, .any, .any, .any, .any, .val (.int .i64) none (.int x11_3), .val (.int .i64) none (.int x12_2), .val (.int .i64) none (.int x13_1), .any, .any, .any, .any, .any, .any, .any, .any, .any, .any, .any, .any, .any, .any, .any, .any, .any, .any, .any, .any, .any, .any, .any, .any, .any, .any, .any, .any, .any, .any, .any, .any, .any, .any, .any, .any, .any, .any, .any, .any, .any, .any, .any, .any, .any, .any, .any, .any, .any, .any, .any, .any, .any, .any, .any, .any, .any, .any, .any, .any], [⟨0, none⟩, ⟨0, none⟩, ⟨0, none⟩, ⟨0, none⟩, ⟨0, none⟩, ⟨0, none⟩, ⟨0, none⟩, ⟨0, none⟩, ⟨0, none⟩, ⟨0, none⟩, ⟨0, none⟩, ⟨0, none⟩, ⟨0, none⟩, ⟨0, none⟩, ⟨0, none⟩, ⟨0, none⟩, ⟨0, none⟩, ⟨0, none⟩, ⟨0, none⟩, ⟨0, none⟩, ⟨0, none⟩, ⟨0, none⟩, ⟨0, none⟩, ⟨0, none⟩, ⟨0, none⟩, ⟨0, none⟩, ⟨0, none⟩, ⟨0, none⟩, ⟨0, none⟩, ⟨0, none⟩, ⟨0, none⟩, ⟨0, none⟩, ⟨0, none⟩, ⟨0, none⟩, ⟨0, none⟩, ⟨0, none⟩, ⟨0, none⟩, ⟨0, none⟩, ⟨0, none⟩, ⟨0, none⟩, ⟨0, none⟩, ⟨0, none⟩, ⟨0, none⟩, ⟨0, none⟩, ⟨0, none⟩, ⟨0, none⟩, ⟨0, none⟩, ⟨0, none⟩, ⟨0, none⟩, ⟨0, none⟩, ⟨0, none⟩, ⟨0, none⟩, ⟨0, none⟩, ⟨0, none⟩, ⟨0, none⟩, ⟨0, none⟩, ⟨0, none⟩, ⟨0, none⟩, ⟨0, none⟩, ⟨0, none⟩, ⟨0, none⟩, ⟨0, none⟩, ⟨0, none⟩, ⟨0, none⟩, ⟨0, none⟩, ⟨0, none⟩, ⟨0, none⟩, ⟨0, none⟩, ⟨0, none⟩, ⟨0, none⟩, ⟨0, none⟩, ⟨0, none⟩, ⟨0, none⟩, ⟨0, none⟩], List.replicate 74 0⟩
noncomputable def f25_l2 (run : Run) (n : Nat) (k0 : Nat) (k2 : Nat) (x0_2 : List AV) (x1_2 : Int) (x2_2 : Int) (x3_2 : Int) (x4_2 : Int) (x11_2 : Int) (x12_1 : Int) : Option Res :=
  iterK (evalK G run n f25_keep 2 (sub [1, 1, 1, 0, 1, 0, 0, 1, 0, 0, 1, 0, 0] f25_body)) f25_t2 f25_o2 (blockK 2 (blockK 1 (seqK (evalK G run n f25_keep 0 (sub [1, 1, 1, 0, 1, 0, 0, 1, 1] f25_body) (seqK (fun t => iterK (evalK G run n f25_keep 0 (sub [1, 1, 1, 0, 1, 0, 0] f25_body)) f25_t0 f25_o0 (blockK 0 (seqK (evalK G run n f25_keep 0 (sub [1, 1, 1, 1] f25_body) (retE G f25_info)) (retE G f25_info))) k0 (t.clear f25_t0 f25_o0)) (blockK 0 (seqK (evalK G run n f25_keep 0 (sub [1, 1, 1, 1] f25_body) (retE G f25_info)) (retE G f25_info))))) (seqK (fun t => iterK (evalK G run n f25_keep 0 (sub [1, 1, 1, 0, 1, 0, 0] f25_body)) f25_t0 f25_o0 (blockK 0 (seqK (evalK G run n f25_keep 0 (sub [1, 1, 1, 1] f25_body) (retE G f25_info)) (retE G f25_info))) k0 (t.clear f25_t0 f25_o0)) (blockK 0 (seqK (evalK G run n f25_keep 0 (sub [1, 1, 1, 1] f25_body) (retE G f25_info)) (retE G f25_info))))))) k2
    ⟨[.val (.slice (.int .i64)) none (.slice x0_2), .val (.int .i64) none (.int x1_2), .val (.int .i64) none (.int x2_2), .val (.int .i64) none (.int x3_2), .val (.int .i64) none (.int x4_2), .any, .any, .any, .any, .any, .any, .val (.int .i64) none (.int x11_2), .val (.int .i64) none (.int x12_1), .any, .any, .any, .any, .any, .any, .any, .any, .any, .any, .any, .any, .any, .any, .any, .any, .any, .any, .any, .any, .any, .any, .any, .any, .any, .any, .any, .any, .any, .any, .any, .any, .any, .any, .any, .any, .any, .any, .any, .any, .any, .any, .any, .any, .any, .any, .any, .any, .any, .any, .any, .any, .any, .any, .any, .any, .any, .any, .any, .any, .any], [⟨0, none⟩, ⟨0, none⟩, ⟨0, none⟩, ⟨0, none⟩, ⟨0, none⟩, ⟨0, none⟩, ⟨0, none⟩, ⟨0, none⟩, ⟨0, none⟩, ⟨0, none⟩, ⟨0, none⟩, ⟨0, none⟩, ⟨0, none⟩, ⟨0, none⟩, ⟨0, none⟩, ⟨0, none⟩, ⟨0, none⟩, ⟨0, none⟩, ⟨0, none⟩, ⟨0, none⟩, ⟨0, none⟩, ⟨0, none⟩, ⟨0, none⟩, ⟨0, none⟩, ⟨0, none⟩, ⟨0, none⟩, ⟨0, none⟩, ⟨0, none⟩, ⟨0, none⟩, ⟨0, none⟩, ⟨0, none⟩, ⟨0, none⟩, ⟨0, none⟩, ⟨0, none⟩, ⟨0, none⟩, ⟨0, none⟩, ⟨0, none⟩, ⟨0, none⟩, ⟨0, none⟩, ⟨0, none⟩, ⟨0, none⟩, ⟨0, none⟩, ⟨0, none⟩, ⟨0, none⟩, ⟨0, none⟩, ⟨0, none⟩, ⟨0, none⟩, ⟨0, none⟩, ⟨0, none⟩, ⟨0, none⟩, ⟨0, none⟩, ⟨0, none⟩, ⟨0, none⟩, ⟨0, none⟩, ⟨0, none⟩, ⟨0, none⟩, ⟨0, none⟩, ⟨0, none⟩, ⟨0, none⟩, ⟨0, none⟩, ⟨0, none⟩, ⟨0, none⟩, ⟨0, none⟩, ⟨0, none⟩, ⟨0, none⟩, ⟨0, none⟩, ⟨0, none⟩, ⟨0, none⟩, ⟨0, none⟩, ⟨0, none⟩, ⟨0, none⟩, ⟨0, none⟩, ⟨0, none⟩, ⟨0, none⟩], List.replicate 74 0⟩
noncomputable def f25_l0 (run : Run) (n : Nat) (k0 : Nat) (x0_1 : List AV) (x1_1 : Int) (x2_1 : Int) (x3_1 : Int) (x4_1 : Int) (x11_1 : Int) : Option Res :=
  iterK (evalK G run n f25_keep 0 (sub [1, 1, 1, 0, 1, 0, 0] f25_body)) f25_t0 f25_o0 (blockK 0 (seqK (evalK G run n f25_keep 0 (sub [1, 1, 1, 1] f25_body) (retE G f25_info)) (retE G f25_info))) k0
    ⟨[.val (.slice (.int .i64)) none (.slice x0_1), .val (.int .i64) none (.int x1_1), .val (.int .i64) none (.int x2_1), .val (.int .i64) none (.int x3_1), .val (.int .i64) none (.int x4_1), .any, .any, .any, .any, .any, .any, .val (.int .i64) none (.int x11_1), .any, .any, .any, .any, .any, .any, .any, .any, .any, .any, .any, .any, .any, .any, .any, .any, .any, .any, .any, .any, .any, .any, .any, .any, .any, .any, .any, .any, .any, .any, .any, .any, .any, .any, .any, .any, .any, .any, .any, .any, .any, .any, .any, .any, .any, .any, .any, .any, .any, .any, .any, .any, .any, .any, .any, .any, .any, .any, .any, .any, .any, .any], [⟨0, none⟩, ⟨0, none⟩, ⟨0, none⟩, ⟨0, none⟩, ⟨0, none⟩, ⟨0, none⟩, ⟨0, none⟩, ⟨0, none⟩, ⟨0, none⟩, ⟨0, none⟩, ⟨0, none⟩, ⟨0, none⟩, ⟨0, none⟩, ⟨0, none⟩, ⟨0, none⟩, ⟨0, none⟩, ⟨0, none⟩, ⟨0, none⟩, ⟨0, none⟩, ⟨0, none⟩, ⟨0, none⟩, ⟨0, none⟩, ⟨0, none⟩, ⟨0, none⟩, ⟨0, none⟩, ⟨0, none⟩, ⟨0, none⟩, ⟨0, none⟩, ⟨0, none⟩, ⟨0, none⟩, ⟨0, none⟩, ⟨0, none⟩, ⟨0, none⟩, ⟨0, none⟩, ⟨0, none⟩, ⟨0, none⟩, ⟨0, none⟩, ⟨0, none⟩, ⟨0, none⟩, ⟨0, none⟩, ⟨0, none⟩, ⟨0, none⟩, ⟨0, none⟩, ⟨0, none⟩, ⟨0, none⟩, ⟨0, none⟩, ⟨0, none⟩, ⟨0, none⟩, ⟨0, none⟩, ⟨0, none⟩, ⟨0, none⟩, ⟨0, none⟩, ⟨0, none⟩, ⟨0, none⟩, ⟨0, none⟩, ⟨0, none⟩, ⟨0, none⟩, ⟨0, none⟩, ⟨0, none⟩, ⟨0, none⟩, ⟨0, none⟩, ⟨0, none⟩, ⟨0, none⟩, ⟨0, none⟩, ⟨0, none⟩, ⟨0, none⟩, ⟨0, none⟩, ⟨0, none⟩, ⟨0, none⟩, ⟨0, none⟩, ⟨0, none⟩, ⟨0, none⟩, ⟨0, none⟩, ⟨0, none⟩], List.replicate 74 0⟩
theorem f25_l4_eq (run : Run) (n : Nat) (k0 : Nat) (k2 : Nat) (k4 : Nat) (x0_3 : List AV) (x1_3 : Int) (x2_3 : Int) (x3_3 : Int) (x4_3 : Int) (x11_3 : Int) (x12_2 : Int) (x13_1 : Int) : f25_l4 run n k0 k2 (k4 + 1) x0_3 x1_3 x2_3 x3_3 x4_3 x11_3 x12_2 x13_1 =
  bif leI x13_1 (x0_3.length : Int) then
    bif boundsOk x12_2 x13_1 (x0_3.length : Int) (x0_3.length : Int) && true then
    (run 30 [.slice (List.drop (Int.toNat x12_2) (List.take (Int.toNat x13_1) x0_3)), .int x11_3]).bind fun r1 =>
    nilV r1.outs (consV r1.vals fun v1 vs1 =>
    nilV vs1 (bif ltI v1.toInt x2_3 then
    f25_l4 run n k0 k2 k4 x0_3 x1_3 x2_3 x3_3 x4_3 x11_3 x12_2 (IntKind.wrap .i64 (x13_1 + 1))
  else
    bif boundsOk x12_2 x13_1 (x0_3.length : Int) (x0_3.length : Int) && true then
    (run 30 [.slice (List.drop (Int.toNat x12_2) (List.take (Int.toNat x13_1) x0_3)), .int x1_3]).bind fun r2 =>
    nilV r2.outs (consV r2.vals fun v2 vs2 =>
    nilV vs2 ((run 32 [.int (IntKind.wrap .u32 v2.toInt), .int (IntKind.wrap .u32 v1.toInt), .int (IntKind.wrap .i64 (x1_3 - x11_3)), .int x3_3, .int x4_3]).bind fun r3 =>
    nilV r3.outs (consV r3.vals fun v3 vs3 =>
    nilV vs3 (bif !(eqI v3.toInt 0) then
    bif !(eqI v3.toInt 1) then
    some ⟨[.bool false], [], f25_fresh⟩
  else
    f25_l4 run n k0 k2 k4 x0_3 x1_3 x2_3 x3_3 x4_3 x11_3 x12_2 (IntKind.wrap .i64 (x13_1 + 1))
  else
    f25_l4 run n k0 k2 k4 x0_3 x1_3 x2_3 x3_3 x4_3 x11_3 x12_2 (IntKind.wrap .i64 (x13_1 + 1))))))
  else none))
  else none
  else
    f25_l2 run n k0 k2 x0_3 x1_3 x2_3 x3_3 x4_3 x11_3 (IntKind.wrap .i64 (x12_2 + 1)) := by kernel_rfl
theorem f25_l2_eq (run : Run) (n : Nat) (k0 : Nat) (k2 : Nat) (x0_2 : List AV) (x1_2 : Int) (x2_2 : Int) (x3_2 : Int) (x4_2 : Int) (x11_2 : Int) (x12_1 : Int) : f25_l2 run n k0 (k2 + 1) x0_2 x1_2 x2_2 x3_2 x4_2 x11_2 x12_1 =
  bif ltI x12_1 (x0_2.length : Int) then
    f25_l4 run n k0 k2 n x0_2 x1_2 x2_2 x3_2 x4_2 x11_2 x12_1 (IntKind.wrap .i64 (x12_1 + 1))
  else
    f25_l0 run n k0 x0_2 x1_2 x2_2 x3_2 x4_2 (IntKind.wrap .i64 (x11_2 + 1)) := by kernel_rfl
theorem f25_l0_eq (run : Run) (n : Nat) (k0 : Nat) (x0_1 : List AV) (x1_1 : Int) (x2_1 : Int) (x3_1 : Int) (x4_1 : Int) (x11_1 : Int) : f25_l0 run n (k0 + 1) x0_1 x1_1 x2_1 x3_1 x4_1 x11_1 =
  bif ltI x11_1 x1_1 then
    f25_l2 run n k0 n x0_1 x1_1 x2_1 x3_1 x4_1 x11_1 0
  else
    some ⟨[.bool true], [], f25_fresh⟩ := by kernel_rfl
noncomputable def f25 (run : Run) (n : Nat) (a0_1 : List AV) (a1_1 : Int) (a2_1 : Int) (a3_1 : Int) (a4_1 : Int) : Option Res := evalK G run n f25_info.keep 0 f25_info.body (retE G f25_info) (f25_info.start [.slice a0_1, .int a1_1, .int a2_1, .int a3_1, .int a4_1])
theorem f25_eq (run : Run) (n : Nat) (a0_1 : List AV) (a1_1 : Int) (a2_1 : Int) (a3_1 : Int) (a4_1 : Int) : f25 run n a0_1 a1_1 a2_1 a3_1 a4_1 =
  bif ltI 1024 (a0_1.length : Int) then
    some ⟨[.bool false], [], f25_fresh⟩
  else
    bif ltI 255 a1_1 then
    some ⟨[.bool false], [], f25_fresh⟩
  else
    bif ltI a2_1 1 then
    f25_l0 run n n a0_1 a1_1 1 a3_1 a4_1 0
  else
    f25_l0 run n n a0_1 a1_1 a2_1 a3_1 a4_1 0 := by kernel_rfl
theorem f25_run (ext : Run) (n : Nat) (a0_1 : List AV) (a1_1 : Int) (a2_1 : Int) (a3_1 : Int) (a4_1 : Int) : runE G ext (n + 1) 25 [.slice a0_1, .int a1_1, .int a2_1, .int a3_1, .int a4_1] = f25 (runE G ext n) n a0_1 a1_1 a2_1 a3_1 a4_1 := runE_succ f25_at f25_in

noncomputable def f20 (run : Run) (n : Nat) (a0_1 : List AV) (a1_1 : Int) (a2_1 : Int) (a3_1 : Int) (a4_1 : Int) : Option Res := evalK G run n f20_info.keep 0 f20_info.body (retE G f20_info) (f20_info.start [.slice a0_1, .int a1_1, .int a2_1, .int a3_1, .int a4_1])
theorem f20_eq (run : Run) (n : Nat) (a0_1 : List AV) (a1_1 : Int) (a2_1 : Int) (a3_1 : Int) (a4_1 : Int) : f20 run n a0_1 a1_1 a2_1 a3_1 a4_1 =
  (run 24 [.slice a0_1, .int a1_1, .int a2_1, .int a3_1, .int a4_1]).bind fun r1 =>
    nilV r1.outs (consV r1.vals fun v1 vs1 =>
    nilV vs1 (bif v1.toBool then
    (run 25 [.slice a0_1, .int a1_1, .int a2_1, .int a3_1, .int a4_1]).bind fun r2 =>
    nilV r2.outs (consV r2.vals fun v2 vs2 =>
    nilV vs2 (some ⟨[.bool v2.toBool], [], f20_fresh⟩))
  else
    some ⟨[.bool false], [], f20_fresh⟩)) := by kernel_rfl
theorem f20_run (ext : Run) (n : Nat) (a0_1 : List AV) (a1_1 : Int) (a2_1 : Int) (a3_1 : Int) (a4_1 : Int) : runE G ext (n + 1) 20 [.slice a0_1, .int a1_1, .int a2_1, .int a3_1, .int a4_1] = f20 (runE G ext n) n a0_1 a1_1 a2_1 a3_1 a4_1 := runE_succ f20_at f20_in

noncomputable def f13 (run : Run) (n : Nat) (a0_1 : List AV) (a1_1 : Int) (a2_1 : Int) (a3_1 : Int) (a4_1 : Int) (a5_1 : Int) : Option Res := evalK G run n f13_info.keep 0 f13_info.body (retE G f13_info) (f13_info.start [.slice a0_1, .int a1_1, .int a2_1, .int a3_1, .int a4_1, .int a5_1])
theorem f13_eq (run : Run) (n : Nat) (a0_1 : List AV) (a1_1 : Int) (a2_1 : Int) (a3_1 : Int) (a4_1 : Int) (a5_1 : Int) : f13 run n a0_1 a1_1 a2_1 a3_1 a4_1 a5_1 =
  (run 16 [.slice a0_1, .int a1_1, .int a2_1]).bind fun r1 =>
    bif r1.fresh then
    nilV r1.outs (consV r1.vals fun v1 vs1 =>
    nilV vs1 (bif ltI a3_1 1 then
    some ⟨[.int a1_1], [], f13_fresh⟩
  else
    bif ltI a1_1 0 then
    some ⟨[.int a1_1], [], f13_fresh⟩
  else
    bif leI (v1.toSlice.length : Int) a3_1 then
    some ⟨[.int a1_1], [], f13_fresh⟩
  else
    bif boundsOk a1_1 (a0_1.length : Int) (a0_1.length : Int) (a0_1.length : Int) && true then
    (run 20 [.slice (List.drop (Int.toNat a1_1) (List.take (Int.toNat (a0_1.length : Int)) a0_1)), .int a2_1, .int a3_1, .int a4_1, .int a5_1]).bind fun r2 =>
    nilV r2.outs (consV r2.vals fun v2 vs2 =>
    nilV vs2 (bif !v2.toBool then
    some ⟨[.int a1_1], [], f13_fresh⟩
  else
    bif inR (IntKind.wrap .i64 ((v1.toSlice.length : Int) - a3_1)) v1.toSlice.length then
    some ⟨[.int ((nth v1.toSlice (Int.toNat (IntKind.wrap .i64 ((v1.toSlice.length : Int) - a3_1)))).toInt)], [], f13_fresh⟩
  else none))
  else none))
  else none := by kernel_rfl
theorem f13_run (ext : Run) (n : Nat) (a0_1 : List AV) (a1_1 : Int) (a2_1 : Int) (a3_1 : Int) (a4_1 : Int) (a5_1 : Int) : runE G ext (n + 1) 13 [.slice a0_1, .int a1_1, .int a2_1, .int a3_1, .int a4_1, .int a5_1] = f13 (runE G ext n) n a0_1 a1_1 a2_1 a3_1 a4_1 a5_1 := runE_succ f13_at f13_in

noncomputable def f9_l4 (run : Run) (n : Nat) (_k0 : Nat) (k2 : Nat) (k4 : Nat) (x1_5 : Int) (x3_5 : Int) (x4_5 : Int) (x11_5 : List AV) (x12_5 : Int) (m2 : Nat) (x15_2 : Int) (x16_1 : List AV) (x17_1 : Int) (o63_2 : List AV) : Option Res :=
  iterK (evalK G run n f9_keep 4 (sub [1, 1, 1, 1, 1, 1, 1, 1, 0, 0, 0, 1, 0, 1, 0, 1, 0, 0] f9_body)) f9_t4 f9_o4 (blockK 4 (seqK (evalK G run n f9_keep 3 (sub [1, 1, 1, 1, 1, 1, 1, 1, 0, 0, 0, 1, 0, 1, 1] f9_body) (blockK 3 (seqK (fun t => iterK (evalK G run n f9_keep 2 (sub [1, 1, 1, 1, 1, 1, 1, 1, 0, 0, 0] f9_body)) f9_t2 f9_o2 (blockK 2 (seqK (evalK G run n f9_keep 0 (sub [1, 1, 1, 1, 1, 1, 1, 1, 1] f9_body) (retE G f9_info)) (retE G f9_info))) k2 (t.clear f9_t2 f9_o2)) (blockK 2 (seqK (evalK G run n f9_keep 0 (sub [1, 1, 1, 1, 1, 1, 1, 1, 1] f9_body) (retE G f9_info)) (retE G f9_info)))))) (blockK 3 (seqK (fun t => iterK (evalK G run n f9_keep 2 (sub [1, 1, 1, 1, 1, 1, 1, 1, 0, 0, 0] f9_body)) f9_t2 f9_o2 (blockK 2 (seqK (evalK G run n f9_keep 0 (sub [1, 1, 1, 1, 1, 1, 1, 1, 1] f9_body) (retE G f9_info)) (retE G f9_info))) k2 (t.clear f9_t2 f9_o2)) (blockK 2 (seqK (evalK G run n f9_keep 0 (sub [1, 1, 1, 1, 1, 1, 1, 1, 1] f9_body) (retE G f9_info)) (retE G f9_info))))))) k4
    ⟨[.any, .val (.int .i64) none (.int x1_5), .any, .val (.int .i64) none (.int x3_5), .val (.int .i64) none (.int x4_5), .any, .any, .any, .any, .any, .any, .val (.slice (.int .i64)) none (.slice x11_5), .val (.int .i64) none (.int x12_5), .any, .ref ⟨(.arr m2 .bool), 63, 1, []⟩ 0 m2, .val (.int .i64) none (.int x15_2), .val (.slice (.int .i64)) (some (16, 0)) (.slice x16_1), .val (.int .i64) none (.int x17_1), .any, .any, .any, .any, .any, .any, .any, .any, .any, .any, .any, .any, .any, .any, .any, .any, .any, .any, .any, .any, .any, .any, .any, .any, .any, .any, .any, .any, .any, .any, .any, .any, .any, .any, .any, .any, .any, .any, .any, .any, .any, .any, .any, .any, .any, .any, .any, .any, .any, .any, .any, .any, .any, .any, .any, .any, .any, .any, .any, .any, .any, .any, .any, .any, .any, .any, .any, .any, .any, .any, .any, .any, .any, .any, .any, .any, .any, .any, .any, .any, .any, .any, .any, .any, .any, .any, .any, .any], [⟨0, none⟩, ⟨0, none⟩, ⟨0, none⟩, ⟨0, none⟩, ⟨0, none⟩, ⟨0, none⟩, ⟨0, none⟩, ⟨0, none⟩, ⟨0, none⟩, ⟨0, none⟩, ⟨0, none⟩, ⟨0, none⟩, ⟨0, none⟩, ⟨0, none⟩, ⟨0, none⟩, ⟨0, none⟩, ⟨0, none⟩, ⟨0, none⟩, ⟨0, none⟩, ⟨0, none⟩, ⟨0, none⟩, ⟨0, none⟩, ⟨0, none⟩, ⟨0, none⟩, ⟨0, none⟩, ⟨0, none⟩, ⟨0, none⟩, ⟨0, none⟩, ⟨0, none⟩, ⟨0, none⟩, ⟨0, none⟩, ⟨0, none⟩, ⟨0, none⟩, ⟨0, none⟩, ⟨0, none⟩, ⟨0, none⟩, ⟨0, none⟩, ⟨0, none⟩, ⟨0, none⟩, ⟨0, none⟩, ⟨0, none⟩, ⟨0, none⟩, ⟨0, none⟩, ⟨0, none⟩, ⟨0, none⟩, ⟨0, none⟩, ⟨0, none⟩, ⟨0, none⟩, ⟨0, none⟩, ⟨0, none⟩, ⟨0, none⟩, ⟨0, none⟩, ⟨0, none⟩, ⟨0, none⟩, ⟨0, none⟩, ⟨0, none⟩, ⟨0, none⟩, ⟨0, none⟩, ⟨0, none⟩, ⟨0, none⟩, ⟨0, none⟩, ⟨0, none⟩, ⟨0, none⟩, ⟨1, some ⟨(.arr m2 .bool), .agg o63_2⟩⟩, ⟨0, none⟩, ⟨0, none⟩, ⟨0, none⟩, ⟨0, none⟩, ⟨0, none⟩, ⟨0, none⟩, ⟨0, none⟩, ⟨0, none⟩, ⟨0, none⟩, ⟨0, none⟩, ⟨0, none⟩, ⟨0, none⟩, ⟨0, none⟩, ⟨0, none⟩, ⟨0, none⟩, ⟨0, none⟩, ⟨0, none⟩, ⟨0, none⟩, ⟨0, none⟩, ⟨0, none⟩, ⟨0, none⟩, ⟨0, none⟩, ⟨0, none⟩, ⟨0, none⟩, ⟨0, none⟩, ⟨0, none⟩, ⟨0, none⟩, ⟨0, none⟩, ⟨0, none⟩, ⟨0, none⟩, ⟨0, none⟩, ⟨0, none⟩, ⟨0, none⟩, ⟨0, none⟩, ⟨0, none⟩, ⟨0, none⟩, ⟨0, none⟩, ⟨0, none⟩, ⟨0, none⟩, ⟨0, none⟩, ⟨0, none⟩, ⟨0, none⟩], List.replicate 106 0⟩
noncomputable def f9_l6 (run : Run) (n : Nat) (_k0 : Nat) (_k2 : Nat) (k6 : Nat) (m5 : Nat) (x18_1 : List AV) (x19_1 : Int) (o63_5 : List AV) : Option Res :=
  iterK (evalK G run n f9_keep 6 (sub [1, 1, 1, 1, 1, 1, 1, 1, 1, 1, 0, 1, 0, 0] f9_body)) f9_t6 f9_o6 (blockK 6 (seqK (evalK G run n f9_keep 0 (sub [1, 1, 1, 1, 1, 1, 1, 1, 1, 1, 1] f9_body) (retE G f9_info)) (retE G f9_info))) k6
    ⟨[.any, .any, .any, .any, .any, .any, .any, .any, .any, .any, .any, .any, .any, .any, .ref ⟨(.arr m5 .bool), 63, 1, []⟩ 0 m5, .any, .any, .any, .val (.slice (.int .i64)) (some (18, 0)) (.slice x18_1), .val (.int .i64) none (.int x19_1), .any, .any, .any, .any, .any, .any, .any, .any, .any, .any, .any, .any, .any, .any, .any, .any, .any, .any, .any, .any, .any, .any, .any, .any, .any, .any, .any, .any, .any, .any, .any, .any, .any, .any, .any, .any, .any, .any, .any, .any, .any, .any, .any, .any, .any, .any, .any, .any, .any, .any, .any, .any, .any, .any, .any, .any, .any, .any, .any, .any, .any, .any, .any, .any, .any, .any, .any, .any, .any, .any, .any, .any, .any, .any, .any, .any, .any, .any, .any, .any, .any, .any, .any, .any, .any, .any], [⟨0, none⟩, ⟨0, none⟩, ⟨0, none⟩, ⟨0, none⟩, ⟨0, none⟩, ⟨0, none⟩, ⟨0, none⟩, ⟨0, none⟩, ⟨0, none⟩, ⟨0, none⟩, ⟨0, none⟩, ⟨0, none⟩, ⟨0, none⟩, ⟨0, none⟩, ⟨0, none⟩, ⟨0, none⟩, ⟨0, none⟩, ⟨0, none⟩, ⟨0, none⟩, ⟨0, none⟩, ⟨0, none⟩, ⟨0, none⟩, ⟨0, none⟩, ⟨0, none⟩, ⟨0, none⟩, ⟨0, none⟩, ⟨0, none⟩, ⟨0, none⟩, ⟨0, none⟩, ⟨0, none⟩, ⟨0, none⟩, ⟨0, none⟩, ⟨0, none⟩, ⟨0, none⟩, ⟨0, none⟩, ⟨0, none⟩, ⟨0, none⟩, ⟨0, none⟩, ⟨0, none⟩, ⟨0, none⟩, ⟨0, none⟩, ⟨0, none⟩, ⟨0, none⟩, ⟨0, none⟩, ⟨0, none⟩, ⟨0, none⟩, ⟨0, none⟩, ⟨0, none⟩, ⟨0, none⟩, ⟨0, none⟩, ⟨0, none⟩, ⟨0, none⟩, ⟨0, none⟩, ⟨0, none⟩, ⟨0, none⟩, ⟨0, none⟩, ⟨0, none⟩, ⟨0, none⟩, ⟨0, none⟩, ⟨0, none⟩, ⟨0, none⟩, ⟨0, none⟩, ⟨0, none⟩, ⟨1, some ⟨(.arr m5 .bool), .agg o63_5⟩⟩, ⟨0, none⟩, ⟨0, none⟩, ⟨0, none⟩, ⟨0, none⟩, ⟨0, none⟩, ⟨0, none⟩, ⟨0, none⟩, ⟨0, none⟩, ⟨0, none⟩, ⟨0, none⟩, ⟨0, none⟩, ⟨0, none⟩, ⟨0, none⟩, ⟨0, none⟩, ⟨0, none⟩, ⟨0, none⟩, ⟨0, none⟩, ⟨0, none⟩, ⟨0, none⟩, ⟨0, none⟩, ⟨0, none⟩, ⟨0, none⟩, ⟨0, none⟩, ⟨0, none⟩, ⟨0, none⟩, ⟨0, none⟩, ⟨0, none⟩, ⟨0, none⟩, ⟨0, none⟩, ⟨0, none⟩, ⟨0, none⟩, ⟨0, none⟩, ⟨0, none⟩, ⟨0, none⟩, ⟨0, none⟩, ⟨0, none⟩, ⟨0, none⟩, ⟨0, none⟩, ⟨0, none⟩, ⟨0, none⟩, ⟨0, none⟩, ⟨0, none⟩], List.replicate 106 0⟩
noncomputable def f9_l2 (run : Run) (n : Nat) (_k0 : Nat) (k2 : Nat) (x1_4 : Int) (x3_4 : Int) (x4_4 : Int) (x11_4 : List AV) (x12_4 : Int) (m1 : Nat) (x15_1 : Int) (o63_1 : List AV) : Option Res :=
  iterK (evalK G run n f9_keep 2 (sub [1, 1, 1, 1, 1, 1, 1, 1, 0, 0, 0] f9_body)) f9_t2 f9_o2 (blockK 2 (seqK (evalK G run n f9_keep 0 (sub [1, 1, 1, 1, 1, 1, 1, 1, 1] f9_body) (retE G f9_info)) (retE G f9_info))) k2
    ⟨[.any, .val (.int .i64) none (.int x1_4), .any, .val (.int .i64) none (.int x3_4), .val (.int .i64) none (.int x4_4), .any, .any, .any, .any, .any, .any, .val (.slice (.int .i64)) none (.slice x11_4), .val (.int .i64) none (.int x12_4), .any, .ref ⟨(.arr m1 .bool), 63, 1, []⟩ 0 m1, .val (.int .i64) none (.int x15_1), .any, .any, .any, .any, .any, .any, .any, .any, .any, .any, .any, .any, .any, .any, .any, .any, .any, .any, .any, .any, .any, .any, .any, .any, .any, .any, .any, .any, .any, .any, .any, .any, .any, .any, .any, .any, .any, .any, .any, .any, .any, .any, .any, .any, .any, .any, .any, .any, .any, .any, .any, .any, .any, .any, .any, .any, .any, .any, .any, .any, .any, .any, .any, .any, .any, .any, .any, .any, .any, .any, .any, .any, .any, .any, .any, .any, .any, .any, .any, .any, .any, .any, .any, .any, .any, .any, .any, .any, .any, .any], [⟨0, none⟩, ⟨0, none⟩, ⟨0, none⟩, ⟨0, none⟩, ⟨0, none⟩, ⟨0, none⟩, ⟨0, none⟩, ⟨0, none⟩, ⟨0, none⟩, ⟨0, none⟩, ⟨0, none⟩, ⟨0, none⟩, ⟨0, none⟩, ⟨0, none⟩, ⟨0, none⟩, ⟨0, none⟩, ⟨0, none⟩, ⟨0, none⟩, ⟨0, none⟩, ⟨0, none⟩, ⟨0, none⟩, ⟨0, none⟩, ⟨0, none⟩, ⟨0, none⟩, ⟨0, none⟩, ⟨0, none⟩, ⟨0, none⟩, ⟨0, none⟩, ⟨0, none⟩, ⟨0, none⟩, ⟨0, none⟩, ⟨0, none⟩, ⟨0, none⟩, ⟨0, none⟩, ⟨0, none⟩, ⟨0, none⟩, ⟨0, none⟩, ⟨0, none⟩, ⟨0, none⟩, ⟨0, none⟩, ⟨0, none⟩, ⟨0, none⟩, ⟨0, none⟩, ⟨0, none⟩, ⟨0, none⟩, ⟨0, none⟩, ⟨0, none⟩, ⟨0, none⟩, ⟨0, none⟩, ⟨0, none⟩, ⟨0, none⟩, ⟨0, none⟩, ⟨0, none⟩, ⟨0, none⟩, ⟨0, none⟩, ⟨0, none⟩, ⟨0, none⟩, ⟨0, none⟩, ⟨0, none⟩, ⟨0, none⟩, ⟨0, none⟩, ⟨0, none⟩, ⟨0, none⟩, ⟨1, some ⟨(.arr m1 .bool), .agg o63_1⟩⟩, ⟨0, none⟩, ⟨0, none⟩, ⟨0, none⟩, ⟨0, none⟩, ⟨0, none⟩, ⟨0, none⟩, ⟨0, none⟩, ⟨0, none⟩, ⟨0, none⟩, ⟨0, none⟩, ⟨0, none⟩, ⟨0, none⟩, ⟨0, none⟩, ⟨0, none⟩, ⟨0, none⟩, ⟨0, none⟩, ⟨0, none⟩, ⟨0, none⟩, ⟨0, none⟩, ⟨0, none⟩, ⟨0, none⟩, ⟨0, none⟩, ⟨0, none⟩, ⟨0, none⟩, ⟨0, none⟩, ⟨0, none⟩, ⟨0, none⟩, ⟨0, none⟩, ⟨0, none⟩, ⟨0, none⟩, ⟨0, none⟩, ⟨0, none⟩, ⟨0, none⟩, ⟨0, none⟩, ⟨0, none⟩, ⟨0, none⟩, ⟨0, none⟩, ⟨0, none⟩, ⟨0, none⟩, ⟨0, none⟩, ⟨0, none⟩, ⟨0, none⟩], List.replicate 106 0⟩
noncomputable def f9_l0 (run : Run) (n : Nat) (k0 : Nat) (x1_1 : Int) (x3_1 : Int) (x4_1 : Int) (x11_1 : List AV) (x12_1 : Int) (x13_1 : Int) : Option Res :=
  iterK (evalK G run n f9_keep 0 (sub [1, 1, 1, 1, 0, 1, 0, 0] f9_body)) f9_t0 f9_o0 (blockK 0 (seqK (evalK G run n f9_keep 0 (sub [1, 1, 1, 1, 1] f9_body) (retE G f9_info)) (retE G f9_info))) k0
    ⟨[.any, .val (.int .i64) none (.int x1_1), .any, .val (.int .i64) none (.int x3_1), .val (.int .i64) none (.int x4_1), .any, .any, .any, .any, .any, .any, .val (.slice (.int .i64)) none (.slice x11_1), .val (.int .i64) none (.int x12_1), .val (.int .i64) none (.int x13_1), .any, .any, .any, .any, .any, .any, .any, .any, .any, .any, .any, .any, .any, .any, .any, .any, .any, .any, .any, .any, .any, .any, .any, .any, .any, .any, .any, .any, .any, .any, .any, .any, .any, .any, .any, .any, .any, .any, .any, .any, .any, .any, .any, .any, .any, .any, .any, .any, .any, .any, .any, .any, .any, .any, .any, .any, .any, .any, .any, .any, .any, .any, .any, .any, .any, .any, .any, .any, .any, .any, .any, .any, .any, .any, .any, .any, .any, .any, .any, .any, .any, .any, .any, .any, .any, .any, .any, .any, .any, .any, .any, .any], [⟨0, none⟩, ⟨0, none⟩, ⟨0, none⟩, ⟨0, none⟩, ⟨0, none⟩, ⟨0, none⟩, ⟨0, none⟩, ⟨0, none⟩, ⟨0, none⟩, ⟨0, none⟩, ⟨0, none⟩, ⟨0, none⟩, ⟨0, none⟩, ⟨0, none⟩, ⟨0, none⟩, ⟨0, none⟩, ⟨0, none⟩, ⟨0, none⟩, ⟨0, none⟩, ⟨0, none⟩, ⟨0, none⟩, ⟨0, none⟩, ⟨0, none⟩, ⟨0, none⟩, ⟨0, none⟩, ⟨0, none⟩, ⟨0, none⟩, ⟨0, none⟩, ⟨0, none⟩, ⟨0, none⟩, ⟨0, none⟩, ⟨0, none⟩, ⟨0, none⟩, ⟨0, none⟩, ⟨0, none⟩, ⟨0, none⟩, ⟨0, none⟩, ⟨0, none⟩, ⟨0, none⟩, ⟨0, none⟩, ⟨0, none⟩, ⟨0, none⟩, ⟨0, none⟩, ⟨0, none⟩, ⟨0, none⟩, ⟨0, none⟩, ⟨0, none⟩, ⟨0, none⟩, ⟨0, none⟩, ⟨0, none⟩, ⟨0, none⟩, ⟨0, none⟩, ⟨0, none⟩, ⟨0, none⟩, ⟨0, none⟩, ⟨0, none⟩, ⟨0, none⟩, ⟨0, none⟩, ⟨0, none⟩, ⟨0, none⟩, ⟨0, none⟩, ⟨0, none⟩, ⟨0, none⟩, ⟨0, none⟩, ⟨0, none⟩, ⟨0, none⟩, ⟨0, none⟩, ⟨0, none⟩, ⟨0, none⟩, ⟨0, none⟩, ⟨0, none⟩, ⟨0, none⟩, ⟨0, none⟩, ⟨0, none⟩, ⟨0, none⟩, ⟨0, none⟩, ⟨0, none⟩, ⟨0, none⟩, ⟨0, none⟩, ⟨0, none⟩, ⟨0, none⟩, ⟨0, none⟩, ⟨0, none⟩, ⟨0, none⟩, ⟨0, none⟩, ⟨0, none⟩, ⟨0, none⟩, ⟨0, none⟩, ⟨0, none⟩, ⟨0, none⟩, ⟨0, none⟩, ⟨0, none⟩, ⟨0, none⟩, ⟨0, none⟩, ⟨0, none⟩, ⟨0, none⟩, ⟨0, none⟩, ⟨0, none⟩, ⟨0, none⟩, ⟨0, none⟩, ⟨0, none⟩, ⟨0, none⟩, ⟨0, none⟩, ⟨0, none⟩, ⟨0, none⟩, ⟨0, none⟩], List.replicate 106 0⟩
theorem f9_l4_eq (run : Run) (n : Nat) (k0 : Nat) (k2 : Nat) (k4 : Nat) (x1_5 : Int) (x3_5 : Int) (x4_5 : Int) (x11_5 : List AV) (x12_5 : Int) (m2 : Nat) (x15_2 : Int) (x16_1 : List AV) (x17_1 : Int) (o63_2 : List AV) : f9_l4 run n k0 k2 (k4 + 1) x1_5 x3_5 x4_5 x11_5 x12_5 m2 x15_2 x16_1 x17_1 o63_2 =
  bif ltI x17_1 (x16_1.length : Int) then
    bif inR x17_1 x16_1.length then
    bif inR ((nth x16_1 (Int.toNat x17_1)).toInt) m2 then
    f9_l4 run n k0 k2 k4 x1_5 x3_5 x4_5 x11_5 x12_5 m2 x15_2 x16_1 (IntKind.wrap .i64 (x17_1 + 1)) (o63_2.set (0 + (Int.toNat ((nth x16_1 (Int.toNat x17_1)).toInt))) (.bool true))
  else none
  else none
  else
    (run 13 [.slice x11_5, .int x15_2, .int x12_5, .int x1_5, .int x3_5, .int x4_5]).bind fun r3 =>
    nilV r3.outs (consV r3.vals fun v3 vs3 =>
    nilV vs3 (f9_l2 run n k0 k2 x1_5 x3_5 x4_5 x11_5 (IntKind.wrap .i64 (x12_5 - 1)) m2 v3.toInt o63_2)) := by kernel_rfl
theorem f9_l6_eq (run : Run) (n : Nat) (k0 : Nat) (k2 : Nat) (k6 : Nat) (m5 : Nat) (x18_1 : List AV) (x19_1 : Int) (o63_5 : List AV) : f9_l6 run n k0 k2 (k6 + 1) m5 x18_1 x19_1 o63_5 =
  bif ltI x19_1 (m5 : Int) then
    bif inR x19_1 m5 then
    bif (AV.fld (.agg o63_5) (0 + (Int.toNat x19_1))).toBool then
    bif Nat.ble ((x18_1.length + 1) * 8) 140737488355328 then
    f9_l6 run n k0 k2 k6 m5 (x18_1 ++ [.int x19_1]) (IntKind.wrap .i64 (x19_1 + 1)) o63_5
  else none
  else
    f9_l6 run n k0 k2 k6 m5 x18_1 (IntKind.wrap .i64 (x19_1 + 1)) o63_5
  else none
  else
    some ⟨[.slice x18_1], [], f9_fresh⟩ := by kernel_rfl
theorem f9_l2_eq (run : Run) (n : Nat) (k0 : Nat) (k2 : Nat) (x1_4 : Int) (x3_4 : Int) (x4_4 : Int) (x11_4 : List AV) (x12_4 : Int) (m1 : Nat) (x15_1 : Int) (o63_1 : List AV) : f9_l2 run n k0 (k2 + 1) x1_4 x3_4 x4_4 x11_4 x12_4 m1 x15_1 o63_1 =
  bif leI 0 x12_4 then
    (run 16 [.slice x11_4, .int x15_1, .int x12_4]).bind fun r2 =>
    bif r2.fresh then
    nilV r2.outs (consV r2.vals fun v2 vs2 =>
    nilV vs2 (f9_l4 run n k0 k2 n x1_4 x3_4 x4_4 x11_4 x12_4 m1 x15_1 v2.toSlice 0 o63_1))
  else none
  else
    f9_l6 run n k0 k2 n m1 [] 0 o63_1 := by kernel_rfl
theorem f9_l0_eq (run : Run) (n : Nat) (k0 : Nat) (x1_1 : Int) (x3_1 : Int) (x4_1 : Int) (x11_1 : List AV) (x12_1 : Int) (x13_1 : Int) : f9_l0 run n (k0 + 1) x1_1 x3_1 x4_1 x11_1 x12_1 x13_1 =
  bif ltI x13_1 (x11_1.length : Int) then
    bif inR x13_1 x11_1.length then
    bif ltI x12_1 ((nth x11_1 (Int.toNat x13_1)).toInt) then
    bif inR x13_1 x11_1.length then
    f9_l0 run n k0 x1_1 x3_1 x4_1 x11_1 ((nth x11_1 (Int.toNat x13_1)).toInt) (IntKind.wrap .i64 (x13_1 + 1))
  else none
  else
    f9_l0 run n k0 x1_1 x3_1 x4_1 x11_1 x12_1 (IntKind.wrap .i64 (x13_1 + 1))
  else none
  else
    bif ltI 255 x12_1 then
    bif eqI (x11_1.length : Int) (x11_1.length : Int) && leI 0 (x11_1.length : Int) && Nat.ble (Int.toNat (x11_1.length : Int) * 1) 140737488355328 then
    f9_l2 run n k0 n x1_1 x3_1 x4_1 x11_1 255 (Int.toNat (x11_1.length : Int)) 0 (List.replicate (Int.toNat (x11_1.length : Int)) (.bool false))
  else none
  else
    bif eqI (x11_1.length : Int) (x11_1.length : Int) && leI 0 (x11_1.length : Int) && Nat.ble (Int.toNat (x11_1.length : Int) * 1) 140737488355328 then
    f9_l2 run n k0 n x1_1 x3_1 x4_1 x11_1 x12_1 (Int.toNat (x11_1.length : Int)) 0 (List.replicate (Int.toNat (x11_1.length : Int)) (.bool false))
  else none := by kernel_rfl
noncomputable def f9 (run : Run) (n : Nat) (a0_1 : List AV) (a1_1 : Int) (a2_1 : Int) (a3_1 : Int) (a4_1 : Int) : Option Res := evalK G run n f9_info.keep 0 f9_info.body (retE G f9_info) (f9_info.start [.slice a0_1, .int a1_1, .int a2_1, .int a3_1, .int a4_1])
theorem f9_eq (run : Run) (n : Nat) (a0_1 : List AV) (a1_1 : Int) (a2_1 : Int) (a3_1 : Int) (a4_1 : Int) : f9 run n a0_1 a1_1 a2_1 a3_1 a4_1 =
  (run 11 [.int a1_1, .int a2_1, .int a3_1, .int a4_1]).bind fun r1 =>
    nilV r1.outs (consV r1.vals fun v1 vs1 =>
    nilV vs1 (bif !v1.toBool then
    some ⟨[.slice []], [], f9_fresh⟩
  else
    bif leI (a0_1.length : Int) a2_1 then
    some ⟨[.slice []], [], f9_fresh⟩
  else
    bif ltI 1024 (a0_1.length : Int) then
    some ⟨[.slice []], [], f9_fresh⟩
  else
    bif boundsOk 0 (IntKind.wrap .i64 ((a0_1.length : Int) - a2_1)) (a0_1.length : Int) (a0_1.length : Int) && true then
    f9_l0 run n n a1_1 a3_1 a4_1 (List.drop 0 (List.take (Int.toNat (IntKind.wrap .i64 ((a0_1.length : Int) - a2_1))) a0_1)) 0 1
  else none)) := by kernel_rfl
theorem f9_run (ext : Run) (n : Nat) (a0_1 : List AV) (a1_1 : Int) (a2_1 : Int) (a3_1 : Int) (a4_1 : Int) : runE G ext (n + 1) 9 [.slice a0_1, .int a1_1, .int a2_1, .int a3_1, .int a4_1] = f9 (runE G ext n) n a0_1 a1_1 a2_1 a3_1 a4_1 := runE_succ f9_at f9_in

noncomputable def f3 (run : Run) (n : Nat) (a0_1 : List AV) (a1_1 : List AV) (a2_1 : List AV) : Option Res := evalK G run n f3_info.keep 0 f3_info.body (retE G f3_info) (f3_info.start [.slice a0_1, .agg a1_1, .agg a2_1])
theorem f3_eq (run : Run) (n : Nat) (a0_1 : List AV) (a1_1 : List AV) (a2_1 : List AV) : f3 run n a0_1 a1_1 a2_1 =
  (run 5 [.slice a0_1]).bind fun r1 =>
    nilV r1.outs (consV r1.vals fun v1 vs1 =>
    nilV vs1 (bif !v1.toBool then
    (run 6 []).bind fun r2 =>
    nilV r2.outs (consV r2.vals fun v2 vs2 =>
    nilV vs2 (some ⟨[.bool v2.toBool], [], f3_fresh⟩))
  else
    (run 8 [.slice a0_1, .int ((AV.fld (.agg a1_1) 0).toInt), .int ((AV.fld (.agg a1_1) 1).toInt), .int ((AV.fld (.agg a2_1) 0).toInt), .int ((AV.fld (.agg a2_1) 1).toInt)]).bind fun r3 =>
    bif r3.fresh then
    nilV r3.outs (consV r3.vals fun v3 vs3 =>
    nilV vs3 ((run 9 [.slice a0_1, .int ((AV.fld (.agg a1_1) 0).toInt), .int ((AV.fld (.agg a1_1) 1).toInt), .int ((AV.fld (.agg a2_1) 0).toInt), .int ((AV.fld (.agg a2_1) 1).toInt)]).bind fun r4 =>
    bif r4.fresh then
    nilV r4.outs (consV r4.vals fun v4 vs4 =>
    nilV vs4 ((run 7 [.slice v3.toSlice, .slice v4.toSlice]).bind fun r5 =>
    nilV r5.outs (consV r5.vals fun v5 vs5 =>
    nilV vs5 (bif v5.toBool then
    (run 10 [.int ((AV.fld (.agg a1_1) 0).toInt), .int ((AV.fld (.agg a1_1) 1).toInt), .int ((AV.fld (.agg a2_1) 0).toInt), .int ((AV.fld (.agg a2_1) 1).toInt)]).bind fun r6 =>
    nilV r6.outs (consV r6.vals fun v6 vs6 =>
    nilV vs6 ((run 11 [.int ((AV.fld (.agg a1_1) 0).toInt), .int ((AV.fld (.agg a1_1) 1).toInt), .int ((AV.fld (.agg a2_1) 0).toInt), .int ((AV.fld (.agg a2_1) 1).toInt)]).bind fun r7 =>
    nilV r7.outs (consV r7.vals fun v7 vs7 =>
    nilV vs7 (bif eqO v6.toBool v7.toBool then
    (run 6 []).bind fun r8 =>
    nilV r8.outs (consV r8.vals fun v8 vs8 =>
    nilV vs8 (some ⟨[.bool v8.toBool], [], f3_fresh⟩))
  else
    some ⟨[.bool false], [], f3_fresh⟩))))
  else
    some ⟨[.bool false], [], f3_fresh⟩))))
  else none))
  else none)) := by kernel_rfl
theorem f3_run (ext : Run) (n : Nat) (a0_1 : List AV) (a1_1 : List AV) (a2_1 : List AV) : runE G ext (n + 1) 3 [.slice a0_1, .agg a1_1, .agg a2_1] = f3 (runE G ext n) n a0_1 a1_1 a2_1 := runE_succ f3_at f3_in

noncomputable def f4 (run : Run) (n : Nat) (a0_1 : List AV) (a1_1 : List AV) (a2_1 : List AV) : Option Res := evalK G run n f4_info.keep 0 f4_info.body (retE G f4_info) (f4_info.start [.slice a0_1, .agg a1_1, .agg a2_1])
theorem f4_eq (run : Run) (n : Nat) (a0_1 : List AV) (a1_1 : List AV) (a2_1 : List AV) : f4 run n a0_1 a1_1 a2_1 =
  (run 5 [.slice a0_1]).bind fun r1 =>
    nilV r1.outs (consV r1.vals fun v1 vs1 =>
    nilV vs1 (bif !v1.toBool then
    (run 6 []).bind fun r2 =>
    nilV r2.outs (consV r2.vals fun v2 vs2 =>
    nilV vs2 (some ⟨[.bool v2.toBool], [], f4_fresh⟩))
  else
    bif ltI 6 ((AV.fld (.agg a1_1) 1).toInt) then
    bif leI ((AV.fld (.agg a1_1) 1).toInt) 255 then
    (run 6 []).bind fun r3 =>
    nilV r3.outs (consV r3.vals fun v3 vs3 =>
    nilV vs3 (some ⟨[.bool v3.toBool], [], f4_fresh⟩))
  else
    (run 12 [.slice a0_1, .int ((AV.fld (.agg a1_1) 0).toInt), .int ((AV.fld (.agg a1_1) 1).toInt), .int ((AV.fld (.agg a1_1) 2).toInt), .int ((AV.fld (.agg a2_1) 0).toInt), .int ((AV.fld (.agg a2_1) 1).toInt)]).bind fun r4 =>
    nilV r4.outs (consV r4.vals fun v4 vs4 =>
    nilV vs4 ((run 13 [.slice a0_1, .int ((AV.fld (.agg a1_1) 0).toInt), .int ((AV.fld (.agg a1_1) 1).toInt), .int ((AV.fld (.agg a1_1) 2).toInt), .int ((AV.fld (.agg a2_1) 0).toInt), .int ((AV.fld (.agg a2_1) 1).toInt)]).bind fun r5 =>
    nilV r5.outs (consV r5.vals fun v5 vs5 =>
    nilV vs5 (bif eqI v4.toInt v5.toInt then
    (run 6 []).bind fun r6 =>
    nilV r6.outs (consV r6.vals fun v6 vs6 =>
    nilV vs6 (some ⟨[.bool v6.toBool], [], f4_fresh⟩))
  else
    some ⟨[.bool false], [], f4_fresh⟩))))
  else
    (run 12 [.slice a0_1, .int ((AV.fld (.agg a1_1) 0).toInt), .int ((AV.fld (.agg a1_1) 1).toInt), .int ((AV.fld (.agg a1_1) 2).toInt), .int ((AV.fld (.agg a2_1) 0).toInt), .int ((AV.fld (.agg a2_1) 1).toInt)]).bind fun r7 =>
    nilV r7.outs (consV r7.vals fun v7 vs7 =>
    nilV vs7 ((run 13 [.slice a0_1, .int ((AV.fld (.agg a1_1) 0).toInt), .int ((AV.fld (.agg a1_1) 1).toInt), .int ((AV.fld (.agg a1_1) 2).toInt), .int ((AV.fld (.agg a2_1) 0).toInt), .int ((AV.fld (.agg a2_1) 1).toInt)]).bind fun r8 =>
    nilV r8.outs (consV r8.vals fun v8 vs8 =>
    nilV vs8 (bif eqI v7.toInt v8.toInt then
    (run 6 []).bind fun r9 =>
    nilV r9.outs (consV r9.vals fun v9 vs9 =>
    nilV vs9 (some ⟨[.bool v9.toBool], [], f4_fresh⟩))
  else
    some ⟨[.bool false], [], f4_fresh⟩)))))) := by kernel_rfl
theorem f4_run (ext : Run) (n : Nat) (a0_1 : List AV) (a1_1 : List AV) (a2_1 : List AV) : runE G ext (n + 1) 4 [.slice a0_1, .agg a1_1, .agg a2_1] = f4 (runE G ext n) n a0_1 a1_1 a2_1 := runE_succ f4_at f4_in

end Go.Proofs.Ytogehijjhibdkaa.Ev
