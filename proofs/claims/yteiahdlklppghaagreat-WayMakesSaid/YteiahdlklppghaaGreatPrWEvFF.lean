import Derived.Test.YteiahdlklppghaaGreatPrWEvFA
namespace Go.Proofs.YteiahdlklppghaaGreat.Ev
open Go Go.RowKit
set_option maxRecDepth 100000
noncomputable def f141 (run:Run) (n:Nat) (a0_1 a1_1:Int) (a2_1 a3_1 a4_1:Int):Option Res:=evalK G run n f141_info.keep 0 f141_info.body (retE G f141_info) (f141_info.start [.int a0_1,.int a1_1,.int a2_1,.int a3_1,.int a4_1])
theorem f141_eq (run:Run) (n:Nat) (a0_1 a1_1:Int) (a2_1 a3_1 a4_1:Int):f141 run n a0_1 a1_1 a2_1 a3_1 a4_1 =
  (run 66 [.int a3_1,.int a4_1]).bind fun r1 =>
    nilV r1.outs (consV r1.vals fun v1 vs1 =>
    nilV vs1 (bif !v1.toBool then
    some ⟨[.int 2],[],f141_fresh⟩
  else
    bif ltI a2_1 0 then
    some ⟨[.int 2],[],f141_fresh⟩
  else
    bif ltI 255 a2_1 then
    some ⟨[.int 2],[],f141_fresh⟩
  else
    bif ltI a0_1 65536 then
    bif ltI a1_1 65536 then
    bif leI a2_1 16 then
    bif leI 0 a2_1 then
    bif ltI (IntKind.wrap .i64 (IntKind.wrap .i64 a1_1*IntKind.wrap .i64 (a4_1-a3_1))) (IntKind.wrap .i64 (IntKind.wrap .i64 (IntKind.wrap .i64 a0_1*a4_1)*2^(min (Int.toNat a2_1) 64))) then
    some ⟨[.int 1],[],f141_fresh⟩
  else
    bif ltI (IntKind.wrap .i64 (IntKind.wrap .i64 (IntKind.wrap .i64 a0_1*a4_1)*2^(min (Int.toNat a2_1) 64))) (IntKind.wrap .i64 (IntKind.wrap .i64 a1_1*IntKind.wrap .i64 (a4_1-a3_1))) then
    some ⟨[.int (-1)],[],f141_fresh⟩
  else
    some ⟨[.int 0],[],f141_fresh⟩
  else none
  else
    (run 160 [.int (IntKind.wrap .u64 a0_1)]).bind fun r2 =>
    nilV r2.outs (consV r2.vals fun v2 vs2 =>
    nilV vs2 ((run 160 [.int (IntKind.wrap .u64 a4_1)]).bind fun r3 =>
    nilV r3.outs (consV r3.vals fun v3 vs3 =>
    nilV vs3 ((run 159 [.slice v2.toSlice,.slice v3.toSlice]).bind fun r4 =>
    nilV r4.outs (consV r4.vals fun v4 vs4 =>
    nilV vs4 ((run 161 [.int a2_1]).bind fun r5 =>
    nilV r5.outs (consV r5.vals fun v5 vs5 =>
    nilV vs5 ((run 159 [.slice v4.toSlice,.slice v5.toSlice]).bind fun r6 =>
    nilV r6.outs (consV r6.vals fun v6 vs6 =>
    nilV vs6 ((run 160 [.int (IntKind.wrap .u64 a1_1)]).bind fun r7 =>
    nilV r7.outs (consV r7.vals fun v7 vs7 =>
    nilV vs7 ((run 160 [.int (IntKind.wrap .u64 (IntKind.wrap .i64 (a4_1-a3_1)))]).bind fun r8 =>
    nilV r8.outs (consV r8.vals fun v8 vs8 =>
    nilV vs8 ((run 159 [.slice v7.toSlice,.slice v8.toSlice]).bind fun r9 =>
    nilV r9.outs (consV r9.vals fun v9 vs9 =>
    nilV vs9 ((run 162 [.slice v6.toSlice,.slice v9.toSlice]).bind fun r10 =>
    nilV r10.outs (consV r10.vals fun v10 vs10 =>
    nilV vs10 (some ⟨[.int v10.toInt],[],f141_fresh⟩))))))))))))))))))
  else
    (run 160 [.int (IntKind.wrap .u64 a0_1)]).bind fun r11 =>
    nilV r11.outs (consV r11.vals fun v11 vs11 =>
    nilV vs11 ((run 160 [.int (IntKind.wrap .u64 a4_1)]).bind fun r12 =>
    nilV r12.outs (consV r12.vals fun v12 vs12 =>
    nilV vs12 ((run 159 [.slice v11.toSlice,.slice v12.toSlice]).bind fun r13 =>
    nilV r13.outs (consV r13.vals fun v13 vs13 =>
    nilV vs13 ((run 161 [.int a2_1]).bind fun r14 =>
    nilV r14.outs (consV r14.vals fun v14 vs14 =>
    nilV vs14 ((run 159 [.slice v13.toSlice,.slice v14.toSlice]).bind fun r15 =>
    nilV r15.outs (consV r15.vals fun v15 vs15 =>
    nilV vs15 ((run 160 [.int (IntKind.wrap .u64 a1_1)]).bind fun r16 =>
    nilV r16.outs (consV r16.vals fun v16 vs16 =>
    nilV vs16 ((run 160 [.int (IntKind.wrap .u64 (IntKind.wrap .i64 (a4_1-a3_1)))]).bind fun r17 =>
    nilV r17.outs (consV r17.vals fun v17 vs17 =>
    nilV vs17 ((run 159 [.slice v16.toSlice,.slice v17.toSlice]).bind fun r18 =>
    nilV r18.outs (consV r18.vals fun v18 vs18 =>
    nilV vs18 ((run 162 [.slice v15.toSlice,.slice v18.toSlice]).bind fun r19 =>
    nilV r19.outs (consV r19.vals fun v19 vs19 =>
    nilV vs19 (some ⟨[.int v19.toInt],[],f141_fresh⟩))))))))))))))))))
  else
    (run 160 [.int (IntKind.wrap .u64 a0_1)]).bind fun r20 =>
    nilV r20.outs (consV r20.vals fun v20 vs20 =>
    nilV vs20 ((run 160 [.int (IntKind.wrap .u64 a4_1)]).bind fun r21 =>
    nilV r21.outs (consV r21.vals fun v21 vs21 =>
    nilV vs21 ((run 159 [.slice v20.toSlice,.slice v21.toSlice]).bind fun r22 =>
    nilV r22.outs (consV r22.vals fun v22 vs22 =>
    nilV vs22 ((run 161 [.int a2_1]).bind fun r23 =>
    nilV r23.outs (consV r23.vals fun v23 vs23 =>
    nilV vs23 ((run 159 [.slice v22.toSlice,.slice v23.toSlice]).bind fun r24 =>
    nilV r24.outs (consV r24.vals fun v24 vs24 =>
    nilV vs24 ((run 160 [.int (IntKind.wrap .u64 a1_1)]).bind fun r25 =>
    nilV r25.outs (consV r25.vals fun v25 vs25 =>
    nilV vs25 ((run 160 [.int (IntKind.wrap .u64 (IntKind.wrap .i64 (a4_1-a3_1)))]).bind fun r26 =>
    nilV r26.outs (consV r26.vals fun v26 vs26 =>
    nilV vs26 ((run 159 [.slice v25.toSlice,.slice v26.toSlice]).bind fun r27 =>
    nilV r27.outs (consV r27.vals fun v27 vs27 =>
    nilV vs27 ((run 162 [.slice v24.toSlice,.slice v27.toSlice]).bind fun r28 =>
    nilV r28.outs (consV r28.vals fun v28 vs28 =>
    nilV vs28 (some ⟨[.int v28.toInt],[],f141_fresh⟩)))))))))))))))))))):=by kernel_rfl
theorem f141_run (ext:Run) (n:Nat) (a0_1 a1_1:Int) (a2_1 a3_1 a4_1:Int):runE G ext (n+1) 141 [.int a0_1,.int a1_1,.int a2_1,.int a3_1,.int a4_1]=f141 (runE G ext n) n a0_1 a1_1 a2_1 a3_1 a4_1:=runE_succ f141_at f141_in
noncomputable def f140 (run:Run) (n:Nat) (a0_1 a1_1:Int) (a2_1 a3_1 a4_1:Int):Option Res:=evalK G run n f140_info.keep 0 f140_info.body (retE G f140_info) (f140_info.start [.int a0_1,.int a1_1,.int a2_1,.int a3_1,.int a4_1])
theorem f140_eq (run:Run) (n:Nat) (a0_1 a1_1:Int) (a2_1 a3_1 a4_1:Int):f140 run n a0_1 a1_1 a2_1 a3_1 a4_1 =
  bif leI 0 a0_1 then
    bif leI a0_1 1024 then
    bif leI 0 a1_1 then
    bif leI a1_1 1024 then
    (run 141 [.int (IntKind.wrap .u32 a0_1),.int (IntKind.wrap .u32 a1_1),.int a2_1,.int a3_1,.int a4_1]).bind fun r1 =>
    nilV r1.outs (consV r1.vals fun v1 vs1 =>
    nilV vs1 (some ⟨[.bool (eqI v1.toInt 1)],[],f140_fresh⟩))
  else
    some ⟨[.bool false],[],f140_fresh⟩
  else
    some ⟨[.bool false],[],f140_fresh⟩
  else
    some ⟨[.bool false],[],f140_fresh⟩
  else
    some ⟨[.bool false],[],f140_fresh⟩:=by kernel_rfl
theorem f140_run (ext:Run) (n:Nat) (a0_1 a1_1:Int) (a2_1 a3_1 a4_1:Int):runE G ext (n+1) 140 [.int a0_1,.int a1_1,.int a2_1,.int a3_1,.int a4_1]=f140 (runE G ext n) n a0_1 a1_1 a2_1 a3_1 a4_1:=runE_succ f140_at f140_in
noncomputable def f116_l0 (run:Run) (n k0:Nat) (x0_1:List AV) (x1_1 x2_1:Int) (x3_1 x4_1 x11_1:Int):Option Res :=
  iterK (evalK G run n f116_keep 0 (sub [1,1,1,0,1,0,0] f116_body)) f116_t0 f116_o0 (blockK 0 (seqK (evalK G run n f116_keep 0 (sub [1,1,1,1] f116_body) (retE G f116_info)) (retE G f116_info))) k0
    ⟨[.val (.slice (.int .i64)) none (.slice x0_1),.val (.int .i64) none (.int x1_1),.val (.int .i64) none (.int x2_1),.val (.int .i64) none (.int x3_1),.val (.int .i64) none (.int x4_1),qa,qa,qa,qa,qa,qa,.val (.int .i64) none (.int x11_1),qa,qa,qa,qa,qa,qa,qa,qa,qa,qa,qa,qa,qa,qa,qa,qa,qa,qa,qa,qa,qa,qa,qa,qa,qa,qa,qa,qa,qa,qa,qa,qa,qa,qa,qa,qa,qa,qa,qa,.any],[qz,qz,qz,qz,qz,qz,qz,qz,qz,qz,qz,qz,qz,qz,qz,qz,qz,qz,qz,qz,qz,qz,qz,qz,qz,qz,qz,qz,qz,qz,qz,qz,qz,qz,qz,qz,qz,qz,qz,qz,qz,qz,qz,qz,qz,qz,qz,qz,qz,qz,qz,qz],List.replicate 52 0⟩
theorem f116_l0_eq (run:Run) (n k0:Nat) (x0_1:List AV) (x1_1 x2_1:Int) (x3_1 x4_1 x11_1:Int):f116_l0 run n (k0+1) x0_1 x1_1 x2_1 x3_1 x4_1 x11_1 =
  bif ltI x11_1 (x0_1.length:Int) then
    bif boundsOk x11_1 (x0_1.length:Int) (x0_1.length:Int) (x0_1.length:Int)&&true then
    (run 139 [.slice (List.drop (Int.toNat x11_1) (List.take (Int.toNat (x0_1.length:Int)) x0_1)),.int x1_1]).bind fun r1 =>
    nilV r1.outs (consV r1.vals fun v1 vs1 =>
    nilV vs1 (bif inR x11_1 x0_1.length then
    bif leI x1_1 ((nth x0_1 (Int.toNat x11_1)).toInt) then
    bif leI x2_1 v1.toInt then
    (run 140 [.int v1.toInt,.int ((List.drop (Int.toNat x11_1) (List.take (Int.toNat (x0_1.length:Int)) x0_1)).length:Int),.int x1_1,.int x3_1,.int x4_1]).bind fun r2 =>
    nilV r2.outs (consV r2.vals fun v2 vs2 =>
    nilV vs2 (bif !v2.toBool then
    some ⟨[.bool false],[],f116_fresh⟩
  else
    f116_l0 run n k0 x0_1 x1_1 x2_1 x3_1 x4_1 (IntKind.wrap .i64 (x11_1+1))))
  else
    f116_l0 run n k0 x0_1 x1_1 x2_1 x3_1 x4_1 (IntKind.wrap .i64 (x11_1+1))
  else
    f116_l0 run n k0 x0_1 x1_1 x2_1 x3_1 x4_1 (IntKind.wrap .i64 (x11_1+1))
  else none))
  else none
  else
    some ⟨[.bool true],[],f116_fresh⟩:=by kernel_rfl
noncomputable def f116 (run:Run) (n:Nat) (a0_1:List AV) (a1_1 a2_1:Int) (a3_1 a4_1:Int):Option Res:=evalK G run n f116_info.keep 0 f116_info.body (retE G f116_info) (f116_info.start [.slice a0_1,.int a1_1,.int a2_1,.int a3_1,.int a4_1])
theorem f116_eq (run:Run) (n:Nat) (a0_1:List AV) (a1_1 a2_1:Int) (a3_1 a4_1:Int):f116 run n a0_1 a1_1 a2_1 a3_1 a4_1 =
  bif ltI 1024 (a0_1.length:Int) then
    some ⟨[.bool false],[],f116_fresh⟩
  else
    bif ltI a2_1 1 then
    f116_l0 run n n a0_1 a1_1 1 a3_1 a4_1 0
  else
    f116_l0 run n n a0_1 a1_1 a2_1 a3_1 a4_1 0:=by kernel_rfl
theorem f116_run (ext:Run) (n:Nat) (a0_1:List AV) (a1_1 a2_1:Int) (a3_1 a4_1:Int):runE G ext (n+1) 116 [.slice a0_1,.int a1_1,.int a2_1,.int a3_1,.int a4_1]=f116 (runE G ext n) n a0_1 a1_1 a2_1 a3_1 a4_1:=runE_succ f116_at f116_in
noncomputable def f117_l4 (run:Run) (n k0:Nat) (k2 k4:Nat) (x0_3:List AV) (x1_3 x2_3:Int) (x3_3 x4_3:Int) (x11_3 x12_2 x13_1:Int):Option Res :=
  iterK (evalK G run n f117_keep 4 (sub [1,1,1,0,1,0,0,1,0,0,1,0,0,1,0,0,1,0,0] f117_body)) f117_t4 f117_o4 (blockK 4 (blockK 3 (seqK (evalK G run n f117_keep 2 (sub [1,1,1,0,1,0,0,1,0,0,1,0,0,1,1] f117_body) (seqK (fun t=>iterK (evalK G run n f117_keep 2 (sub [1,1,1,0,1,0,0,1,0,0,1,0,0] f117_body)) f117_t2 f117_o2 (blockK 2 (blockK 1 (seqK (evalK G run n f117_keep 0 (sub [1,1,1,0,1,0,0,1,1] f117_body) (seqK (fun t=>iterK (evalK G run n f117_keep 0 (sub [1,1,1,0,1,0,0] f117_body)) f117_t0 f117_o0 (blockK 0 (seqK (evalK G run n f117_keep 0 (sub [1,1,1,1] f117_body) (retE G f117_info)) (retE G f117_info))) k0 (t.clear f117_t0 f117_o0)) (blockK 0 (seqK (evalK G run n f117_keep 0 (sub [1,1,1,1] f117_body) (retE G f117_info)) (retE G f117_info))))) (seqK (fun t=>iterK (evalK G run n f117_keep 0 (sub [1,1,1,0,1,0,0] f117_body)) f117_t0 f117_o0 (blockK 0 (seqK (evalK G run n f117_keep 0 (sub [1,1,1,1] f117_body) (retE G f117_info)) (retE G f117_info))) k0 (t.clear f117_t0 f117_o0)) (blockK 0 (seqK (evalK G run n f117_keep 0 (sub [1,1,1,1] f117_body) (retE G f117_info)) (retE G f117_info))))))) k2 (t.clear f117_t2 f117_o2)) (blockK 2 (blockK 1 (seqK (evalK G run n f117_keep 0 (sub [1,1,1,0,1,0,0,1,1] f117_body) (seqK (fun t=>iterK (evalK G run n f117_keep 0 (sub [1,1,1,0,1,0,0] f117_body)) f117_t0 f117_o0 (blockK 0 (seqK (evalK G run n f117_keep 0 (sub [1,1,1,1] f117_body) (retE G f117_info)) (retE G f117_info))) k0 (t.clear f117_t0 f117_o0)) (blockK 0 (seqK (evalK G run n f117_keep 0 (sub [1,1,1,1] f117_body) (retE G f117_info)) (retE G f117_info))))) (seqK (fun t=>iterK (evalK G run n f117_keep 0 (sub [1,1,1,0,1,0,0] f117_body)) f117_t0 f117_o0 (blockK 0 (seqK (evalK G run n f117_keep 0 (sub [1,1,1,1] f117_body) (retE G f117_info)) (retE G f117_info))) k0 (t.clear f117_t0 f117_o0)) (blockK 0 (seqK (evalK G run n f117_keep 0 (sub [1,1,1,1] f117_body) (retE G f117_info)) (retE G f117_info))))))))) (seqK (fun t=>iterK (evalK G run n f117_keep 2 (sub [1,1,1,0,1,0,0,1,0,0,1,0,0] f117_body)) f117_t2 f117_o2 (blockK 2 (blockK 1 (seqK (evalK G run n f117_keep 0 (sub [1,1,1,0,1,0,0,1,1] f117_body) (seqK (fun t=>iterK (evalK G run n f117_keep 0 (sub [1,1,1,0,1,0,0] f117_body)) f117_t0 f117_o0 (blockK 0 (seqK (evalK G run n f117_keep 0 (sub [1,1,1,1] f117_body) (retE G f117_info)) (retE G f117_info))) k0 (t.clear f117_t0 f117_o0)) (blockK 0 (seqK (evalK G run n f117_keep 0 (sub [1,1,1,1] f117_body) (retE G f117_info)) (retE G f117_info))))) (seqK (fun t=>iterK (evalK G run n f117_keep 0 (sub [1,1,1,0,1,0,0] f117_body)) f117_t0 f117_o0 (blockK 0 (seqK (evalK G run n f117_keep 0 (sub [1,1,1,1] f117_body) (retE G f117_info)) (retE G f117_info))) k0 (t.clear f117_t0 f117_o0)) (blockK 0 (seqK (evalK G run n f117_keep 0 (sub [1,1,1,1] f117_body) (retE G f117_info)) (retE G f117_info))))))) k2 (t.clear f117_t2 f117_o2)) (blockK 2 (blockK 1 (seqK (evalK G run n f117_keep 0 (sub [1,1,1,0,1,0,0,1,1] f117_body) (seqK (fun t=>iterK (evalK G run n f117_keep 0 (sub [1,1,1,0,1,0,0] f117_body)) f117_t0 f117_o0 (blockK 0 (seqK (evalK G run n f117_keep 0 (sub [1,1,1,1] f117_body) (retE G f117_info)) (retE G f117_info))) k0 (t.clear f117_t0 f117_o0)) (blockK 0 (seqK (evalK G run n f117_keep 0 (sub [1,1,1,1] f117_body) (retE G f117_info)) (retE G f117_info))))) (seqK (fun t=>iterK (evalK G run n f117_keep 0 (sub [1,1,1,0,1,0,0] f117_body)) f117_t0 f117_o0 (blockK 0 (seqK (evalK G run n f117_keep 0 (sub [1,1,1,1] f117_body) (retE G f117_info)) (retE G f117_info))) k0 (t.clear f117_t0 f117_o0)) (blockK 0 (seqK (evalK G run n f117_keep 0 (sub [1,1,1,1] f117_body) (retE G f117_info)) (retE G f117_info))))))))))) k4
    ⟨[.val (.slice (.int .i64)) none (.slice x0_3),.val (.int .i64) none (.int x1_3),.val (.int .i64) none (.int x2_3),.val (.int .i64) none (.int x3_3),.val (.int .i64) none (.int x4_3),qa,qa,qa,qa,qa,qa,.val (.int .i64) none (.int x11_3),.val (.int .i64) none (.int x12_2),.val (.int .i64) none (.int x13_1),qa,qa,qa,qa,qa,qa,qa,qa,qa,qa,qa,qa,qa,qa,qa,qa,qa,qa,qa,qa,qa,qa,qa,qa,qa,qa,qa,qa,qa,qa,qa,qa,qa,qa,qa,qa,qa,qa,qa,qa,qa,qa,qa,qa,qa,qa,qa,qa,qa,qa,qa,qa,qa,qa,qa,qa,qa,qa,qa,.any],[qz,qz,qz,qz,qz,qz,qz,qz,qz,qz,qz,qz,qz,qz,qz,qz,qz,qz,qz,qz,qz,qz,qz,qz,qz,qz,qz,qz,qz,qz,qz,qz,qz,qz,qz,qz,qz,qz,qz,qz,qz,qz,qz,qz,qz,qz,qz,qz,qz,qz,qz,qz,qz,qz,qz,qz,qz,qz,qz,qz,qz,qz,qz,qz,qz,qz,qz,qz,qz,qz,qz,qz,qz,qz],List.replicate 74 0⟩
noncomputable def f117_l2 (run:Run) (n k0 k2:Nat) (x0_2:List AV) (x1_2 x2_2:Int) (x3_2 x4_2:Int) (x11_2 x12_1:Int):Option Res :=
  iterK (evalK G run n f117_keep 2 (sub [1,1,1,0,1,0,0,1,0,0,1,0,0] f117_body)) f117_t2 f117_o2 (blockK 2 (blockK 1 (seqK (evalK G run n f117_keep 0 (sub [1,1,1,0,1,0,0,1,1] f117_body) (seqK (fun t=>iterK (evalK G run n f117_keep 0 (sub [1,1,1,0,1,0,0] f117_body)) f117_t0 f117_o0 (blockK 0 (seqK (evalK G run n f117_keep 0 (sub [1,1,1,1] f117_body) (retE G f117_info)) (retE G f117_info))) k0 (t.clear f117_t0 f117_o0)) (blockK 0 (seqK (evalK G run n f117_keep 0 (sub [1,1,1,1] f117_body) (retE G f117_info)) (retE G f117_info))))) (seqK (fun t=>iterK (evalK G run n f117_keep 0 (sub [1,1,1,0,1,0,0] f117_body)) f117_t0 f117_o0 (blockK 0 (seqK (evalK G run n f117_keep 0 (sub [1,1,1,1] f117_body) (retE G f117_info)) (retE G f117_info))) k0 (t.clear f117_t0 f117_o0)) (blockK 0 (seqK (evalK G run n f117_keep 0 (sub [1,1,1,1] f117_body) (retE G f117_info)) (retE G f117_info))))))) k2
    ⟨[.val (.slice (.int .i64)) none (.slice x0_2),.val (.int .i64) none (.int x1_2),.val (.int .i64) none (.int x2_2),.val (.int .i64) none (.int x3_2),.val (.int .i64) none (.int x4_2),qa,qa,qa,qa,qa,qa,.val (.int .i64) none (.int x11_2),.val (.int .i64) none (.int x12_1),qa,qa,qa,qa,qa,qa,qa,qa,qa,qa,qa,qa,qa,qa,qa,qa,qa,qa,qa,qa,qa,qa,qa,qa,qa,qa,qa,qa,qa,qa,qa,qa,qa,qa,qa,qa,qa,qa,qa,qa,qa,qa,qa,qa,qa,qa,qa,qa,qa,qa,qa,qa,qa,qa,qa,qa,qa,qa,qa,qa,.any],[qz,qz,qz,qz,qz,qz,qz,qz,qz,qz,qz,qz,qz,qz,qz,qz,qz,qz,qz,qz,qz,qz,qz,qz,qz,qz,qz,qz,qz,qz,qz,qz,qz,qz,qz,qz,qz,qz,qz,qz,qz,qz,qz,qz,qz,qz,qz,qz,qz,qz,qz,qz,qz,qz,qz,qz,qz,qz,qz,qz,qz,qz,qz,qz,qz,qz,qz,qz,qz,qz,qz,qz,qz,qz],List.replicate 74 0⟩
noncomputable def f117_l0 (run:Run) (n k0:Nat) (x0_1:List AV) (x1_1 x2_1:Int) (x3_1 x4_1 x11_1:Int):Option Res :=
  iterK (evalK G run n f117_keep 0 (sub [1,1,1,0,1,0,0] f117_body)) f117_t0 f117_o0 (blockK 0 (seqK (evalK G run n f117_keep 0 (sub [1,1,1,1] f117_body) (retE G f117_info)) (retE G f117_info))) k0
    ⟨[.val (.slice (.int .i64)) none (.slice x0_1),.val (.int .i64) none (.int x1_1),.val (.int .i64) none (.int x2_1),.val (.int .i64) none (.int x3_1),.val (.int .i64) none (.int x4_1),qa,qa,qa,qa,qa,qa,.val (.int .i64) none (.int x11_1),qa,qa,qa,qa,qa,qa,qa,qa,qa,qa,qa,qa,qa,qa,qa,qa,qa,qa,qa,qa,qa,qa,qa,qa,qa,qa,qa,qa,qa,qa,qa,qa,qa,qa,qa,qa,qa,qa,qa,qa,qa,qa,qa,qa,qa,qa,qa,qa,qa,qa,qa,qa,qa,qa,qa,qa,qa,qa,qa,qa,qa,.any],[qz,qz,qz,qz,qz,qz,qz,qz,qz,qz,qz,qz,qz,qz,qz,qz,qz,qz,qz,qz,qz,qz,qz,qz,qz,qz,qz,qz,qz,qz,qz,qz,qz,qz,qz,qz,qz,qz,qz,qz,qz,qz,qz,qz,qz,qz,qz,qz,qz,qz,qz,qz,qz,qz,qz,qz,qz,qz,qz,qz,qz,qz,qz,qz,qz,qz,qz,qz,qz,qz,qz,qz,qz,qz],List.replicate 74 0⟩
theorem f117_l4_eq (run:Run) (n k0:Nat) (k2 k4:Nat) (x0_3:List AV) (x1_3 x2_3:Int) (x3_3 x4_3:Int) (x11_3 x12_2 x13_1:Int):f117_l4 run n k0 k2 (k4+1) x0_3 x1_3 x2_3 x3_3 x4_3 x11_3 x12_2 x13_1 =
  bif leI x13_1 (x0_3.length:Int) then
    bif boundsOk x12_2 x13_1 (x0_3.length:Int) (x0_3.length:Int)&&true then
    (run 139 [.slice (List.drop (Int.toNat x12_2) (List.take (Int.toNat x13_1) x0_3)),.int x11_3]).bind fun r1 =>
    nilV r1.outs (consV r1.vals fun v1 vs1 =>
    nilV vs1 (bif ltI v1.toInt x2_3 then
    f117_l4 run n k0 k2 k4 x0_3 x1_3 x2_3 x3_3 x4_3 x11_3 x12_2 (IntKind.wrap .i64 (x13_1+1))
  else
    bif boundsOk x12_2 x13_1 (x0_3.length:Int) (x0_3.length:Int)&&true then
    (run 139 [.slice (List.drop (Int.toNat x12_2) (List.take (Int.toNat x13_1) x0_3)),.int x1_3]).bind fun r2 =>
    nilV r2.outs (consV r2.vals fun v2 vs2 =>
    nilV vs2 ((run 141 [.int (IntKind.wrap .u32 v2.toInt),.int (IntKind.wrap .u32 v1.toInt),.int (IntKind.wrap .i64 (x1_3-x11_3)),.int x3_3,.int x4_3]).bind fun r3 =>
    nilV r3.outs (consV r3.vals fun v3 vs3 =>
    nilV vs3 (bif !(eqI v3.toInt 0) then
    bif !(eqI v3.toInt 1) then
    some ⟨[.bool false],[],f117_fresh⟩
  else
    f117_l4 run n k0 k2 k4 x0_3 x1_3 x2_3 x3_3 x4_3 x11_3 x12_2 (IntKind.wrap .i64 (x13_1+1))
  else
    f117_l4 run n k0 k2 k4 x0_3 x1_3 x2_3 x3_3 x4_3 x11_3 x12_2 (IntKind.wrap .i64 (x13_1+1))))))
  else none))
  else none
  else
    f117_l2 run n k0 k2 x0_3 x1_3 x2_3 x3_3 x4_3 x11_3 (IntKind.wrap .i64 (x12_2+1)):=by kernel_rfl
theorem f117_l2_eq (run:Run) (n k0 k2:Nat) (x0_2:List AV) (x1_2 x2_2:Int) (x3_2 x4_2:Int) (x11_2 x12_1:Int):f117_l2 run n k0 (k2+1) x0_2 x1_2 x2_2 x3_2 x4_2 x11_2 x12_1 =
  bif ltI x12_1 (x0_2.length:Int) then
    f117_l4 run n k0 k2 n x0_2 x1_2 x2_2 x3_2 x4_2 x11_2 x12_1 (IntKind.wrap .i64 (x12_1+1))
  else
    f117_l0 run n k0 x0_2 x1_2 x2_2 x3_2 x4_2 (IntKind.wrap .i64 (x11_2+1)):=by kernel_rfl
theorem f117_l0_eq (run:Run) (n k0:Nat) (x0_1:List AV) (x1_1 x2_1:Int) (x3_1 x4_1 x11_1:Int):f117_l0 run n (k0+1) x0_1 x1_1 x2_1 x3_1 x4_1 x11_1 =
  bif ltI x11_1 x1_1 then
    f117_l2 run n k0 n x0_1 x1_1 x2_1 x3_1 x4_1 x11_1 0
  else
    some ⟨[.bool true],[],f117_fresh⟩:=by kernel_rfl
noncomputable def f117 (run:Run) (n:Nat) (a0_1:List AV) (a1_1 a2_1:Int) (a3_1 a4_1:Int):Option Res:=evalK G run n f117_info.keep 0 f117_info.body (retE G f117_info) (f117_info.start [.slice a0_1,.int a1_1,.int a2_1,.int a3_1,.int a4_1])
theorem f117_eq (run:Run) (n:Nat) (a0_1:List AV) (a1_1 a2_1:Int) (a3_1 a4_1:Int):f117 run n a0_1 a1_1 a2_1 a3_1 a4_1 =
  bif ltI 1024 (a0_1.length:Int) then
    some ⟨[.bool false],[],f117_fresh⟩
  else
    bif ltI 255 a1_1 then
    some ⟨[.bool false],[],f117_fresh⟩
  else
    bif ltI a2_1 1 then
    f117_l0 run n n a0_1 a1_1 1 a3_1 a4_1 0
  else
    f117_l0 run n n a0_1 a1_1 a2_1 a3_1 a4_1 0:=by kernel_rfl
theorem f117_run (ext:Run) (n:Nat) (a0_1:List AV) (a1_1 a2_1:Int) (a3_1 a4_1:Int):runE G ext (n+1) 117 [.slice a0_1,.int a1_1,.int a2_1,.int a3_1,.int a4_1]=f117 (runE G ext n) n a0_1 a1_1 a2_1 a3_1 a4_1:=runE_succ f117_at f117_in
noncomputable def f87 (run:Run) (n:Nat) (a0_1:List AV) (a1_1 a2_1:Int) (a3_1 a4_1:Int):Option Res:=evalK G run n f87_info.keep 0 f87_info.body (retE G f87_info) (f87_info.start [.slice a0_1,.int a1_1,.int a2_1,.int a3_1,.int a4_1])
theorem f87_eq (run:Run) (n:Nat) (a0_1:List AV) (a1_1 a2_1:Int) (a3_1 a4_1:Int):f87 run n a0_1 a1_1 a2_1 a3_1 a4_1 =
  (run 116 [.slice a0_1,.int a1_1,.int a2_1,.int a3_1,.int a4_1]).bind fun r1 =>
    nilV r1.outs (consV r1.vals fun v1 vs1 =>
    nilV vs1 (bif v1.toBool then
    (run 117 [.slice a0_1,.int a1_1,.int a2_1,.int a3_1,.int a4_1]).bind fun r2 =>
    nilV r2.outs (consV r2.vals fun v2 vs2 =>
    nilV vs2 (some ⟨[.bool v2.toBool],[],f87_fresh⟩))
  else
    some ⟨[.bool false],[],f87_fresh⟩)):=by kernel_rfl
theorem f87_run (ext:Run) (n:Nat) (a0_1:List AV) (a1_1 a2_1:Int) (a3_1 a4_1:Int):runE G ext (n+1) 87 [.slice a0_1,.int a1_1,.int a2_1,.int a3_1,.int a4_1]=f87 (runE G ext n) n a0_1 a1_1 a2_1 a3_1 a4_1:=runE_succ f87_at f87_in
noncomputable def f56 (run:Run) (n:Nat) (a0_1:List AV) (a1_1 a2_1:Int) (a3_1 a4_1 a5_1:Int):Option Res:=evalK G run n f56_info.keep 0 f56_info.body (retE G f56_info) (f56_info.start [.slice a0_1,.int a1_1,.int a2_1,.int a3_1,.int a4_1,.int a5_1])
theorem f56_eq (run:Run) (n:Nat) (a0_1:List AV) (a1_1 a2_1:Int) (a3_1 a4_1 a5_1:Int):f56 run n a0_1 a1_1 a2_1 a3_1 a4_1 a5_1 =
  (run 55 [.slice a0_1,.int a1_1,.int a2_1]).bind fun r1 =>
    bif r1.fresh then
    nilV r1.outs (consV r1.vals fun v1 vs1 =>
    nilV vs1 (bif ltI a3_1 1 then
    some ⟨[.int a1_1],[],f56_fresh⟩
  else
    bif ltI a1_1 0 then
    some ⟨[.int a1_1],[],f56_fresh⟩
  else
    bif leI (v1.toSlice.length:Int) a3_1 then
    some ⟨[.int a1_1],[],f56_fresh⟩
  else
    bif boundsOk a1_1 (a0_1.length:Int) (a0_1.length:Int) (a0_1.length:Int)&&true then
    (run 87 [.slice (List.drop (Int.toNat a1_1) (List.take (Int.toNat (a0_1.length:Int)) a0_1)),.int a2_1,.int a3_1,.int a4_1,.int a5_1]).bind fun r2 =>
    nilV r2.outs (consV r2.vals fun v2 vs2 =>
    nilV vs2 (bif !v2.toBool then
    some ⟨[.int a1_1],[],f56_fresh⟩
  else
    bif inR (IntKind.wrap .i64 ((v1.toSlice.length:Int)-a3_1)) v1.toSlice.length then
    some ⟨[.int ((nth v1.toSlice (Int.toNat (IntKind.wrap .i64 ((v1.toSlice.length:Int)-a3_1)))).toInt)],[],f56_fresh⟩
  else none))
  else none))
  else none:=by kernel_rfl
theorem f56_run (ext:Run) (n:Nat) (a0_1:List AV) (a1_1 a2_1:Int) (a3_1 a4_1 a5_1:Int):runE G ext (n+1) 56 [.slice a0_1,.int a1_1,.int a2_1,.int a3_1,.int a4_1,.int a5_1]=f56 (runE G ext n) n a0_1 a1_1 a2_1 a3_1 a4_1 a5_1:=runE_succ f56_at f56_in
noncomputable def f27_l4 (run:Run) (n _k0:Nat) (k2 k4:Nat) (x1_5 x3_5 x4_5:Int) (x11_5:List AV) (x12_5:Int) (m2:Nat) (x15_2:Int) (x16_1:List AV) (x17_1:Int) (o63_2:List AV):Option Res :=
  iterK (evalK G run n f27_keep 4 (sub [1,1,1,1,1,1,1,1,0,0,0,1,0,1,0,1,0,0] f27_body)) f27_t4 f27_o4 (blockK 4 (seqK (evalK G run n f27_keep 3 (sub [1,1,1,1,1,1,1,1,0,0,0,1,0,1,1] f27_body) (blockK 3 (seqK (fun t=>iterK (evalK G run n f27_keep 2 (sub [1,1,1,1,1,1,1,1,0,0,0] f27_body)) f27_t2 f27_o2 (blockK 2 (seqK (evalK G run n f27_keep 0 (sub [1,1,1,1,1,1,1,1,1] f27_body) (retE G f27_info)) (retE G f27_info))) k2 (t.clear f27_t2 f27_o2)) (blockK 2 (seqK (evalK G run n f27_keep 0 (sub [1,1,1,1,1,1,1,1,1] f27_body) (retE G f27_info)) (retE G f27_info)))))) (blockK 3 (seqK (fun t=>iterK (evalK G run n f27_keep 2 (sub [1,1,1,1,1,1,1,1,0,0,0] f27_body)) f27_t2 f27_o2 (blockK 2 (seqK (evalK G run n f27_keep 0 (sub [1,1,1,1,1,1,1,1,1] f27_body) (retE G f27_info)) (retE G f27_info))) k2 (t.clear f27_t2 f27_o2)) (blockK 2 (seqK (evalK G run n f27_keep 0 (sub [1,1,1,1,1,1,1,1,1] f27_body) (retE G f27_info)) (retE G f27_info))))))) k4
    ⟨[qa,.val (.int .i64) none (.int x1_5),qa,.val (.int .i64) none (.int x3_5),.val (.int .i64) none (.int x4_5),qa,qa,qa,qa,qa,qa,.val (.slice (.int .i64)) none (.slice x11_5),.val (.int .i64) none (.int x12_5),qa,.ref ⟨(.arr m2 .bool),63,1,[]⟩ 0 m2,.val (.int .i64) none (.int x15_2),.val (.slice (.int .i64)) (some (16,0)) (.slice x16_1),.val (.int .i64) none (.int x17_1),qa,qa,qa,qa,qa,qa,qa,qa,qa,qa,qa,qa,qa,qa,qa,qa,qa,qa,qa,qa,qa,qa,qa,qa,qa,qa,qa,qa,qa,qa,qa,qa,qa,qa,qa,qa,qa,qa,qa,qa,qa,qa,qa,qa,qa,qa,qa,qa,qa,qa,qa,qa,qa,qa,qa,qa,qa,qa,qa,qa,qa,qa,qa,qa,qa,qa,qa,qa,qa,qa,qa,qa,qa,qa,qa,qa,qa,qa,qa,qa,qa,qa,qa,qa,qa,qa,qa,.any],[qz,qz,qz,qz,qz,qz,qz,qz,qz,qz,qz,qz,qz,qz,qz,qz,qz,qz,qz,qz,qz,qz,qz,qz,qz,qz,qz,qz,qz,qz,qz,qz,qz,qz,qz,qz,qz,qz,qz,qz,qz,qz,qz,qz,qz,qz,qz,qz,qz,qz,qz,qz,qz,qz,qz,qz,qz,qz,qz,qz,qz,qz,qz,⟨1,some ⟨(.arr m2 .bool),.agg o63_2⟩⟩,qz,qz,qz,qz,qz,qz,qz,qz,qz,qz,qz,qz,qz,qz,qz,qz,qz,qz,qz,qz,qz,qz,qz,qz,qz,qz,qz,qz,qz,qz,qz,qz,qz,qz,qz,qz,qz,qz,qz,qz,qz,qz],List.replicate 106 0⟩
noncomputable def f27_l6 (run:Run) (n _k0:Nat) (_k2 k6 m5:Nat) (x18_1:List AV) (x19_1:Int) (o63_5:List AV):Option Res :=
  iterK (evalK G run n f27_keep 6 (sub [1,1,1,1,1,1,1,1,1,1,0,1,0,0] f27_body)) f27_t6 f27_o6 (blockK 6 (seqK (evalK G run n f27_keep 0 (sub [1,1,1,1,1,1,1,1,1,1,1] f27_body) (retE G f27_info)) (retE G f27_info))) k6
    ⟨[qa,qa,qa,qa,qa,qa,qa,qa,qa,qa,qa,qa,qa,qa,.ref ⟨(.arr m5 .bool),63,1,[]⟩ 0 m5,qa,qa,qa,.val (.slice (.int .i64)) (some (18,0)) (.slice x18_1),.val (.int .i64) none (.int x19_1),qa,qa,qa,qa,qa,qa,qa,qa,qa,qa,qa,qa,qa,qa,qa,qa,qa,qa,qa,qa,qa,qa,qa,qa,qa,qa,qa,qa,qa,qa,qa,qa,qa,qa,qa,qa,qa,qa,qa,qa,qa,qa,qa,qa,qa,qa,qa,qa,qa,qa,qa,qa,qa,qa,qa,qa,qa,qa,qa,qa,qa,qa,qa,qa,qa,qa,qa,qa,qa,qa,qa,qa,qa,qa,qa,qa,qa,qa,qa,qa,qa,qa,qa,qa,qa,.any],[qz,qz,qz,qz,qz,qz,qz,qz,qz,qz,qz,qz,qz,qz,qz,qz,qz,qz,qz,qz,qz,qz,qz,qz,qz,qz,qz,qz,qz,qz,qz,qz,qz,qz,qz,qz,qz,qz,qz,qz,qz,qz,qz,qz,qz,qz,qz,qz,qz,qz,qz,qz,qz,qz,qz,qz,qz,qz,qz,qz,qz,qz,qz,⟨1,some ⟨(.arr m5 .bool),.agg o63_5⟩⟩,qz,qz,qz,qz,qz,qz,qz,qz,qz,qz,qz,qz,qz,qz,qz,qz,qz,qz,qz,qz,qz,qz,qz,qz,qz,qz,qz,qz,qz,qz,qz,qz,qz,qz,qz,qz,qz,qz,qz,qz,qz,qz],List.replicate 106 0⟩
noncomputable def f27_l2 (run:Run) (n _k0 k2:Nat) (x1_4 x3_4 x4_4:Int) (x11_4:List AV) (x12_4:Int) (m1:Nat) (x15_1:Int) (o63_1:List AV):Option Res :=
  iterK (evalK G run n f27_keep 2 (sub [1,1,1,1,1,1,1,1,0,0,0] f27_body)) f27_t2 f27_o2 (blockK 2 (seqK (evalK G run n f27_keep 0 (sub [1,1,1,1,1,1,1,1,1] f27_body) (retE G f27_info)) (retE G f27_info))) k2
    ⟨[qa,.val (.int .i64) none (.int x1_4),qa,.val (.int .i64) none (.int x3_4),.val (.int .i64) none (.int x4_4),qa,qa,qa,qa,qa,qa,.val (.slice (.int .i64)) none (.slice x11_4),.val (.int .i64) none (.int x12_4),qa,.ref ⟨(.arr m1 .bool),63,1,[]⟩ 0 m1,.val (.int .i64) none (.int x15_1),qa,qa,qa,qa,qa,qa,qa,qa,qa,qa,qa,qa,qa,qa,qa,qa,qa,qa,qa,qa,qa,qa,qa,qa,qa,qa,qa,qa,qa,qa,qa,qa,qa,qa,qa,qa,qa,qa,qa,qa,qa,qa,qa,qa,qa,qa,qa,qa,qa,qa,qa,qa,qa,qa,qa,qa,qa,qa,qa,qa,qa,qa,qa,qa,qa,qa,qa,qa,qa,qa,qa,qa,qa,qa,qa,qa,qa,qa,qa,qa,qa,qa,qa,qa,qa,qa,qa,qa,qa,.any],[qz,qz,qz,qz,qz,qz,qz,qz,qz,qz,qz,qz,qz,qz,qz,qz,qz,qz,qz,qz,qz,qz,qz,qz,qz,qz,qz,qz,qz,qz,qz,qz,qz,qz,qz,qz,qz,qz,qz,qz,qz,qz,qz,qz,qz,qz,qz,qz,qz,qz,qz,qz,qz,qz,qz,qz,qz,qz,qz,qz,qz,qz,qz,⟨1,some ⟨(.arr m1 .bool),.agg o63_1⟩⟩,qz,qz,qz,qz,qz,qz,qz,qz,qz,qz,qz,qz,qz,qz,qz,qz,qz,qz,qz,qz,qz,qz,qz,qz,qz,qz,qz,qz,qz,qz,qz,qz,qz,qz,qz,qz,qz,qz,qz,qz,qz,qz],List.replicate 106 0⟩
noncomputable def f27_l0 (run:Run) (n k0:Nat) (x1_1 x3_1 x4_1:Int) (x11_1:List AV) (x12_1 x13_1:Int):Option Res :=
  iterK (evalK G run n f27_keep 0 (sub [1,1,1,1,0,1,0,0] f27_body)) f27_t0 f27_o0 (blockK 0 (seqK (evalK G run n f27_keep 0 (sub [1,1,1,1,1] f27_body) (retE G f27_info)) (retE G f27_info))) k0
    ⟨[qa,.val (.int .i64) none (.int x1_1),qa,.val (.int .i64) none (.int x3_1),.val (.int .i64) none (.int x4_1),qa,qa,qa,qa,qa,qa,.val (.slice (.int .i64)) none (.slice x11_1),.val (.int .i64) none (.int x12_1),.val (.int .i64) none (.int x13_1),qa,qa,qa,qa,qa,qa,qa,qa,qa,qa,qa,qa,qa,qa,qa,qa,qa,qa,qa,qa,qa,qa,qa,qa,qa,qa,qa,qa,qa,qa,qa,qa,qa,qa,qa,qa,qa,qa,qa,qa,qa,qa,qa,qa,qa,qa,qa,qa,qa,qa,qa,qa,qa,qa,qa,qa,qa,qa,qa,qa,qa,qa,qa,qa,qa,qa,qa,qa,qa,qa,qa,qa,qa,qa,qa,qa,qa,qa,qa,qa,qa,qa,qa,qa,qa,qa,qa,qa,qa,qa,qa,.any],[qz,qz,qz,qz,qz,qz,qz,qz,qz,qz,qz,qz,qz,qz,qz,qz,qz,qz,qz,qz,qz,qz,qz,qz,qz,qz,qz,qz,qz,qz,qz,qz,qz,qz,qz,qz,qz,qz,qz,qz,qz,qz,qz,qz,qz,qz,qz,qz,qz,qz,qz,qz,qz,qz,qz,qz,qz,qz,qz,qz,qz,qz,qz,qz,qz,qz,qz,qz,qz,qz,qz,qz,qz,qz,qz,qz,qz,qz,qz,qz,qz,qz,qz,qz,qz,qz,qz,qz,qz,qz,qz,qz,qz,qz,qz,qz,qz,qz,qz,qz,qz,qz,qz,qz,qz,qz],List.replicate 106 0⟩
theorem f27_l4_eq (run:Run) (n k0:Nat) (k2 k4:Nat) (x1_5 x3_5 x4_5:Int) (x11_5:List AV) (x12_5:Int) (m2:Nat) (x15_2:Int) (x16_1:List AV) (x17_1:Int) (o63_2:List AV):f27_l4 run n k0 k2 (k4+1) x1_5 x3_5 x4_5 x11_5 x12_5 m2 x15_2 x16_1 x17_1 o63_2 =
  bif ltI x17_1 (x16_1.length:Int) then
    bif inR x17_1 x16_1.length then
    bif inR ((nth x16_1 (Int.toNat x17_1)).toInt) m2 then
    f27_l4 run n k0 k2 k4 x1_5 x3_5 x4_5 x11_5 x12_5 m2 x15_2 x16_1 (IntKind.wrap .i64 (x17_1+1)) (o63_2.set (0+(Int.toNat ((nth x16_1 (Int.toNat x17_1)).toInt))) (.bool true))
  else none
  else none
  else
    (run 56 [.slice x11_5,.int x15_2,.int x12_5,.int x1_5,.int x3_5,.int x4_5]).bind fun r3 =>
    nilV r3.outs (consV r3.vals fun v3 vs3 =>
    nilV vs3 (f27_l2 run n k0 k2 x1_5 x3_5 x4_5 x11_5 (IntKind.wrap .i64 (x12_5-1)) m2 v3.toInt o63_2)):=by kernel_rfl
theorem f27_l6_eq (run:Run) (n k0:Nat) (k2 k6 m5:Nat) (x18_1:List AV) (x19_1:Int) (o63_5:List AV):f27_l6 run n k0 k2 (k6+1) m5 x18_1 x19_1 o63_5 =
  bif ltI x19_1 (m5:Int) then
    bif inR x19_1 m5 then
    bif (AV.fld (.agg o63_5) (0+(Int.toNat x19_1))).toBool then
    bif Nat.ble ((x18_1.length+1)*8) 140737488355328 then
    f27_l6 run n k0 k2 k6 m5 (x18_1++[.int x19_1]) (IntKind.wrap .i64 (x19_1+1)) o63_5
  else none
  else
    f27_l6 run n k0 k2 k6 m5 x18_1 (IntKind.wrap .i64 (x19_1+1)) o63_5
  else none
  else
    some ⟨[.slice x18_1],[],f27_fresh⟩:=by kernel_rfl
theorem f27_l2_eq (run:Run) (n k0 k2:Nat) (x1_4 x3_4 x4_4:Int) (x11_4:List AV) (x12_4:Int) (m1:Nat) (x15_1:Int) (o63_1:List AV):f27_l2 run n k0 (k2+1) x1_4 x3_4 x4_4 x11_4 x12_4 m1 x15_1 o63_1 =
  bif leI 0 x12_4 then
    (run 55 [.slice x11_4,.int x15_1,.int x12_4]).bind fun r2 =>
    bif r2.fresh then
    nilV r2.outs (consV r2.vals fun v2 vs2 =>
    nilV vs2 (f27_l4 run n k0 k2 n x1_4 x3_4 x4_4 x11_4 x12_4 m1 x15_1 v2.toSlice 0 o63_1))
  else none
  else
    f27_l6 run n k0 k2 n m1 [] 0 o63_1:=by kernel_rfl
theorem f27_l0_eq (run:Run) (n k0:Nat) (x1_1 x3_1 x4_1:Int) (x11_1:List AV) (x12_1 x13_1:Int):f27_l0 run n (k0+1) x1_1 x3_1 x4_1 x11_1 x12_1 x13_1 =
  bif ltI x13_1 (x11_1.length:Int) then
    bif inR x13_1 x11_1.length then
    bif ltI x12_1 ((nth x11_1 (Int.toNat x13_1)).toInt) then
    bif inR x13_1 x11_1.length then
    f27_l0 run n k0 x1_1 x3_1 x4_1 x11_1 ((nth x11_1 (Int.toNat x13_1)).toInt) (IntKind.wrap .i64 (x13_1+1))
  else none
  else
    f27_l0 run n k0 x1_1 x3_1 x4_1 x11_1 x12_1 (IntKind.wrap .i64 (x13_1+1))
  else none
  else
    bif ltI 255 x12_1 then
    bif eqI (x11_1.length:Int) (x11_1.length:Int)&&leI 0 (x11_1.length:Int)&&Nat.ble (Int.toNat (x11_1.length:Int)*1) 140737488355328 then
    f27_l2 run n k0 n x1_1 x3_1 x4_1 x11_1 255 (Int.toNat (x11_1.length:Int)) 0 (List.replicate (Int.toNat (x11_1.length:Int)) (.bool false))
  else none
  else
    bif eqI (x11_1.length:Int) (x11_1.length:Int)&&leI 0 (x11_1.length:Int)&&Nat.ble (Int.toNat (x11_1.length:Int)*1) 140737488355328 then
    f27_l2 run n k0 n x1_1 x3_1 x4_1 x11_1 x12_1 (Int.toNat (x11_1.length:Int)) 0 (List.replicate (Int.toNat (x11_1.length:Int)) (.bool false))
  else none:=by kernel_rfl
noncomputable def f27 (run:Run) (n:Nat) (a0_1:List AV) (a1_1 a2_1:Int) (a3_1 a4_1:Int):Option Res:=evalK G run n f27_info.keep 0 f27_info.body (retE G f27_info) (f27_info.start [.slice a0_1,.int a1_1,.int a2_1,.int a3_1,.int a4_1])
theorem f27_eq (run:Run) (n:Nat) (a0_1:List AV) (a1_1 a2_1:Int) (a3_1 a4_1:Int):f27 run n a0_1 a1_1 a2_1 a3_1 a4_1 =
  (run 34 [.int a1_1,.int a2_1,.int a3_1,.int a4_1]).bind fun r1 =>
    nilV r1.outs (consV r1.vals fun v1 vs1 =>
    nilV vs1 (bif !v1.toBool then
    some ⟨[.slice []],[],f27_fresh⟩
  else
    bif leI (a0_1.length:Int) a2_1 then
    some ⟨[.slice []],[],f27_fresh⟩
  else
    bif ltI 1024 (a0_1.length:Int) then
    some ⟨[.slice []],[],f27_fresh⟩
  else
    bif boundsOk 0 (IntKind.wrap .i64 ((a0_1.length:Int)-a2_1)) (a0_1.length:Int) (a0_1.length:Int)&&true then
    f27_l0 run n n a1_1 a3_1 a4_1 (List.drop 0 (List.take (Int.toNat (IntKind.wrap .i64 ((a0_1.length:Int)-a2_1))) a0_1)) 0 1
  else none)):=by kernel_rfl
theorem f27_run (ext:Run) (n:Nat) (a0_1:List AV) (a1_1 a2_1:Int) (a3_1 a4_1:Int):runE G ext (n+1) 27 [.slice a0_1,.int a1_1,.int a2_1,.int a3_1,.int a4_1]=f27 (runE G ext n) n a0_1 a1_1 a2_1 a3_1 a4_1:=runE_succ f27_at f27_in
noncomputable def f12_l0 (run:Run) (n k0:Nat) (x1_1 x5_1:List AV) (x6_1 o2_1:Int) (o2_2 o2_3:List UInt8) (o2_4:Int) (o2_5:List UInt8) (o2_6 o2_7:Int) (o2_8 o2_9:Int) (o2_10 o2_11:Int):Option Res :=
  iterK (evalK G run n f12_keep 0 (sub [1,1,0,1,0,0] f12_body)) f12_t0 f12_o0 (blockK 0 (seqK (evalK G run n f12_keep 0 (sub [1,1,1] f12_body) (retE G f12_info)) (retE G f12_info))) k0
    ⟨[qa,.val (.slice (.struct [(.struct [(.int .u32),(.blob 32),(.blob 32),(.int .u64)]),(.slice .str)])) none (.slice x1_1),.ptr ⟨(.struct [(.struct [(.int .u32),(.blob 32),(.blob 32),(.int .u64)]),(.blob 32),(.int .i64),(.int .i64),(.int .i64),(.int .i64),(.int .i64),(.int .i64)]),2,1,[]⟩,qa,qa,.val (.slice (.int .i64)) (some (5,0)) (.slice x5_1),.val (.int .i64) none (.int x6_1),qa,qa,qa,qa,qa,qa,qa,qa,qa,qa,qa,qa,qa,qa,qa,qa,qa,qa,qa,qa,qa,qa,qa,qa,qa,qa,qa,qa,qa,qa,qa,.any],[qz,qz,⟨1,some ⟨(.struct [(.struct [(.int .u32),(.blob 32),(.blob 32),(.int .u64)]),(.blob 32),(.int .i64),(.int .i64),(.int .i64),(.int .i64),(.int .i64),(.int .i64)]),.agg [.agg [.int o2_1,.blob o2_2,.blob o2_3,.int o2_4],.blob o2_5,.int o2_6,.int o2_7,.int o2_8,.int o2_9,.int o2_10,.int o2_11]⟩⟩,qz,qz,qz,qz,qz,qz,qz,qz,qz,qz,qz,qz,qz,qz,qz,qz,qz,qz,qz,qz,qz,qz,qz,qz,qz,qz,qz,qz,qz,qz,qz,qz,qz,qz,qz,qz],List.replicate 39 0⟩
theorem f12_l0_eq (run:Run) (n k0:Nat) (x1_1 x5_1:List AV) (x6_1 o2_1:Int) (o2_2 o2_3:List UInt8) (o2_4:Int) (o2_5:List UInt8) (o2_6 o2_7:Int) (o2_8 o2_9:Int) (o2_10 o2_11:Int):f12_l0 run n (k0+1) x1_1 x5_1 x6_1 o2_1 o2_2 o2_3 o2_4 o2_5 o2_6 o2_7 o2_8 o2_9 o2_10 o2_11 =
  bif ltI x6_1 (x1_1.length:Int) then
    bif leI (IntKind.wrap .i64 ((x1_1.length:Int)-o2_7)) x6_1 then
    bif Nat.ble ((x5_1.length+1)*8) 140737488355328 then
    f12_l0 run n k0 x1_1 (x5_1++[.int x6_1]) (IntKind.wrap .i64 (x6_1+1)) o2_1 o2_2 o2_3 o2_4 o2_5 o2_6 o2_7 o2_8 o2_9 o2_10 o2_11
  else none
  else
    f12_l0 run n k0 x1_1 x5_1 (IntKind.wrap .i64 (x6_1+1)) o2_1 o2_2 o2_3 o2_4 o2_5 o2_6 o2_7 o2_8 o2_9 o2_10 o2_11
  else
    some ⟨[.slice x5_1],[],f12_fresh⟩:=by kernel_rfl
noncomputable def f12 (run:Run) (n:Nat) (a0_1:Int) (a0_2 a0_3:List UInt8) (a0_4:Int) (a0_5:List UInt8) (a0_6 a0_7:Int) (a0_8 a0_9:Int) (a0_10 a0_11:Int) (a1_1:List AV):Option Res:=evalK G run n f12_info.keep 0 f12_info.body (retE G f12_info) (f12_info.start [.agg [.agg [.int a0_1,.blob a0_2,.blob a0_3,.int a0_4],.blob a0_5,.int a0_6,.int a0_7,.int a0_8,.int a0_9,.int a0_10,.int a0_11],.slice a1_1])
theorem f12_eq (run:Run) (n:Nat) (a0_1:Int) (a0_2 a0_3:List UInt8) (a0_4:Int) (a0_5:List UInt8) (a0_6 a0_7:Int) (a0_8 a0_9:Int) (a0_10 a0_11:Int) (a1_1:List AV):f12 run n a0_1 a0_2 a0_3 a0_4 a0_5 a0_6 a0_7 a0_8 a0_9 a0_10 a0_11 a1_1 =
  (run 29 [.slice a1_1]).bind fun r1 =>
    bif r1.fresh then
    nilV r1.outs (consV r1.vals fun v1 vs1 =>
    nilV vs1 ((run 28 [.blob a0_5,.slice v1.toSlice]).bind fun r2 =>
    bif r2.fresh then
    nilV r2.outs (consV r2.vals fun v2 vs2 =>
    nilV vs2 ((run 27 [.slice v2.toSlice,.int a0_6,.int a0_7,.int a0_8,.int a0_9]).bind fun r3 =>
    bif r3.fresh then
    nilV r3.outs (consV r3.vals fun v3 vs3 =>
    nilV vs3 (f12_l0 run n n a1_1 v3.toSlice 0 a0_1 a0_2 a0_3 a0_4 a0_5 a0_6 a0_7 a0_8 a0_9 a0_10 a0_11))
  else none))
  else none))
  else none:=by kernel_rfl
theorem f12_run (ext:Run) (n:Nat) (a0_1:Int) (a0_2 a0_3:List UInt8) (a0_4:Int) (a0_5:List UInt8) (a0_6 a0_7:Int) (a0_8 a0_9:Int) (a0_10 a0_11:Int) (a1_1:List AV):runE G ext (n+1) 12 [.agg [.agg [.int a0_1,.blob a0_2,.blob a0_3,.int a0_4],.blob a0_5,.int a0_6,.int a0_7,.int a0_8,.int a0_9,.int a0_10,.int a0_11],.slice a1_1]=f12 (runE G ext n) n a0_1 a0_2 a0_3 a0_4 a0_5 a0_6 a0_7 a0_8 a0_9 a0_10 a0_11 a1_1:=runE_succ f12_at f12_in
noncomputable def f101_l0 (run:Run) (n k0:Nat) (x0_1:List AV) (x1_1 x2_1:Int) (x7_1 x8_1:Int):Option Res :=
  iterK (evalK G run n f101_keep 0 (sub [1,1,0,1,0,0] f101_body)) f101_t0 f101_o0 (blockK 0 (seqK (evalK G run n f101_keep 0 (sub [1,1,1] f101_body) (retE G f101_info)) (retE G f101_info))) k0
    ⟨[.val (.slice (.int .i64)) none (.slice x0_1),.val (.int .i64) none (.int x1_1),.val (.int .i64) none (.int x2_1),qa,qa,qa,qa,.val (.int .i64) none (.int x7_1),.val (.int .i64) none (.int x8_1),qa,qa,qa,qa,qa,qa,qa,qa,qa,qa,qa,qa,qa,qa,qa,qa,qa,qa,.any],[qz,qz,qz,qz,qz,qz,qz,qz,qz,qz,qz,qz,qz,qz,qz,qz,qz,qz,qz,qz,qz,qz,qz,qz,qz,qz,qz,qz],List.replicate 28 0⟩
theorem f101_l0_eq (run:Run) (n k0:Nat) (x0_1:List AV) (x1_1 x2_1:Int) (x7_1 x8_1:Int):f101_l0 run n (k0+1) x0_1 x1_1 x2_1 x7_1 x8_1 =
  bif ltI x8_1 (x0_1.length:Int) then
    bif ltI x8_1 x1_1 then
    bif inR x8_1 x0_1.length then
    bif leI x2_1 ((nth x0_1 (Int.toNat x8_1)).toInt) then
    f101_l0 run n k0 x0_1 x1_1 x2_1 x8_1 (IntKind.wrap .i64 (x8_1+1))
  else
    f101_l0 run n k0 x0_1 x1_1 x2_1 x7_1 (IntKind.wrap .i64 (x8_1+1))
  else none
  else
    some ⟨[.int x7_1],[],f101_fresh⟩
  else
    some ⟨[.int x7_1],[],f101_fresh⟩:=by kernel_rfl
noncomputable def f101 (run:Run) (n:Nat) (a0_1:List AV) (a1_1 a2_1:Int):Option Res:=evalK G run n f101_info.keep 0 f101_info.body (retE G f101_info) (f101_info.start [.slice a0_1,.int a1_1,.int a2_1])
theorem f101_eq (run:Run) (n:Nat) (a0_1:List AV) (a1_1 a2_1:Int):f101 run n a0_1 a1_1 a2_1 =
  f101_l0 run n n a0_1 a1_1 a2_1 (-1) 0:=by kernel_rfl
theorem f101_run (ext:Run) (n:Nat) (a0_1:List AV) (a1_1 a2_1:Int):runE G ext (n+1) 101 [.slice a0_1,.int a1_1,.int a2_1]=f101 (runE G ext n) n a0_1 a1_1 a2_1:=runE_succ f101_at f101_in
noncomputable def f69_l0 (run:Run) (n k0:Nat) (x0_1:List AV) (x1_1:Int) (x5_1:List AV) (x6_1:Int):Option Res :=
  iterK (evalK G run n f69_keep 0 (sub [1,1,1,0,1,0,0] f69_body)) f69_t0 f69_o0 (blockK 0 (seqK (evalK G run n f69_keep 0 (sub [1,1,1,1] f69_body) (retE G f69_info)) (retE G f69_info))) k0
    ⟨[.val (.slice (.int .i64)) none (.slice x0_1),.val (.int .i64) none (.int x1_1),qa,qa,qa,.val (.slice (.int .i64)) (some (5,0)) (.slice x5_1),.val (.int .i64) none (.int x6_1),qa,qa,qa,qa,qa,qa,qa,qa,qa,qa,qa,qa,qa,qa,qa,qa,qa,qa,qa,qa,qa,qa,qa,qa,qa,qa,qa,.any],[qz,qz,qz,qz,qz,qz,qz,qz,qz,qz,qz,qz,qz,qz,qz,qz,qz,qz,qz,qz,qz,qz,qz,qz,qz,qz,qz,qz,qz,qz,qz,qz,qz,qz,qz],List.replicate 35 0⟩
theorem f69_l0_eq (run:Run) (n k0:Nat) (x0_1:List AV) (x1_1:Int) (x5_1:List AV) (x6_1:Int):f69_l0 run n (k0+1) x0_1 x1_1 x5_1 x6_1 =
  bif ltI x6_1 257 then
    (run 101 [.slice x0_1,.int x1_1,.int x6_1]).bind fun r1 =>
    nilV r1.outs (consV r1.vals fun v1 vs1 =>
    nilV vs1 (bif ltI v1.toInt 0 then
    some ⟨[.slice x5_1],[],f69_fresh⟩
  else
    bif Nat.ble ((x5_1.length+1)*8) 140737488355328 then
    bif eqI v1.toInt 0 then
    some ⟨[.slice (x5_1++[.int v1.toInt])],[],f69_fresh⟩
  else
    f69_l0 run n k0 x0_1 x1_1 (x5_1++[.int v1.toInt]) (IntKind.wrap .i64 (x6_1+1))
  else none))
  else
    some ⟨[.slice x5_1],[],f69_fresh⟩:=by kernel_rfl
noncomputable def f69 (run:Run) (n:Nat) (a0_1:List AV) (a1_1:Int):Option Res:=evalK G run n f69_info.keep 0 f69_info.body (retE G f69_info) (f69_info.start [.slice a0_1,.int a1_1])
theorem f69_eq (run:Run) (n:Nat) (a0_1:List AV) (a1_1:Int):f69 run n a0_1 a1_1 =
  bif ltI a1_1 1 then
    some ⟨[.slice []],[],f69_fresh⟩
  else
    bif ltI (a0_1.length:Int) a1_1 then
    some ⟨[.slice []],[],f69_fresh⟩
  else
    f69_l0 run n n a0_1 a1_1 [] 0:=by kernel_rfl
theorem f69_run (ext:Run) (n:Nat) (a0_1:List AV) (a1_1:Int):runE G ext (n+1) 69 [.slice a0_1,.int a1_1]=f69 (runE G ext n) n a0_1 a1_1:=runE_succ f69_at f69_in
noncomputable def f37_l2 (run:Run) (n k0 k2:Nat) (x0_2:List AV) (x2_2:Int) (x7_2 x8_1:List AV) (x9_1 x10_1:Int):Option Res :=
  iterK (evalK G run n f37_keep 2 (sub [1,1,1,0,0,0,1,0,1,1,0,1,0,0] f37_body)) f37_t2 f37_o2 (blockK 2 (seqK (evalK G run n f37_keep 1 (sub [1,1,1,0,0,0,1,0,1,1,1] f37_body) (blockK 1 (seqK (fun t=>iterK (evalK G run n f37_keep 0 (sub [1,1,1,0,0,0] f37_body)) f37_t0 f37_o0 (blockK 0 (seqK (evalK G run n f37_keep 0 (sub [1,1,1,1] f37_body) (retE G f37_info)) (retE G f37_info))) k0 (t.clear f37_t0 f37_o0)) (blockK 0 (seqK (evalK G run n f37_keep 0 (sub [1,1,1,1] f37_body) (retE G f37_info)) (retE G f37_info)))))) (blockK 1 (seqK (fun t=>iterK (evalK G run n f37_keep 0 (sub [1,1,1,0,0,0] f37_body)) f37_t0 f37_o0 (blockK 0 (seqK (evalK G run n f37_keep 0 (sub [1,1,1,1] f37_body) (retE G f37_info)) (retE G f37_info))) k0 (t.clear f37_t0 f37_o0)) (blockK 0 (seqK (evalK G run n f37_keep 0 (sub [1,1,1,1] f37_body) (retE G f37_info)) (retE G f37_info))))))) k2
    ⟨[.val (.slice (.int .i64)) none (.slice x0_2),qa,.val (.int .i64) none (.int x2_2),qa,qa,qa,qa,.val (.slice (.int .i64)) (some (7,0)) (.slice x7_2),.val (.slice (.int .i64)) (some (8,0)) (.slice x8_1),.val (.int .i64) none (.int x9_1),.val (.int .i64) none (.int x10_1),qa,qa,qa,qa,qa,qa,qa,qa,qa,qa,qa,qa,qa,qa,qa,qa,qa,qa,qa,qa,qa,qa,qa,qa,qa,qa,qa,qa,qa,qa,qa,qa,qa,qa,qa,qa,qa,qa,qa,qa,qa,qa,qa,qa,qa,qa,qa,qa,qa,qa,qa,qa,qa,qa,qa,qa,.any],[qz,qz,qz,qz,qz,qz,qz,qz,qz,qz,qz,qz,qz,qz,qz,qz,qz,qz,qz,qz,qz,qz,qz,qz,qz,qz,qz,qz,qz,qz,qz,qz,qz,qz,qz,qz,qz,qz,qz,qz,qz,qz,qz,qz,qz,qz,qz,qz,qz,qz,qz,qz,qz,qz,qz,qz,qz,qz,qz,qz,qz,qz,qz,qz,qz,qz,qz,qz],List.replicate 68 0⟩
noncomputable def f37_l0 (run:Run) (n k0:Nat) (x0_1:List AV) (x1_1 x2_1:Int) (x7_1:List AV):Option Res :=
  iterK (evalK G run n f37_keep 0 (sub [1,1,1,0,0,0] f37_body)) f37_t0 f37_o0 (blockK 0 (seqK (evalK G run n f37_keep 0 (sub [1,1,1,1] f37_body) (retE G f37_info)) (retE G f37_info))) k0
    ⟨[.val (.slice (.int .i64)) none (.slice x0_1),.val (.int .i64) none (.int x1_1),.val (.int .i64) none (.int x2_1),qa,qa,qa,qa,.val (.slice (.int .i64)) (some (7,0)) (.slice x7_1),qa,qa,qa,qa,qa,qa,qa,qa,qa,qa,qa,qa,qa,qa,qa,qa,qa,qa,qa,qa,qa,qa,qa,qa,qa,qa,qa,qa,qa,qa,qa,qa,qa,qa,qa,qa,qa,qa,qa,qa,qa,qa,qa,qa,qa,qa,qa,qa,qa,qa,qa,qa,qa,qa,qa,qa,qa,qa,qa,.any],[qz,qz,qz,qz,qz,qz,qz,qz,qz,qz,qz,qz,qz,qz,qz,qz,qz,qz,qz,qz,qz,qz,qz,qz,qz,qz,qz,qz,qz,qz,qz,qz,qz,qz,qz,qz,qz,qz,qz,qz,qz,qz,qz,qz,qz,qz,qz,qz,qz,qz,qz,qz,qz,qz,qz,qz,qz,qz,qz,qz,qz,qz,qz,qz,qz,qz,qz,qz],List.replicate 68 0⟩
theorem f37_l2_eq (run:Run) (n k0 k2:Nat) (x0_2:List AV) (x2_2:Int) (x7_2 x8_1:List AV) (x9_1 x10_1:Int):f37_l2 run n k0 (k2+1) x0_2 x2_2 x7_2 x8_1 x9_1 x10_1 =
  bif ltI x10_1 (x8_1.length:Int) then
    bif inR x10_1 x8_1.length then
    bif leI x2_2 ((nth x8_1 (Int.toNat x10_1)).toInt) then
    bif ltI x9_1 0 then
    bif inR x10_1 x8_1.length then
    f37_l2 run n k0 k2 x0_2 x2_2 x7_2 x8_1 ((nth x8_1 (Int.toNat x10_1)).toInt) (IntKind.wrap .i64 (x10_1+1))
  else none
  else
    bif inR x10_1 x8_1.length then
    bif ltI ((nth x8_1 (Int.toNat x10_1)).toInt) x9_1 then
    bif inR x10_1 x8_1.length then
    f37_l2 run n k0 k2 x0_2 x2_2 x7_2 x8_1 ((nth x8_1 (Int.toNat x10_1)).toInt) (IntKind.wrap .i64 (x10_1+1))
  else none
  else
    f37_l2 run n k0 k2 x0_2 x2_2 x7_2 x8_1 x9_1 (IntKind.wrap .i64 (x10_1+1))
  else none
  else
    f37_l2 run n k0 k2 x0_2 x2_2 x7_2 x8_1 x9_1 (IntKind.wrap .i64 (x10_1+1))
  else none
  else
    bif ltI x9_1 0 then
    some ⟨[.slice []],[],f37_fresh⟩
  else
    bif Nat.ble ((x7_2.length+1)*8) 140737488355328 then
    f37_l0 run n k0 x0_2 x9_1 x2_2 (x7_2++[.int x9_1])
  else none:=by kernel_rfl
theorem f37_l0_eq (run:Run) (n k0:Nat) (x0_1:List AV) (x1_1 x2_1:Int) (x7_1:List AV):f37_l0 run n (k0+1) x0_1 x1_1 x2_1 x7_1 =
  bif ltI x2_1 x1_1 then
    (run 69 [.slice x0_1,.int x1_1]).bind fun r1 =>
    bif r1.fresh then
    nilV r1.outs (consV r1.vals fun v1 vs1 =>
    nilV vs1 (f37_l2 run n k0 n x0_1 x2_1 x7_1 v1.toSlice (-1) 0))
  else none
  else
    some ⟨[.slice x7_1],[],f37_fresh⟩:=by kernel_rfl
noncomputable def f37 (run:Run) (n:Nat) (a0_1:List AV) (a1_1 a2_1:Int):Option Res:=evalK G run n f37_info.keep 0 f37_info.body (retE G f37_info) (f37_info.start [.slice a0_1,.int a1_1,.int a2_1])
theorem f37_eq (run:Run) (n:Nat) (a0_1:List AV) (a1_1 a2_1:Int):f37 run n a0_1 a1_1 a2_1 =
  bif ltI a2_1 0 then
    some ⟨[.slice []],[],f37_fresh⟩
  else
    bif ltI a1_1 a2_1 then
    some ⟨[.slice []],[],f37_fresh⟩
  else
    bif leI (a0_1.length:Int) a1_1 then
    some ⟨[.slice []],[],f37_fresh⟩
  else
    f37_l0 run n n a0_1 a1_1 a2_1 [.int a1_1]:=by kernel_rfl
theorem f37_run (ext:Run) (n:Nat) (a0_1:List AV) (a1_1 a2_1:Int):runE G ext (n+1) 37 [.slice a0_1,.int a1_1,.int a2_1]=f37 (runE G ext n) n a0_1 a1_1 a2_1:=runE_succ f37_at f37_in
noncomputable def f18_l2 (run:Run) (n _k0 k2:Nat) (x9_3 x11_3:List AV) (x13_1:Int):Option Res :=
  iterK (evalK G run n f18_keep 2 (sub [1,1,1,1,1,1,1,0,1,0,0] f18_body)) f18_t2 f18_o2 (blockK 2 (seqK (evalK G run n f18_keep 0 (sub [1,1,1,1,1,1,1,1] f18_body) (retE G f18_info)) (retE G f18_info))) k2
    ⟨[qa,qa,qa,qa,qa,qa,qa,qa,qa,.val (.slice (.int .i64)) (some (9,0)) (.slice x9_3),qa,.val (.slice (.int .i64)) (some (11,0)) (.slice x11_3),qa,.val (.int .i64) none (.int x13_1),qa,qa,qa,qa,qa,qa,qa,qa,qa,qa,qa,qa,qa,qa,qa,qa,qa,qa,qa,qa,qa,qa,qa,qa,qa,qa,qa,qa,qa,qa,qa,qa,qa,qa,qa,qa,qa,qa,qa,qa,qa,qa,qa,qa,qa,qa,qa,qa,qa,qa,qa,qa,.any],[qz,qz,qz,qz,qz,qz,qz,qz,qz,qz,qz,qz,qz,qz,qz,qz,qz,qz,qz,qz,qz,qz,qz,qz,qz,qz,qz,qz,qz,qz,qz,qz,qz,qz,qz,qz,qz,qz,qz,qz,qz,qz,qz,qz,qz,qz,qz,qz,qz,qz,qz,qz,qz,qz,qz,qz,qz,qz,qz,qz,qz,qz,qz,qz,qz,qz,qz],List.replicate 67 0⟩
noncomputable def f18_l0 (run:Run) (n k0:Nat) (x9_1 x10_1 x11_1:List AV) (x12_1:Int):Option Res :=
  iterK (evalK G run n f18_keep 0 (sub [1,1,1,1,1,1,0,1,0,0] f18_body)) f18_t0 f18_o0 (blockK 0 (seqK (evalK G run n f18_keep 0 (sub [1,1,1,1,1,1,1] f18_body) (retE G f18_info)) (retE G f18_info))) k0
    ⟨[qa,qa,qa,qa,qa,qa,qa,qa,qa,.val (.slice (.int .i64)) (some (9,0)) (.slice x9_1),.val (.slice (.int .i64)) (some (10,0)) (.slice x10_1),.val (.slice (.int .i64)) (some (11,0)) (.slice x11_1),.val (.int .i64) none (.int x12_1),qa,qa,qa,qa,qa,qa,qa,qa,qa,qa,qa,qa,qa,qa,qa,qa,qa,qa,qa,qa,qa,qa,qa,qa,qa,qa,qa,qa,qa,qa,qa,qa,qa,qa,qa,qa,qa,qa,qa,qa,qa,qa,qa,qa,qa,qa,qa,qa,qa,qa,qa,qa,qa,.any],[qz,qz,qz,qz,qz,qz,qz,qz,qz,qz,qz,qz,qz,qz,qz,qz,qz,qz,qz,qz,qz,qz,qz,qz,qz,qz,qz,qz,qz,qz,qz,qz,qz,qz,qz,qz,qz,qz,qz,qz,qz,qz,qz,qz,qz,qz,qz,qz,qz,qz,qz,qz,qz,qz,qz,qz,qz,qz,qz,qz,qz,qz,qz,qz,qz,qz,qz],List.replicate 67 0⟩
theorem f18_l2_eq (run:Run) (n k0 k2:Nat) (x9_3 x11_3:List AV) (x13_1:Int):f18_l2 run n k0 (k2+1) x9_3 x11_3 x13_1 =
  bif ltI 0 x13_1 then
    bif inR x13_1 x9_3.length then
    bif Nat.ble ((x11_3.length+1)*8) 140737488355328 then
    f18_l2 run n k0 k2 x9_3 (x11_3++[.int ((nth x9_3 (Int.toNat x13_1)).toInt)]) (IntKind.wrap .i64 (x13_1-1))
  else none
  else none
  else
    some ⟨[.slice x11_3],[],f18_fresh⟩:=by kernel_rfl
theorem f18_l0_eq (run:Run) (n k0:Nat) (x9_1 x10_1 x11_1:List AV) (x12_1:Int):f18_l0 run n (k0+1) x9_1 x10_1 x11_1 x12_1 =
  bif leI 0 x12_1 then
    bif inR x12_1 x10_1.length then
    bif Nat.ble ((x11_1.length+1)*8) 140737488355328 then
    f18_l0 run n k0 x9_1 x10_1 (x11_1++[.int ((nth x10_1 (Int.toNat x12_1)).toInt)]) (IntKind.wrap .i64 (x12_1-1))
  else none
  else none
  else
    f18_l2 run n k0 n x9_1 x11_1 (IntKind.wrap .i64 ((x9_1.length:Int)-2)):=by kernel_rfl
noncomputable def f18 (run:Run) (n:Nat) (a0_1:List AV) (a1_1 a2_1 a3_1:Int):Option Res:=evalK G run n f18_info.keep 0 f18_info.body (retE G f18_info) (f18_info.start [.slice a0_1,.int a1_1,.int a2_1,.int a3_1])
theorem f18_eq (run:Run) (n:Nat) (a0_1:List AV) (a1_1 a2_1 a3_1:Int):f18 run n a0_1 a1_1 a2_1 a3_1 =
  bif leI a1_1 a2_1 then
    some ⟨[.slice []],[],f18_fresh⟩
  else
    bif leI a2_1 a3_1 then
    some ⟨[.slice []],[],f18_fresh⟩
  else
    (run 37 [.slice a0_1,.int a1_1,.int a2_1]).bind fun r1 =>
    bif r1.fresh then
    nilV r1.outs (consV r1.vals fun v1 vs1 =>
    nilV vs1 ((run 37 [.slice a0_1,.int a2_1,.int a3_1]).bind fun r2 =>
    bif r2.fresh then
    nilV r2.outs (consV r2.vals fun v2 vs2 =>
    nilV vs2 (bif eqI (v1.toSlice.length:Int) 0 then
    some ⟨[.slice []],[],f18_fresh⟩
  else
    bif eqI (v2.toSlice.length:Int) 0 then
    some ⟨[.slice []],[],f18_fresh⟩
  else
    f18_l0 run n n v1.toSlice v2.toSlice [] (IntKind.wrap .i64 ((v2.toSlice.length:Int)-2))))
  else none))
  else none:=by kernel_rfl
theorem f18_run (ext:Run) (n:Nat) (a0_1:List AV) (a1_1 a2_1 a3_1:Int):runE G ext (n+1) 18 [.slice a0_1,.int a1_1,.int a2_1,.int a3_1]=f18 (runE G ext n) n a0_1 a1_1 a2_1 a3_1:=runE_succ f18_at f18_in
noncomputable def f46_l0 (run:Run) (n k0:Nat) (x2_1:Int) (x7_1:List AV) (x8_1:Int):Option Res :=
  iterK (evalK G run n f46_keep 0 (sub [1,1,0,1,0,0] f46_body)) f46_t0 f46_o0 (blockK 0 (seqK (evalK G run n f46_keep 0 (sub [1,1,1] f46_body) (retE G f46_info)) (retE G f46_info))) k0
    ⟨[qa,qa,.val (.int .i64) none (.int x2_1),qa,qa,qa,qa,.val (.slice (.int .i64)) (some (7,0)) (.slice x7_1),.val (.int .i64) none (.int x8_1),qa,qa,qa,qa,qa,qa,qa,qa,qa,qa,qa,qa,qa,qa,qa,.any],[qz,qz,qz,qz,qz,qz,qz,qz,qz,qz,qz,qz,qz,qz,qz,qz,qz,qz,qz,qz,qz,qz,qz,qz,qz],List.replicate 25 0⟩
theorem f46_l0_eq (run:Run) (n k0:Nat) (x2_1:Int) (x7_1:List AV) (x8_1:Int):f46_l0 run n (k0+1) x2_1 x7_1 x8_1 =
  bif ltI x8_1 (x7_1.length:Int) then
    bif inR x8_1 x7_1.length then
    bif eqI ((nth x7_1 (Int.toNat x8_1)).toInt) x2_1 then
    some ⟨[.int x8_1],[],f46_fresh⟩
  else
    f46_l0 run n k0 x2_1 x7_1 (IntKind.wrap .i64 (x8_1+1))
  else none
  else
    some ⟨[.int (-1)],[],f46_fresh⟩:=by kernel_rfl
noncomputable def f46 (run:Run) (n:Nat) (a0_1:List AV) (a1_1 a2_1:Int):Option Res:=evalK G run n f46_info.keep 0 f46_info.body (retE G f46_info) (f46_info.start [.slice a0_1,.int a1_1,.int a2_1])
theorem f46_eq (run:Run) (n:Nat) (a0_1:List AV) (a1_1 a2_1:Int):f46 run n a0_1 a1_1 a2_1 =
  (run 69 [.slice a0_1,.int a1_1]).bind fun r1 =>
    bif r1.fresh then
    nilV r1.outs (consV r1.vals fun v1 vs1 =>
    nilV vs1 (f46_l0 run n n a2_1 v1.toSlice 0))
  else none:=by kernel_rfl
theorem f46_run (ext:Run) (n:Nat) (a0_1:List AV) (a1_1 a2_1:Int):runE G ext (n+1) 46 [.slice a0_1,.int a1_1,.int a2_1]=f46 (runE G ext n) n a0_1 a1_1 a2_1:=runE_succ f46_at f46_in
noncomputable def f24_l0 (run:Run) (n k0:Nat) (x1_1 x2_1:List AV) (x8_1 x9_1 x10_1:List AV) (x11_1:Int):Option Res :=
  iterK (evalK G run n f24_keep 0 (sub [1,1,1,1,0,1,0,0] f24_body)) f24_t0 f24_o0 (blockK 0 (seqK (evalK G run n f24_keep 0 (sub [1,1,1,1,1] f24_body) (retE G f24_info)) (retE G f24_info))) k0
    ⟨[qa,.val (.slice (.struct [(.struct [(.int .u32),(.blob 32),(.blob 32),(.int .u64)]),(.slice .str)])) none (.slice x1_1),.val (.slice (.int .i64)) none (.slice x2_1),qa,qa,qa,qa,qa,.val (.slice (.blob 32)) (some (8,0)) (.slice x8_1),.val (.slice (.int .i64)) (some (9,0)) (.slice x9_1),.val (.slice (.struct [(.struct [(.int .u32),(.blob 32),(.blob 32),(.int .u64)]),(.struct [(.int .i64),(.int .i64),(.slice (.blob 32))])])) (some (10,0)) (.slice x10_1),.val (.int .i64) none (.int x11_1),qa,qa,qa,qa,qa,qa,qa,qa,qa,qa,qa,qa,qa,qa,qa,qa,qa,qa,qa,qa,qa,qa,qa,qa,qa,qa,qa,qa,qa,qa,qa,qa,qa,qa,qa,qa,qa,qa,qa,qa,qa,qa,qa,qa,qa,qa,qa,qa,qa,qa,qa,qa,qa,qa,qa,qa,qa,qa,qa,qa,qa,qa,qa,qa,qa,.any],[qz,qz,qz,qz,qz,qz,qz,qz,qz,qz,qz,qz,qz,qz,qz,qz,qz,qz,qz,qz,qz,qz,qz,qz,qz,qz,qz,qz,qz,qz,qz,qz,qz,qz,qz,qz,qz,qz,qz,qz,qz,qz,qz,qz,qz,qz,qz,qz,qz,qz,qz,qz,qz,qz,qz,qz,qz,qz,qz,qz,qz,qz,qz,qz,qz,qz,qz,qz,qz,qz,qz,qz,qz,qz,qz,qz,qz,qz],List.replicate 78 0⟩
theorem f24_l0_eq (run:Run) (n k0:Nat) (x1_1 x2_1:List AV) (x8_1 x9_1 x10_1:List AV) (x11_1:Int):f24_l0 run n (k0+1) x1_1 x2_1 x8_1 x9_1 x10_1 x11_1 =
  bif ltI x11_1 (x2_1.length:Int) then
    bif inR x11_1 x2_1.length then
    bif ltI ((nth x2_1 (Int.toNat x11_1)).toInt) 0 then
    some ⟨[.slice [],.int 15],[],f24_fresh⟩
  else
    bif leI (x1_1.length:Int) ((nth x2_1 (Int.toNat x11_1)).toInt) then
    some ⟨[.slice [],.int 15],[],f24_fresh⟩
  else
    bif inR ((nth x2_1 (Int.toNat x11_1)).toInt) x1_1.length then
    bif ltI 0 x11_1 then
    bif inR (IntKind.wrap .i64 (x11_1-1)) x2_1.length then
    (run 46 [.slice x9_1,.int ((nth x2_1 (Int.toNat x11_1)).toInt),.int ((nth x2_1 (Int.toNat (IntKind.wrap .i64 (x11_1-1)))).toInt)]).bind fun r3 =>
    nilV r3.outs (consV r3.vals fun v3 vs3 =>
    nilV vs3 (bif ltI v3.toInt 0 then
    some ⟨[.slice [],.int 10],[],f24_fresh⟩
  else
    (run 49 [.slice x8_1,.slice x9_1,.int ((nth x2_1 (Int.toNat x11_1)).toInt)]).bind fun r4 =>
    bif r4.fresh then
    nilV r4.outs (consV r4.vals fun v4 vs4 =>
    nilV vs4 ((run 48 [.slice v4.toSlice]).bind fun r5 =>
    bif r5.fresh then
    nilV r5.outs (consV r5.vals fun v5 vs5 =>
    nilV vs5 ((run 47 [.slice v5.toSlice,.int v3.toInt]).bind fun r6 =>
    nilV r6.outs (consV r6.vals fun v6 vs6 =>
    consV vs6 fun v7 vs7 =>
    nilV vs7 (bif !(eqI v7.toInt 0) then
    some ⟨[.slice [],.int v7.toInt],[],f24_fresh⟩
  else
    bif Nat.ble ((x10_1.length+1)*120) 140737488355328 then
    f24_l0 run n k0 x1_1 x2_1 x8_1 x9_1 (x10_1++[.agg [.agg [.int ((((nth x1_1 (Int.toNat ((nth x2_1 (Int.toNat x11_1)).toInt))).fld 0).fld 0).toInt),.blob ((((nth x1_1 (Int.toNat ((nth x2_1 (Int.toNat x11_1)).toInt))).fld 0).fld 1).toBlob),.blob ((((nth x1_1 (Int.toNat ((nth x2_1 (Int.toNat x11_1)).toInt))).fld 0).fld 2).toBlob),.int ((((nth x1_1 (Int.toNat ((nth x2_1 (Int.toNat x11_1)).toInt))).fld 0).fld 3).toInt)],.agg [.int ((v6.fld 0).toInt),.int ((v6.fld 1).toInt),.slice ((v6.fld 2).toSlice)]]]) (IntKind.wrap .i64 (x11_1+1))
  else none))))
  else none))
  else none))
  else none
  else
    bif Nat.ble ((x10_1.length+1)*120) 140737488355328 then
    f24_l0 run n k0 x1_1 x2_1 x8_1 x9_1 (x10_1++[.agg [.agg [.int ((((nth x1_1 (Int.toNat ((nth x2_1 (Int.toNat x11_1)).toInt))).fld 0).fld 0).toInt),.blob ((((nth x1_1 (Int.toNat ((nth x2_1 (Int.toNat x11_1)).toInt))).fld 0).fld 1).toBlob),.blob ((((nth x1_1 (Int.toNat ((nth x2_1 (Int.toNat x11_1)).toInt))).fld 0).fld 2).toBlob),.int ((((nth x1_1 (Int.toNat ((nth x2_1 (Int.toNat x11_1)).toInt))).fld 0).fld 3).toInt)],.agg [.int 0,.int 0,.slice []]]]) (IntKind.wrap .i64 (x11_1+1))
  else none
  else none
  else none
  else
    some ⟨[.slice x10_1,.int 0],[],f24_fresh⟩:=by kernel_rfl
noncomputable def f24 (run:Run) (n:Nat) (a0_1:List UInt8) (a1_1 a2_1:List AV):Option Res:=evalK G run n f24_info.keep 0 f24_info.body (retE G f24_info) (f24_info.start [.blob a0_1,.slice a1_1,.slice a2_1])
theorem f24_eq (run:Run) (n:Nat) (a0_1:List UInt8) (a1_1 a2_1:List AV):f24 run n a0_1 a1_1 a2_1 =
  (run 29 [.slice a1_1]).bind fun r1 =>
    bif r1.fresh then
    nilV r1.outs (consV r1.vals fun v1 vs1 =>
    nilV vs1 ((run 28 [.blob a0_1,.slice v1.toSlice]).bind fun r2 =>
    bif r2.fresh then
    nilV r2.outs (consV r2.vals fun v2 vs2 =>
    nilV vs2 (f24_l0 run n n a1_1 a2_1 v1.toSlice v2.toSlice [] 0))
  else none))
  else none:=by kernel_rfl
theorem f24_run (ext:Run) (n:Nat) (a0_1:List UInt8) (a1_1 a2_1:List AV):runE G ext (n+1) 24 [.blob a0_1,.slice a1_1,.slice a2_1]=f24 (runE G ext n) n a0_1 a1_1 a2_1:=runE_succ f24_at f24_in
end Go.Proofs.YteiahdlklppghaaGreat.Ev

