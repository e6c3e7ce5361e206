import Derived.Test.YteiahdlklppghaaGreatPrWEvFA
namespace Go.Proofs.YteiahdlklppghaaGreat.Ev
open Go Go.RowKit
set_option maxRecDepth 100000
noncomputable def f25_l2 (run:Run) (n k0 k2:Nat) (x1_2 x3_2 x4_2:Int) (x11_2:List AV) (m2:Nat) (x13_2 x14_2:Int) (x55_1:List AV) (x56_1 x57_1:Int) (o45_2:List AV):Option Res :=
  iterK (evalK G run n f25_keep 2 (sub [1,1,1,1,1,0,1,0,0,1,0,0,0,1,0,0] f25_body)) f25_t2 f25_o2 (blockK 2 (seqK (evalK G run n f25_keep 1 (sub [1,1,1,1,1,0,1,0,0,1,0,0,1] f25_body) (blockK 1 (seqK (evalK G run n f25_keep 0 (sub [1,1,1,1,1,0,1,0,0,1,1] f25_body) (seqK (fun t=>iterK (evalK G run n f25_keep 0 (sub [1,1,1,1,1,0,1,0,0] f25_body)) f25_t0 f25_o0 (blockK 0 (seqK (evalK G run n f25_keep 0 (sub [1,1,1,1,1,1] f25_body) (retE G f25_info)) (retE G f25_info))) k0 (t.clear f25_t0 f25_o0)) (blockK 0 (seqK (evalK G run n f25_keep 0 (sub [1,1,1,1,1,1] f25_body) (retE G f25_info)) (retE G f25_info))))) (seqK (fun t=>iterK (evalK G run n f25_keep 0 (sub [1,1,1,1,1,0,1,0,0] f25_body)) f25_t0 f25_o0 (blockK 0 (seqK (evalK G run n f25_keep 0 (sub [1,1,1,1,1,1] f25_body) (retE G f25_info)) (retE G f25_info))) k0 (t.clear f25_t0 f25_o0)) (blockK 0 (seqK (evalK G run n f25_keep 0 (sub [1,1,1,1,1,1] f25_body) (retE G f25_info)) (retE G f25_info))))))) (blockK 1 (seqK (evalK G run n f25_keep 0 (sub [1,1,1,1,1,0,1,0,0,1,1] f25_body) (seqK (fun t=>iterK (evalK G run n f25_keep 0 (sub [1,1,1,1,1,0,1,0,0] f25_body)) f25_t0 f25_o0 (blockK 0 (seqK (evalK G run n f25_keep 0 (sub [1,1,1,1,1,1] f25_body) (retE G f25_info)) (retE G f25_info))) k0 (t.clear f25_t0 f25_o0)) (blockK 0 (seqK (evalK G run n f25_keep 0 (sub [1,1,1,1,1,1] f25_body) (retE G f25_info)) (retE G f25_info))))) (seqK (fun t=>iterK (evalK G run n f25_keep 0 (sub [1,1,1,1,1,0,1,0,0] f25_body)) f25_t0 f25_o0 (blockK 0 (seqK (evalK G run n f25_keep 0 (sub [1,1,1,1,1,1] f25_body) (retE G f25_info)) (retE G f25_info))) k0 (t.clear f25_t0 f25_o0)) (blockK 0 (seqK (evalK G run n f25_keep 0 (sub [1,1,1,1,1,1] f25_body) (retE G f25_info)) (retE G f25_info)))))))) k2
    ⟨[qa,.val (.int .i64) none (.int x1_2),qa,.val (.int .i64) none (.int x3_2),.val (.int .i64) none (.int x4_2),qa,qa,qa,qa,qa,qa,.val (.slice (.int .i64)) none (.slice x11_2),.ref ⟨(.arr m2 .bool),45,1,[]⟩ 0 m2,.val (.int .i64) none (.int x13_2),.val (.int .i64) none (.int x14_2),qa,qa,qa,qa,qa,qa,qa,qa,qa,qa,qa,qa,qa,qa,qa,qa,qa,qa,qa,qa,qa,qa,qa,qa,qa,qa,qa,qa,qa,qa,qa,qa,qa,qa,qa,qa,qa,qa,qa,qa,.val (.slice (.int .i64)) (some (55,0)) (.slice x55_1),.val (.int .i64) none (.int x56_1),.val (.int .i64) none (.int x57_1),qa,qa,qa,qa,qa,qa,qa,qa,qa,qa,qa,qa,qa,qa,qa,qa,qa,qa,qa,qa,qa,qa,qa,qa,qa,qa,qa,.any],[qz,qz,qz,qz,qz,qz,qz,qz,qz,qz,qz,qz,qz,qz,qz,qz,qz,qz,qz,qz,qz,qz,qz,qz,qz,qz,qz,qz,qz,qz,qz,qz,qz,qz,qz,qz,qz,qz,qz,qz,qz,qz,qz,qz,qz,⟨1,some ⟨(.arr m2 .bool),.agg o45_2⟩⟩,qz,qz,qz,qz,qz,qz,qz,qz,qz,qz,qz,qz,qz,qz,qz,qz,qz,qz,qz,qz,qz,qz,qz,qz,qz,qz,qz,qz,qz,qz,qz,qz,qz,qz,qz,qz,qz,qz,qz,qz],List.replicate 86 0⟩
noncomputable def f25_l4 (run:Run) (n _k0 k4:Nat) (x17_1:List AV) (m5:Nat) (x73_1 x74_1:Int) (o45_5:List AV):Option Res :=
  iterK (evalK G run n f25_keep 4 (sub [1,1,1,1,1,1,1,0,1,0,0] f25_body)) f25_t4 f25_o4 (blockK 4 (seqK (evalK G run n f25_keep 0 (sub [1,1,1,1,1,1,1,1] f25_body) (retE G f25_info)) (retE G f25_info))) k4
    ⟨[qa,qa,qa,qa,qa,qa,qa,qa,qa,qa,qa,qa,qa,qa,qa,qa,qa,.val (.slice (.int .i64)) (some (17,0)) (.slice x17_1),qa,qa,qa,qa,qa,qa,qa,qa,qa,qa,qa,qa,qa,qa,qa,qa,qa,qa,qa,qa,qa,qa,qa,qa,qa,qa,qa,qa,qa,qa,qa,qa,qa,qa,qa,qa,qa,qa,qa,qa,qa,qa,qa,qa,qa,qa,qa,qa,qa,qa,qa,qa,qa,qa,.ref ⟨(.arr m5 .bool),45,1,[]⟩ 0 m5,.val (.int .i64) none (.int x73_1),.val (.int .i64) none (.int x74_1),qa,qa,qa,qa,qa,qa,qa,qa,qa,qa,.any],[qz,qz,qz,qz,qz,qz,qz,qz,qz,qz,qz,qz,qz,qz,qz,qz,qz,qz,qz,qz,qz,qz,qz,qz,qz,qz,qz,qz,qz,qz,qz,qz,qz,qz,qz,qz,qz,qz,qz,qz,qz,qz,qz,qz,qz,⟨1,some ⟨(.arr m5 .bool),.agg o45_5⟩⟩,qz,qz,qz,qz,qz,qz,qz,qz,qz,qz,qz,qz,qz,qz,qz,qz,qz,qz,qz,qz,qz,qz,qz,qz,qz,qz,qz,qz,qz,qz,qz,qz,qz,qz,qz,qz,qz,qz,qz,qz],List.replicate 86 0⟩
noncomputable def f25_l0 (run:Run) (n k0:Nat) (x1_1 x3_1 x4_1:Int) (x11_1:List AV) (m1:Nat) (x13_1 x14_1:Int) (o45_1:List AV):Option Res :=
  iterK (evalK G run n f25_keep 0 (sub [1,1,1,1,1,0,1,0,0] f25_body)) f25_t0 f25_o0 (blockK 0 (seqK (evalK G run n f25_keep 0 (sub [1,1,1,1,1,1] f25_body) (retE G f25_info)) (retE G f25_info))) k0
    ⟨[qa,.val (.int .i64) none (.int x1_1),qa,.val (.int .i64) none (.int x3_1),.val (.int .i64) none (.int x4_1),qa,qa,qa,qa,qa,qa,.val (.slice (.int .i64)) none (.slice x11_1),.ref ⟨(.arr m1 .bool),45,1,[]⟩ 0 m1,.val (.int .i64) none (.int x13_1),.val (.int .i64) none (.int x14_1),qa,qa,qa,qa,qa,qa,qa,qa,qa,qa,qa,qa,qa,qa,qa,qa,qa,qa,qa,qa,qa,qa,qa,qa,qa,qa,qa,qa,qa,qa,qa,qa,qa,qa,qa,qa,qa,qa,qa,qa,qa,qa,qa,qa,qa,qa,qa,qa,qa,qa,qa,qa,qa,qa,qa,qa,qa,qa,qa,qa,qa,qa,qa,qa,qa,qa,qa,qa,qa,qa,.any],[qz,qz,qz,qz,qz,qz,qz,qz,qz,qz,qz,qz,qz,qz,qz,qz,qz,qz,qz,qz,qz,qz,qz,qz,qz,qz,qz,qz,qz,qz,qz,qz,qz,qz,qz,qz,qz,qz,qz,qz,qz,qz,qz,qz,qz,⟨1,some ⟨(.arr m1 .bool),.agg o45_1⟩⟩,qz,qz,qz,qz,qz,qz,qz,qz,qz,qz,qz,qz,qz,qz,qz,qz,qz,qz,qz,qz,qz,qz,qz,qz,qz,qz,qz,qz,qz,qz,qz,qz,qz,qz,qz,qz,qz,qz,qz,qz],List.replicate 86 0⟩
theorem f25_l2_eq (run:Run) (n k0 k2:Nat) (x1_2 x3_2 x4_2:Int) (x11_2:List AV) (m2:Nat) (x13_2 x14_2:Int) (x55_1:List AV) (x56_1 x57_1:Int) (o45_2:List AV):f25_l2 run n k0 (k2+1) x1_2 x3_2 x4_2 x11_2 m2 x13_2 x14_2 x55_1 x56_1 x57_1 o45_2 =
  bif ltI x57_1 x56_1 then
    bif inR x57_1 x55_1.length then
    bif inR ((nth x55_1 (Int.toNat x57_1)).toInt) m2 then
    f25_l2 run n k0 k2 x1_2 x3_2 x4_2 x11_2 m2 x13_2 x14_2 x55_1 x56_1 (IntKind.wrap .i64 (x57_1+1)) (o45_2.set (0+(Int.toNat ((nth x55_1 (Int.toNat x57_1)).toInt))) (.bool true))
  else none
  else none
  else
    (run 52 [.slice x11_2,.int x13_2,.int x14_2,.int x1_2,.int x3_2,.int x4_2]).bind fun r4 =>
    nilV r4.outs (consV r4.vals fun v4 vs4 =>
    nilV vs4 (f25_l0 run n k0 x1_2 x3_2 x4_2 x11_2 m2 v4.toInt (IntKind.wrap .i64 (x14_2-1)) o45_2)):=by kernel_rfl
theorem f25_l4_eq (run:Run) (n k0 k4:Nat) (x17_1:List AV) (m5:Nat) (x73_1 x74_1:Int) (o45_5:List AV):f25_l4 run n k0 (k4+1) x17_1 m5 x73_1 x74_1 o45_5 =
  bif ltI x74_1 x73_1 then
    bif inR x74_1 m5 then
    bif (AV.fld (.agg o45_5) (0+(Int.toNat x74_1))).toBool then
    bif Nat.ble ((x17_1.length+1)*8) 140737488355328 then
    f25_l4 run n k0 k4 (x17_1++[.int x74_1]) m5 x73_1 (IntKind.wrap .i64 (x74_1+1)) o45_5
  else none
  else
    f25_l4 run n k0 k4 x17_1 m5 x73_1 (IntKind.wrap .i64 (x74_1+1)) o45_5
  else none
  else
    some ⟨[.slice x17_1],[],f25_fresh⟩:=by kernel_rfl
theorem f25_l0_eq (run:Run) (n k0:Nat) (x1_1 x3_1 x4_1:Int) (x11_1:List AV) (m1:Nat) (x13_1 x14_1:Int) (o45_1:List AV):f25_l0 run n (k0+1) x1_1 x3_1 x4_1 x11_1 m1 x13_1 x14_1 o45_1 =
  bif leI 0 x14_1 then
    (run 51 [.slice x11_1,.int x13_1,.int x14_1]).bind fun r3 =>
    bif r3.fresh then
    nilV r3.outs (consV r3.vals fun v3 vs3 =>
    nilV vs3 (f25_l2 run n k0 n x1_1 x3_1 x4_1 x11_1 m1 x13_1 x14_1 v3.toSlice (v3.toSlice.length:Int) 0 o45_1))
  else none
  else
    f25_l4 run n k0 n [] m1 (m1:Int) 0 o45_1:=by kernel_rfl
noncomputable def f25 (run:Run) (n:Nat) (a0_1:List AV) (a1_1 a2_1:Int) (a3_1 a4_1:Int):Option Res:=evalK G run n f25_info.keep 0 f25_info.body (retE G f25_info) (f25_info.start [.slice a0_1,.int a1_1,.int a2_1,.int a3_1,.int a4_1])
theorem f25_eq (run:Run) (n:Nat) (a0_1:List AV) (a1_1 a2_1:Int) (a3_1 a4_1:Int):f25 run n a0_1 a1_1 a2_1 a3_1 a4_1 =
  (run 32 [.int a1_1,.int a2_1,.int a3_1,.int a4_1]).bind fun r1 =>
    nilV r1.outs (consV r1.vals fun v1 vs1 =>
    nilV vs1 (bif !v1.toBool then
    some ⟨[.slice []],[],f25_fresh⟩
  else
    bif leI (a0_1.length:Int) a2_1 then
    some ⟨[.slice []],[],f25_fresh⟩
  else
    bif ltI 1024 (a0_1.length:Int) then
    some ⟨[.slice []],[],f25_fresh⟩
  else
    bif boundsOk 0 (IntKind.wrap .i64 ((a0_1.length:Int)-a2_1)) (a0_1.length:Int) (a0_1.length:Int)&&true then
    bif eqI ((List.drop 0 (List.take (Int.toNat (IntKind.wrap .i64 ((a0_1.length:Int)-a2_1))) a0_1)).length:Int) ((List.drop 0 (List.take (Int.toNat (IntKind.wrap .i64 ((a0_1.length:Int)-a2_1))) a0_1)).length:Int)&&leI 0 ((List.drop 0 (List.take (Int.toNat (IntKind.wrap .i64 ((a0_1.length:Int)-a2_1))) a0_1)).length:Int)&&Nat.ble (Int.toNat ((List.drop 0 (List.take (Int.toNat (IntKind.wrap .i64 ((a0_1.length:Int)-a2_1))) a0_1)).length:Int)*1) 140737488355328 then
    (run 50 [.slice (List.drop 0 (List.take (Int.toNat (IntKind.wrap .i64 ((a0_1.length:Int)-a2_1))) a0_1))]).bind fun r2 =>
    nilV r2.outs (consV r2.vals fun v2 vs2 =>
    nilV vs2 (f25_l0 run n n a1_1 a3_1 a4_1 (List.drop 0 (List.take (Int.toNat (IntKind.wrap .i64 ((a0_1.length:Int)-a2_1))) a0_1)) (Int.toNat ((List.drop 0 (List.take (Int.toNat (IntKind.wrap .i64 ((a0_1.length:Int)-a2_1))) a0_1)).length:Int)) 0 v2.toInt (List.replicate (Int.toNat ((List.drop 0 (List.take (Int.toNat (IntKind.wrap .i64 ((a0_1.length:Int)-a2_1))) a0_1)).length:Int)) (.bool false))))
  else none
  else none)):=by kernel_rfl
theorem f25_run (ext:Run) (n:Nat) (a0_1:List AV) (a1_1 a2_1:Int) (a3_1 a4_1:Int):runE G ext (n+1) 25 [.slice a0_1,.int a1_1,.int a2_1,.int a3_1,.int a4_1]=f25 (runE G ext n) n a0_1 a1_1 a2_1 a3_1 a4_1:=runE_succ f25_at f25_in
noncomputable def f11_l0 (run:Run) (n k0:Nat) (x1_1 x5_1:List AV) (x6_1:Int):Option Res :=
  iterK (evalK G run n f11_keep 0 (sub [1,1,0,1,0,0] f11_body)) f11_t0 f11_o0 (blockK 0 (seqK (evalK G run n f11_keep 0 (sub [1,1,1] f11_body) (retE G f11_info)) (retE G f11_info))) k0
    ⟨[qa,.val (.slice (.struct [(.struct [(.int .u32),(.blob 32),(.blob 32),(.int .u64)]),(.slice .str)])) none (.slice x1_1),qa,qa,qa,.val (.slice (.int .i64)) (some (5,0)) (.slice x5_1),.val (.int .i64) none (.int x6_1),qa,qa,qa,qa,qa,qa,qa,qa,qa,qa,qa,qa,qa,qa,qa,qa,qa,qa,qa,qa,qa,qa,qa,qa,qa,qa,qa,qa,qa,qa,qa,qa,qa,qa,qa,.any],[qz,qz,qz,qz,qz,qz,qz,qz,qz,qz,qz,qz,qz,qz,qz,qz,qz,qz,qz,qz,qz,qz,qz,qz,qz,qz,qz,qz,qz,qz,qz,qz,qz,qz,qz,qz,qz,qz,qz,qz,qz,qz,qz],List.replicate 43 0⟩
theorem f11_l0_eq (run:Run) (n k0:Nat) (x1_1 x5_1:List AV) (x6_1:Int):f11_l0 run n (k0+1) x1_1 x5_1 x6_1 =
  bif ltI x6_1 (x1_1.length:Int) then
    bif ltI 0 (x5_1.length:Int) then
    bif Nat.ble ((x5_1.length+1)*8) 140737488355328 then
    f11_l0 run n k0 x1_1 (x5_1++[.int x6_1]) (IntKind.wrap .i64 (x6_1+1))
  else none
  else
    some ⟨[.slice x5_1],[],f11_fresh⟩
  else
    some ⟨[.slice x5_1],[],f11_fresh⟩:=by kernel_rfl
noncomputable def f11 (run:Run) (n:Nat) (a0_1:Int) (a0_2 a0_3:List UInt8) (a0_4:Int) (a0_5:List UInt8) (a0_6 a0_7:Int) (a0_8 a0_9:Int) (a0_10 a0_11:Int) (a1_1:List AV):Option Res:=evalK G run n f11_info.keep 0 f11_info.body (retE G f11_info) (f11_info.start [.agg [.agg [.int a0_1,.blob a0_2,.blob a0_3,.int a0_4],.blob a0_5,.int a0_6,.int a0_7,.int a0_8,.int a0_9,.int a0_10,.int a0_11],.slice a1_1])
theorem f11_eq (run:Run) (n:Nat) (a0_1:Int) (a0_2 a0_3:List UInt8) (a0_4:Int) (a0_5:List UInt8) (a0_6 a0_7:Int) (a0_8 a0_9:Int) (a0_10 a0_11:Int) (a1_1:List AV):f11 run n a0_1 a0_2 a0_3 a0_4 a0_5 a0_6 a0_7 a0_8 a0_9 a0_10 a0_11 a1_1 =
  (run 26 [.blob a0_5,.slice a1_1]).bind fun r1 =>
    bif r1.fresh then
    nilV r1.outs (consV r1.vals fun v1 vs1 =>
    nilV vs1 ((run 25 [.slice v1.toSlice,.int a0_6,.int a0_7,.int a0_8,.int a0_9]).bind fun r2 =>
    bif r2.fresh then
    nilV r2.outs (consV r2.vals fun v2 vs2 =>
    nilV vs2 (f11_l0 run n n a1_1 v2.toSlice (mx2 0 (IntKind.wrap .i64 ((a1_1.length:Int)-mx2 a0_7 0)))))
  else none))
  else none:=by kernel_rfl
theorem f11_run (ext:Run) (n:Nat) (a0_1:Int) (a0_2 a0_3:List UInt8) (a0_4:Int) (a0_5:List UInt8) (a0_6 a0_7:Int) (a0_8 a0_9:Int) (a0_10 a0_11:Int) (a1_1:List AV):runE G ext (n+1) 11 [.agg [.agg [.int a0_1,.blob a0_2,.blob a0_3,.int a0_4],.blob a0_5,.int a0_6,.int a0_7,.int a0_8,.int a0_9,.int a0_10,.int a0_11],.slice a1_1]=f11 (runE G ext n) n a0_1 a0_2 a0_3 a0_4 a0_5 a0_6 a0_7 a0_8 a0_9 a0_10 a0_11 a1_1:=runE_succ f11_at f11_in
noncomputable def f39_l0 (run:Run) (n k0:Nat) (x0_1:List AV) (x1_1:Int) (x7_1:List AV) (x8_1 x9_1:Int):Option Res :=
  iterK (evalK G run n f39_keep 0 (sub [1,0,1,0,0] f39_body)) f39_t0 f39_o0 (blockK 0 (seqK (evalK G run n f39_keep 0 (sub [1,1] f39_body) (retE G f39_info)) (retE G f39_info))) k0
    ⟨[.val (.slice (.int .i64)) none (.slice x0_1),.val (.int .i64) none (.int x1_1),qa,qa,qa,qa,qa,.val (.slice (.int .i64)) none (.slice x7_1),.val (.int .i64) none (.int x8_1),.val (.int .i64) none (.int x9_1),qa,qa,qa,qa,qa,qa,qa,qa,qa,qa,.any],[qz,qz,qz,qz,qz,qz,qz,qz,qz,qz,qz,qz,qz,qz,qz,qz,qz,qz,qz,qz,qz],List.replicate 21 0⟩
theorem f39_l0_eq (run:Run) (n k0:Nat) (x0_1:List AV) (x1_1:Int) (x7_1:List AV) (x8_1 x9_1:Int):f39_l0 run n (k0+1) x0_1 x1_1 x7_1 x8_1 x9_1 =
  bif ltI x9_1 x8_1 then
    bif inR x9_1 x7_1.length then
    bif leI x1_1 ((nth x7_1 (Int.toNat x9_1)).toInt) then
    some ⟨[.int x9_1],[],f39_fresh⟩
  else
    f39_l0 run n k0 x0_1 x1_1 x7_1 x8_1 (IntKind.wrap .i64 (x9_1+1))
  else none
  else
    some ⟨[.int (x0_1.length:Int)],[],f39_fresh⟩:=by kernel_rfl
noncomputable def f39 (run:Run) (n:Nat) (a0_1:List AV) (a1_1:Int):Option Res:=evalK G run n f39_info.keep 0 f39_info.body (retE G f39_info) (f39_info.start [.slice a0_1,.int a1_1])
theorem f39_eq (run:Run) (n:Nat) (a0_1:List AV) (a1_1:Int):f39 run n a0_1 a1_1 =
  f39_l0 run n n a0_1 a1_1 a0_1 (a0_1.length:Int) 0:=by kernel_rfl
theorem f39_run (ext:Run) (n:Nat) (a0_1:List AV) (a1_1:Int):runE G ext (n+1) 39 [.slice a0_1,.int a1_1]=f39 (runE G ext n) n a0_1 a1_1:=runE_succ f39_at f39_in
noncomputable def f43_l0 (run:Run) (n k0:Nat) (x5_1 x9_1:List AV) (x10_1 x11_1:Int) (o2_1:List UInt8):Option Res :=
  iterK (evalK G run n f43_keep 0 (sub [1,1,0,1,0,0] f43_body)) f43_t0 f43_o0 (blockK 0 (seqK (evalK G run n f43_keep 0 (sub [1,1,1] f43_body) (retE G f43_info)) (retE G f43_info))) k0
    ⟨[qa,qa,.ptr ⟨(.blob 32),2,1,[]⟩,qa,qa,.val (.slice (.slice (.blob 32))) (some (5,0)) (.slice x5_1),qa,qa,qa,.val (.slice (.struct [(.struct [(.int .u32),(.blob 32),(.blob 32),(.int .u64)]),(.slice .str)])) none (.slice x9_1),.val (.int .i64) none (.int x10_1),.val (.int .i64) none (.int x11_1),qa,qa,qa,qa,qa,qa,qa,qa,qa,qa,qa,qa,qa,qa,qa,qa,.any],[qz,qz,⟨1,some ⟨(.blob 32),.blob o2_1⟩⟩,qz,qz,qz,qz,qz,qz,qz,qz,qz,qz,qz,qz,qz,qz,qz,qz,qz,qz,qz,qz,qz,qz,qz,qz,qz,qz],List.replicate 29 0⟩
theorem f43_l0_eq (run:Run) (n k0:Nat) (x5_1 x9_1:List AV) (x10_1 x11_1:Int) (o2_1:List UInt8):f43_l0 run n (k0+1) x5_1 x9_1 x10_1 x11_1 o2_1 =
  bif ltI x11_1 x10_1 then
    bif inR x11_1 x9_1.length then
    bif inR x11_1 x5_1.length then
    (run 62 [.blob o2_1,.slice ((nth x5_1 (Int.toNat x11_1)).toSlice),.agg [.agg [.int ((((nth x9_1 (Int.toNat x11_1)).fld 0).fld 0).toInt),.blob ((((nth x9_1 (Int.toNat x11_1)).fld 0).fld 1).toBlob),.blob ((((nth x9_1 (Int.toNat x11_1)).fld 0).fld 2).toBlob),.int ((((nth x9_1 (Int.toNat x11_1)).fld 0).fld 3).toInt)],.slice (((nth x9_1 (Int.toNat x11_1)).fld 1).toSlice)],.int x11_1]).bind fun r1 =>
    nilV r1.outs (consV r1.vals fun v1 vs1 =>
    nilV vs1 (bif Nat.ble ((x5_1.length+1)*24) 140737488355328 then
    f43_l0 run n k0 (x5_1++[.slice v1.toSlice]) x9_1 x10_1 (IntKind.wrap .i64 (x11_1+1)) o2_1
  else none))
  else none
  else none
  else
    some ⟨[.slice x5_1],[],f43_fresh⟩:=by kernel_rfl
noncomputable def f43 (run:Run) (n:Nat) (a0_1:List UInt8) (a1_1:List AV):Option Res:=evalK G run n f43_info.keep 0 f43_info.body (retE G f43_info) (f43_info.start [.blob a0_1,.slice a1_1])
theorem f43_eq (run:Run) (n:Nat) (a0_1:List UInt8) (a1_1:List AV):f43 run n a0_1 a1_1 =
  f43_l0 run n n [.slice []] a1_1 (a1_1.length:Int) 0 a0_1:=by kernel_rfl
theorem f43_run (ext:Run) (n:Nat) (a0_1:List UInt8) (a1_1:List AV):runE G ext (n+1) 43 [.blob a0_1,.slice a1_1]=f43 (runE G ext n) n a0_1 a1_1:=runE_succ f43_at f43_in
noncomputable def f100_l0 (run:Run) (n k0:Nat) (x0_1:List AV) (x2_1 x7_1:Int):Option Res :=
  iterK (evalK G run n f100_keep 0 (sub [1,0,1,0,0] f100_body)) f100_t0 f100_o0 (blockK 0 (seqK (evalK G run n f100_keep 0 (sub [1,1] f100_body) (retE G f100_info)) (retE G f100_info))) k0
    ⟨[.val (.slice (.int .i64)) none (.slice x0_1),qa,.val (.int .i64) none (.int x2_1),qa,qa,qa,qa,.val (.int .i64) none (.int x7_1),qa,qa,qa,qa,qa,qa,qa,qa,qa,qa,qa,qa,qa,qa,qa,.any],[qz,qz,qz,qz,qz,qz,qz,qz,qz,qz,qz,qz,qz,qz,qz,qz,qz,qz,qz,qz,qz,qz,qz,qz],List.replicate 24 0⟩
theorem f100_l0_eq (run:Run) (n k0:Nat) (x0_1:List AV) (x2_1 x7_1:Int):f100_l0 run n (k0+1) x0_1 x2_1 x7_1 =
  bif leI 0 x7_1 then
    bif inR x7_1 x0_1.length then
    bif leI x2_1 ((nth x0_1 (Int.toNat x7_1)).toInt) then
    some ⟨[.int x7_1],[],f100_fresh⟩
  else
    f100_l0 run n k0 x0_1 x2_1 (IntKind.wrap .i64 (x7_1-1))
  else none
  else
    some ⟨[.int (-1)],[],f100_fresh⟩:=by kernel_rfl
noncomputable def f100 (run:Run) (n:Nat) (a0_1:List AV) (a1_1 a2_1:Int):Option Res:=evalK G run n f100_info.keep 0 f100_info.body (retE G f100_info) (f100_info.start [.slice a0_1,.int a1_1,.int a2_1])
theorem f100_eq (run:Run) (n:Nat) (a0_1:List AV) (a1_1 a2_1:Int):f100 run n a0_1 a1_1 a2_1 =
  f100_l0 run n n a0_1 a2_1 (IntKind.wrap .i64 (mn2 a1_1 (a0_1.length:Int)-1)):=by kernel_rfl
theorem f100_run (ext:Run) (n:Nat) (a0_1:List AV) (a1_1 a2_1:Int):runE G ext (n+1) 100 [.slice a0_1,.int a1_1,.int a2_1]=f100 (runE G ext n) n a0_1 a1_1 a2_1:=runE_succ f100_at f100_in
noncomputable def f68_l0 (run:Run) (n k0:Nat) (x0_1:List AV) (x1_1:Int) (x5_1:List AV) (x17_1:Int):Option Res :=
  iterK (evalK G run n f68_keep 0 (sub [1,1,1,0,1,0,0] f68_body)) f68_t0 f68_o0 (blockK 0 (seqK (evalK G run n f68_keep 0 (sub [1,1,1,1] f68_body) (retE G f68_info)) (retE G f68_info))) k0
    ⟨[.val (.slice (.int .i64)) none (.slice x0_1),.val (.int .i64) none (.int x1_1),qa,qa,qa,.val (.slice (.int .i64)) (some (5,0)) (.slice x5_1),qa,qa,qa,qa,qa,qa,qa,qa,qa,qa,qa,.val (.int .i64) none (.int x17_1),qa,qa,qa,qa,qa,qa,qa,qa,qa,qa,qa,qa,qa,qa,qa,.any],[qz,qz,qz,qz,qz,qz,qz,qz,qz,qz,qz,qz,qz,qz,qz,qz,qz,qz,qz,qz,qz,qz,qz,qz,qz,qz,qz,qz,qz,qz,qz,qz,qz,qz],List.replicate 34 0⟩
theorem f68_l0_eq (run:Run) (n k0:Nat) (x0_1:List AV) (x1_1:Int) (x5_1:List AV) (x17_1:Int):f68_l0 run n (k0+1) x0_1 x1_1 x5_1 x17_1 =
  bif ltI x17_1 257 then
    (run 100 [.slice x0_1,.int x1_1,.int x17_1]).bind fun r1 =>
    nilV r1.outs (consV r1.vals fun v1 vs1 =>
    nilV vs1 (bif ltI v1.toInt 0 then
    some ⟨[.slice x5_1],[],f68_fresh⟩
  else
    bif Nat.ble ((x5_1.length+1)*8) 140737488355328 then
    bif eqI v1.toInt 0 then
    some ⟨[.slice (x5_1++[.int v1.toInt])],[],f68_fresh⟩
  else
    f68_l0 run n k0 x0_1 x1_1 (x5_1++[.int v1.toInt]) (IntKind.wrap .i64 (x17_1+1))
  else none))
  else
    some ⟨[.slice x5_1],[],f68_fresh⟩:=by kernel_rfl
noncomputable def f68 (run:Run) (n:Nat) (a0_1:List AV) (a1_1:Int):Option Res:=evalK G run n f68_info.keep 0 f68_info.body (retE G f68_info) (f68_info.start [.slice a0_1,.int a1_1])
theorem f68_eq (run:Run) (n:Nat) (a0_1:List AV) (a1_1:Int):f68 run n a0_1 a1_1 =
  bif ltI a1_1 1 then
    some ⟨[.slice []],[],f68_fresh⟩
  else
    bif ltI (a0_1.length:Int) a1_1 then
    some ⟨[.slice []],[],f68_fresh⟩
  else
    f68_l0 run n n a0_1 a1_1 [] 0:=by kernel_rfl
theorem f68_run (ext:Run) (n:Nat) (a0_1:List AV) (a1_1:Int):runE G ext (n+1) 68 [.slice a0_1,.int a1_1]=f68 (runE G ext n) n a0_1 a1_1:=runE_succ f68_at f68_in
noncomputable def f44_l0 (run:Run) (n k0:Nat) (x2_1:Int) (x11_1:List AV) (x12_1 x13_1:Int):Option Res :=
  iterK (evalK G run n f44_keep 0 (sub [1,0,1,0,0] f44_body)) f44_t0 f44_o0 (blockK 0 (seqK (evalK G run n f44_keep 0 (sub [1,1] f44_body) (retE G f44_info)) (retE G f44_info))) k0
    ⟨[qa,qa,.val (.int .i64) none (.int x2_1),qa,qa,qa,qa,qa,qa,qa,qa,.val (.slice (.int .i64)) (some (11,0)) (.slice x11_1),.val (.int .i64) none (.int x12_1),.val (.int .i64) none (.int x13_1),qa,qa,qa,qa,qa,qa,qa,qa,.any],[qz,qz,qz,qz,qz,qz,qz,qz,qz,qz,qz,qz,qz,qz,qz,qz,qz,qz,qz,qz,qz,qz,qz],List.replicate 23 0⟩
theorem f44_l0_eq (run:Run) (n k0:Nat) (x2_1:Int) (x11_1:List AV) (x12_1 x13_1:Int):f44_l0 run n (k0+1) x2_1 x11_1 x12_1 x13_1 =
  bif ltI x13_1 x12_1 then
    bif inR x13_1 x11_1.length then
    bif eqI ((nth x11_1 (Int.toNat x13_1)).toInt) x2_1 then
    some ⟨[.int x13_1],[],f44_fresh⟩
  else
    f44_l0 run n k0 x2_1 x11_1 x12_1 (IntKind.wrap .i64 (x13_1+1))
  else none
  else
    some ⟨[.int (-1)],[],f44_fresh⟩:=by kernel_rfl
noncomputable def f44 (run:Run) (n:Nat) (a0_1:List AV) (a1_1 a2_1:Int):Option Res:=evalK G run n f44_info.keep 0 f44_info.body (retE G f44_info) (f44_info.start [.slice a0_1,.int a1_1,.int a2_1])
theorem f44_eq (run:Run) (n:Nat) (a0_1:List AV) (a1_1 a2_1:Int):f44 run n a0_1 a1_1 a2_1 =
  (run 68 [.slice a0_1,.int a1_1]).bind fun r1 =>
    bif r1.fresh then
    nilV r1.outs (consV r1.vals fun v1 vs1 =>
    nilV vs1 (f44_l0 run n n a2_1 v1.toSlice (v1.toSlice.length:Int) 0))
  else none:=by kernel_rfl
theorem f44_run (ext:Run) (n:Nat) (a0_1:List AV) (a1_1 a2_1:Int):runE G ext (n+1) 44 [.slice a0_1,.int a1_1,.int a2_1]=f44 (runE G ext n) n a0_1 a1_1 a2_1:=runE_succ f44_at f44_in
noncomputable def f45 (run:Run) (n:Nat) (a0_1:List AV) (a1_1:Int):Option Res:=evalK G run n f45_info.keep 0 f45_info.body (retE G f45_info) (f45_info.start [.slice a0_1,.int a1_1])
theorem f45_eq (run:Run) (n:Nat) (a0_1:List AV) (a1_1:Int):f45 run n a0_1 a1_1 =
  (run 76 [.slice a0_1]).bind fun r1 =>
    bif r1.fresh then
    nilV r1.outs (consV r1.vals fun v1 vs1 =>
    nilV vs1 ((run 71 [.slice v1.toSlice,.int a1_1]).bind fun r2 =>
    nilV r2.outs (consV r2.vals fun v2 vs2 =>
    consV vs2 fun v3 vs3 =>
    nilV vs3 (some ⟨[.agg [.int ((v2.fld 0).toInt),.int ((v2.fld 1).toInt),.slice ((v2.fld 2).toSlice)],.int v3.toInt],[],f45_fresh⟩))))
  else none:=by kernel_rfl
theorem f45_run (ext:Run) (n:Nat) (a0_1:List AV) (a1_1:Int):runE G ext (n+1) 45 [.slice a0_1,.int a1_1]=f45 (runE G ext n) n a0_1 a1_1:=runE_succ f45_at f45_in
noncomputable def f23_l0 (run:Run) (n k0:Nat) (x1_1 x2_1:List AV) (x8_1 x9_1:List AV) (x10_1 x23_1:List AV) (x24_1 x25_1:Int):Option Res :=
  iterK (evalK G run n f23_keep 0 (sub [1,1,1,0,1,0,0] f23_body)) f23_t0 f23_o0 (blockK 0 (seqK (evalK G run n f23_keep 0 (sub [1,1,1,1] f23_body) (retE G f23_info)) (retE G f23_info))) k0
    ⟨[qa,.val (.slice (.struct [(.struct [(.int .u32),(.blob 32),(.blob 32),(.int .u64)]),(.slice .str)])) none (.slice x1_1),.val (.slice (.int .i64)) none (.slice x2_1),qa,qa,qa,qa,qa,.val (.slice (.int .i64)) (some (8,0)) (.slice x8_1),.val (.slice (.slice (.blob 32))) (some (9,0)) (.slice x9_1),.val (.slice (.struct [(.struct [(.int .u32),(.blob 32),(.blob 32),(.int .u64)]),(.struct [(.int .i64),(.int .i64),(.slice (.blob 32))])])) (some (10,0)) (.slice x10_1),qa,qa,qa,qa,qa,qa,qa,qa,qa,qa,qa,qa,.val (.slice (.int .i64)) none (.slice x23_1),.val (.int .i64) none (.int x24_1),.val (.int .i64) none (.int x25_1),qa,qa,qa,qa,qa,qa,qa,qa,qa,qa,qa,qa,qa,qa,qa,qa,qa,qa,qa,qa,qa,qa,qa,qa,qa,qa,qa,qa,qa,qa,qa,qa,qa,qa,qa,qa,qa,qa,qa,qa,qa,qa,qa,qa,qa,qa,qa,qa,qa,.any],[qz,qz,qz,qz,qz,qz,qz,qz,qz,qz,qz,qz,qz,qz,qz,qz,qz,qz,qz,qz,qz,qz,qz,qz,qz,qz,qz,qz,qz,qz,qz,qz,qz,qz,qz,qz,qz,qz,qz,qz,qz,qz,qz,qz,qz,qz,qz,qz,qz,qz,qz,qz,qz,qz,qz,qz,qz,qz,qz,qz,qz,qz,qz,qz,qz,qz,qz,qz,qz,qz,qz,qz,qz,qz,qz,qz],List.replicate 76 0⟩
theorem f23_l0_eq (run:Run) (n k0:Nat) (x1_1 x2_1:List AV) (x8_1 x9_1:List AV) (x10_1 x23_1:List AV) (x24_1 x25_1:Int):f23_l0 run n (k0+1) x1_1 x2_1 x8_1 x9_1 x10_1 x23_1 x24_1 x25_1 =
  bif ltI x25_1 x24_1 then
    bif inR x25_1 x23_1.length then
    bif ltI ((nth x23_1 (Int.toNat x25_1)).toInt) 0 then
    some ⟨[.slice [],.int 15],[],f23_fresh⟩
  else
    bif leI (x1_1.length:Int) ((nth x23_1 (Int.toNat x25_1)).toInt) then
    some ⟨[.slice [],.int 15],[],f23_fresh⟩
  else
    bif inR ((nth x23_1 (Int.toNat x25_1)).toInt) x1_1.length then
    bif ltI 0 x25_1 then
    bif inR (IntKind.wrap .i64 (x25_1-1)) x2_1.length then
    (run 44 [.slice x8_1,.int ((nth x23_1 (Int.toNat x25_1)).toInt),.int ((nth x2_1 (Int.toNat (IntKind.wrap .i64 (x25_1-1)))).toInt)]).bind fun r3 =>
    nilV r3.outs (consV r3.vals fun v3 vs3 =>
    nilV vs3 (bif ltI v3.toInt 0 then
    some ⟨[.slice [],.int 10],[],f23_fresh⟩
  else
    bif inR ((nth x23_1 (Int.toNat x25_1)).toInt) x9_1.length then
    (run 45 [.slice ((nth x9_1 (Int.toNat ((nth x23_1 (Int.toNat x25_1)).toInt))).toSlice),.int v3.toInt]).bind fun r4 =>
    nilV r4.outs (consV r4.vals fun v4 vs4 =>
    consV vs4 fun v5 vs5 =>
    nilV vs5 (bif !(eqI v5.toInt 0) then
    some ⟨[.slice [],.int v5.toInt],[],f23_fresh⟩
  else
    bif Nat.ble ((x10_1.length+1)*120) 140737488355328 then
    f23_l0 run n k0 x1_1 x2_1 x8_1 x9_1 (x10_1++[.agg [.agg [.int ((((nth x1_1 (Int.toNat ((nth x23_1 (Int.toNat x25_1)).toInt))).fld 0).fld 0).toInt),.blob ((((nth x1_1 (Int.toNat ((nth x23_1 (Int.toNat x25_1)).toInt))).fld 0).fld 1).toBlob),.blob ((((nth x1_1 (Int.toNat ((nth x23_1 (Int.toNat x25_1)).toInt))).fld 0).fld 2).toBlob),.int ((((nth x1_1 (Int.toNat ((nth x23_1 (Int.toNat x25_1)).toInt))).fld 0).fld 3).toInt)],.agg [.int ((v4.fld 0).toInt),.int ((v4.fld 1).toInt),.slice ((v4.fld 2).toSlice)]]]) x23_1 x24_1 (IntKind.wrap .i64 (x25_1+1))
  else none))
  else none))
  else none
  else
    bif Nat.ble ((x10_1.length+1)*120) 140737488355328 then
    f23_l0 run n k0 x1_1 x2_1 x8_1 x9_1 (x10_1++[.agg [.agg [.int ((((nth x1_1 (Int.toNat ((nth x23_1 (Int.toNat x25_1)).toInt))).fld 0).fld 0).toInt),.blob ((((nth x1_1 (Int.toNat ((nth x23_1 (Int.toNat x25_1)).toInt))).fld 0).fld 1).toBlob),.blob ((((nth x1_1 (Int.toNat ((nth x23_1 (Int.toNat x25_1)).toInt))).fld 0).fld 2).toBlob),.int ((((nth x1_1 (Int.toNat ((nth x23_1 (Int.toNat x25_1)).toInt))).fld 0).fld 3).toInt)],.agg [.int 0,.int 0,.slice []]]]) x23_1 x24_1 (IntKind.wrap .i64 (x25_1+1))
  else none
  else none
  else none
  else
    some ⟨[.slice x10_1,.int 0],[],f23_fresh⟩:=by kernel_rfl
noncomputable def f23 (run:Run) (n:Nat) (a0_1:List UInt8) (a1_1 a2_1:List AV):Option Res:=evalK G run n f23_info.keep 0 f23_info.body (retE G f23_info) (f23_info.start [.blob a0_1,.slice a1_1,.slice a2_1])
theorem f23_eq (run:Run) (n:Nat) (a0_1:List UInt8) (a1_1 a2_1:List AV):f23 run n a0_1 a1_1 a2_1 =
  (run 26 [.blob a0_1,.slice a1_1]).bind fun r1 =>
    bif r1.fresh then
    nilV r1.outs (consV r1.vals fun v1 vs1 =>
    nilV vs1 ((run 43 [.blob a0_1,.slice a1_1]).bind fun r2 =>
    bif r2.fresh then
    nilV r2.outs (consV r2.vals fun v2 vs2 =>
    nilV vs2 (f23_l0 run n n a1_1 a2_1 v1.toSlice v2.toSlice [] a2_1 (a2_1.length:Int) 0))
  else none))
  else none:=by kernel_rfl
theorem f23_run (ext:Run) (n:Nat) (a0_1:List UInt8) (a1_1 a2_1:List AV):runE G ext (n+1) 23 [.blob a0_1,.slice a1_1,.slice a2_1]=f23 (runE G ext n) n a0_1 a1_1 a2_1:=runE_succ f23_at f23_in
noncomputable def f40 (run:Run) (n:Nat) (a0_1:List UInt8) (a1_1 a2_1:List AV) (a3_1 a4_1:Int) (a4_2:List AV) (a4_3 a4_4:Int) (a4_5:List AV) (a4_6:Int) (a4_7:List UInt8) (a4_8 a4_9:Int) (a4_10:List AV):Option Res:=evalK G run n f40_info.keep 0 f40_info.body (retE G f40_info) (f40_info.start [.blob a0_1,.slice a1_1,.slice a2_1,.int a3_1,.agg [.int a4_1,.slice a4_2,.agg [.int a4_3,.int a4_4,.slice a4_5],.int a4_6,.str a4_7,.agg [.int a4_8,.int a4_9,.slice a4_10]]])
theorem f40_eq (run:Run) (n:Nat) (a0_1:List UInt8) (a1_1 a2_1:List AV) (a3_1 a4_1:Int) (a4_2:List AV) (a4_3 a4_4:Int) (a4_5:List AV) (a4_6:Int) (a4_7:List UInt8) (a4_8 a4_9:Int) (a4_10:List AV):f40 run n a0_1 a1_1 a2_1 a3_1 a4_1 a4_2 a4_3 a4_4 a4_5 a4_6 a4_7 a4_8 a4_9 a4_10 =
  bif inR (IntKind.wrap .i64 (a4_1-1)) a2_1.length then
    bif inR a4_1 a2_1.length then
    (run 26 [.blob a0_1,.slice a1_1]).bind fun r1 =>
    bif r1.fresh then
    nilV r1.outs (consV r1.vals fun v1 vs1 =>
    nilV vs1 ((run 17 [.slice v1.toSlice,.int ((nth a2_1 (Int.toNat a4_1)).toInt),.int a3_1,.int ((nth a2_1 (Int.toNat (IntKind.wrap .i64 (a4_1-1)))).toInt)]).bind fun r2 =>
    nilV r2.outs (consV r2.vals fun v2 vs2 =>
    nilV vs2 (bif Nat.ble ((1+v2.toSlice.length)*8) 140737488355328 then
    bif Nat.ble ((([.int ((nth a2_1 (Int.toNat (IntKind.wrap .i64 (a4_1-1)))).toInt)]++v2.toSlice:List AV).length+1)*8) 140737488355328 then
    (run 23 [.blob a0_1,.slice a1_1,.slice (([.int ((nth a2_1 (Int.toNat (IntKind.wrap .i64 (a4_1-1)))).toInt)]++v2.toSlice)++[.int ((nth a2_1 (Int.toNat a4_1)).toInt)])]).bind fun r3 =>
    nilV r3.outs (consV r3.vals fun v3 vs3 =>
    consV vs3 fun v4 vs4 =>
    nilV vs4 (bif !(eqI v4.toInt 0) then
    some ⟨[.agg [.int 0,.slice [],.agg [.int 0,.int 0,.slice []],.int 0,.str [],.agg [.int 0,.int 0,.slice []]],.int v4.toInt],[],f40_fresh⟩
  else
    bif boundsOk 1 (IntKind.wrap .i64 ((v3.toSlice.length:Int)-1)) (v3.toSlice.length:Int) (v3.toSlice.length:Int)&&true then
    bif inR (IntKind.wrap .i64 ((v3.toSlice.length:Int)-1)) v3.toSlice.length then
    (run 39 [.slice v2.toSlice,.int a3_1]).bind fun r4 =>
    nilV r4.outs (consV r4.vals fun v5 vs5 =>
    nilV vs5 (some ⟨[.agg [.int a4_1,.slice (List.drop 1 (List.take (Int.toNat (IntKind.wrap .i64 ((v3.toSlice.length:Int)-1))) v3.toSlice)),.agg [.int ((((nth v3.toSlice (Int.toNat (IntKind.wrap .i64 ((v3.toSlice.length:Int)-1)))).fld 1).fld 0).toInt),.int ((((nth v3.toSlice (Int.toNat (IntKind.wrap .i64 ((v3.toSlice.length:Int)-1)))).fld 1).fld 1).toInt),.slice ((((nth v3.toSlice (Int.toNat (IntKind.wrap .i64 ((v3.toSlice.length:Int)-1)))).fld 1).fld 2).toSlice)],.int v5.toInt,.str a4_7,.agg [.int a4_8,.int a4_9,.slice a4_10]],.int 0],[],f40_fresh⟩))
  else none
  else none))
  else none
  else none))))
  else none
  else none
  else none:=by kernel_rfl
theorem f40_run (ext:Run) (n:Nat) (a0_1:List UInt8) (a1_1 a2_1:List AV) (a3_1 a4_1:Int) (a4_2:List AV) (a4_3 a4_4:Int) (a4_5:List AV) (a4_6:Int) (a4_7:List UInt8) (a4_8 a4_9:Int) (a4_10:List AV):runE G ext (n+1) 40 [.blob a0_1,.slice a1_1,.slice a2_1,.int a3_1,.agg [.int a4_1,.slice a4_2,.agg [.int a4_3,.int a4_4,.slice a4_5],.int a4_6,.str a4_7,.agg [.int a4_8,.int a4_9,.slice a4_10]]]=f40 (runE G ext n) n a0_1 a1_1 a2_1 a3_1 a4_1 a4_2 a4_3 a4_4 a4_5 a4_6 a4_7 a4_8 a4_9 a4_10:=runE_succ f40_at f40_in
noncomputable def f19 (run:Run) (n:Nat) (a0_1:Int) (a0_2 a0_3:List UInt8) (a0_4:Int) (a0_5:List UInt8) (a0_6 a0_7:Int) (a0_8 a0_9:Int) (a0_10 a0_11:Int) (a1_1:List AV) (a2_1 a3_1:Int):Option Res:=evalK G run n f19_info.keep 0 f19_info.body (retE G f19_info) (f19_info.start [.agg [.agg [.int a0_1,.blob a0_2,.blob a0_3,.int a0_4],.blob a0_5,.int a0_6,.int a0_7,.int a0_8,.int a0_9,.int a0_10,.int a0_11],.slice a1_1,.int a2_1,.int a3_1])
theorem f19_eq (run:Run) (n:Nat) (a0_1:Int) (a0_2 a0_3:List UInt8) (a0_4:Int) (a0_5:List UInt8) (a0_6 a0_7:Int) (a0_8 a0_9:Int) (a0_10 a0_11:Int) (a1_1:List AV) (a2_1 a3_1:Int):f19 run n a0_1 a0_2 a0_3 a0_4 a0_5 a0_6 a0_7 a0_8 a0_9 a0_10 a0_11 a1_1 a2_1 a3_1 =
  (run 14 [.agg [.agg [.int a0_1,.blob a0_2,.blob a0_3,.int a0_4],.blob a0_5,.int a0_6,.int a0_7,.int a0_8,.int a0_9,.int a0_10,.int a0_11],.slice a1_1]).bind fun r1 =>
    nilV r1.outs (consV r1.vals fun v1 vs1 =>
    nilV vs1 (bif !(eqI v1.toInt 0) then
    some ⟨[.agg [.int 0,.slice [],.agg [.int 0,.int 0,.slice []],.int 0,.str [],.agg [.int 0,.int 0,.slice []]],.int v1.toInt],[],f19_fresh⟩
  else
    bif ltI a2_1 0 then
    some ⟨[.agg [.int 0,.slice [],.agg [.int 0,.int 0,.slice []],.int 0,.str [],.agg [.int 0,.int 0,.slice []]],.int 15],[],f19_fresh⟩
  else
    bif leI (IntKind.wrap .i64 ((a1_1.length:Int)-a0_7)) a2_1 then
    some ⟨[.agg [.int 0,.slice [],.agg [.int 0,.int 0,.slice []],.int 0,.str [],.agg [.int 0,.int 0,.slice []]],.int 15],[],f19_fresh⟩
  else
    bif inR a2_1 a1_1.length then
    (run 38 [.slice (((nth a1_1 (Int.toNat a2_1)).fld 1).toSlice),.int a3_1]).bind fun r2 =>
    nilV r2.outs (consV r2.vals fun v2 vs2 =>
    consV vs2 fun v3 vs3 =>
    nilV vs3 (bif !(eqI v3.toInt 0) then
    some ⟨[.agg [.int 0,.slice [],.agg [.int 0,.int 0,.slice []],.int 0,.str [],.agg [.int 0,.int 0,.slice []]],.int 14],[],f19_fresh⟩
  else
    (run 11 [.agg [.agg [.int a0_1,.blob a0_2,.blob a0_3,.int a0_4],.blob a0_5,.int a0_6,.int a0_7,.int a0_8,.int a0_9,.int a0_10,.int a0_11],.slice a1_1]).bind fun r3 =>
    bif r3.fresh then
    nilV r3.outs (consV r3.vals fun v4 vs4 =>
    nilV vs4 ((run 39 [.slice v4.toSlice,.int a2_1]).bind fun r4 =>
    nilV r4.outs (consV r4.vals fun v5 vs5 =>
    nilV vs5 (bif inR a2_1 a1_1.length then
    bif inR a3_1 ((((nth a1_1 (Int.toNat a2_1)).fld 1).toSlice).length) then
    bif inR v5.toInt v4.toSlice.length then
    bif eqI ((nth v4.toSlice (Int.toNat v5.toInt)).toInt) a2_1 then
    some ⟨[.agg [.int v5.toInt,.slice [],.agg [.int 0,.int 0,.slice []],.int 0,.str ((nth (((nth a1_1 (Int.toNat a2_1)).fld 1).toSlice) (Int.toNat a3_1)).toStr),.agg [.int ((v2.fld 0).toInt),.int ((v2.fld 1).toInt),.slice ((v2.fld 2).toSlice)]],.int 0],[],f19_fresh⟩
  else
    (run 40 [.blob a0_5,.slice a1_1,.slice v4.toSlice,.int a2_1,.agg [.int v5.toInt,.slice [],.agg [.int 0,.int 0,.slice []],.int 0,.str ((nth (((nth a1_1 (Int.toNat a2_1)).fld 1).toSlice) (Int.toNat a3_1)).toStr),.agg [.int ((v2.fld 0).toInt),.int ((v2.fld 1).toInt),.slice ((v2.fld 2).toSlice)]]]).bind fun r5 =>
    nilV r5.outs (consV r5.vals fun v6 vs6 =>
    consV vs6 fun v7 vs7 =>
    nilV vs7 (some ⟨[.agg [.int ((v6.fld 0).toInt),.slice ((v6.fld 1).toSlice),.agg [.int (((v6.fld 2).fld 0).toInt),.int (((v6.fld 2).fld 1).toInt),.slice (((v6.fld 2).fld 2).toSlice)],.int ((v6.fld 3).toInt),.str ((v6.fld 4).toStr),.agg [.int (((v6.fld 5).fld 0).toInt),.int (((v6.fld 5).fld 1).toInt),.slice (((v6.fld 5).fld 2).toSlice)]],.int v7.toInt],[],f19_fresh⟩))
  else none
  else none
  else none))))
  else none))
  else none)):=by kernel_rfl
theorem f19_run (ext:Run) (n:Nat) (a0_1:Int) (a0_2 a0_3:List UInt8) (a0_4:Int) (a0_5:List UInt8) (a0_6 a0_7:Int) (a0_8 a0_9:Int) (a0_10 a0_11:Int) (a1_1:List AV) (a2_1 a3_1:Int):runE G ext (n+1) 19 [.agg [.agg [.int a0_1,.blob a0_2,.blob a0_3,.int a0_4],.blob a0_5,.int a0_6,.int a0_7,.int a0_8,.int a0_9,.int a0_10,.int a0_11],.slice a1_1,.int a2_1,.int a3_1]=f19 (runE G ext n) n a0_1 a0_2 a0_3 a0_4 a0_5 a0_6 a0_7 a0_8 a0_9 a0_10 a0_11 a1_1 a2_1 a3_1:=runE_succ f19_at f19_in
noncomputable def f10 (run:Run) (n:Nat) (a0_1 a1_1:List AV):Option Res:=evalK G run n f10_info.keep 0 f10_info.body (retE G f10_info) (f10_info.start [.slice a0_1,.slice a1_1])
noncomputable def f16 (run:Run) (n:Nat):Option Res:=evalK G run n f16_info.keep 0 f16_info.body (retE G f16_info) (f16_info.start [])
noncomputable def f122 (run:Run) (n:Nat) (a0_1:Int):Option Res:=evalK G run n f122_info.keep 0 f122_info.body (retE G f122_info) (f122_info.start [.int a0_1])
theorem f122_eq (run:Run) (n:Nat) (a0_1:Int):f122 run n a0_1 =
  some ⟨[.str (bytesOf [.int (IntKind.wrap .u8 a0_1)])],[],f122_fresh⟩:=by kernel_rfl
theorem f122_run (ext:Run) (n:Nat) (a0_1:Int):runE G ext (n+1) 122 [.int a0_1]=f122 (runE G ext n) n a0_1:=runE_succ f122_at f122_in
noncomputable def f121_l0 (run:Run) (n k0:Nat) (x0_1 x1_1:Int) (x5_1:List UInt8) (x6_1:Int):Option Res :=
  iterK (evalK G run n f121_keep 0 (sub [1,1,0,1,0,0] f121_body)) f121_t0 f121_o0 (blockK 0 (seqK (evalK G run n f121_keep 0 (sub [1,1,1] f121_body) (retE G f121_info)) (retE G f121_info))) k0
    ⟨[.val (.int .u64) none (.int x0_1),.val (.int .i64) none (.int x1_1),qa,qa,qa,.val .str none (.str x5_1),.val (.int .i64) none (.int x6_1),qa,qa,qa,qa,qa,qa,qa,qa,qa,qa,qa,qa,qa,.any],[qz,qz,qz,qz,qz,qz,qz,qz,qz,qz,qz,qz,qz,qz,qz,qz,qz,qz,qz,qz,qz],List.replicate 21 0⟩
theorem f121_l0_eq (run:Run) (n k0:Nat) (x0_1 x1_1:Int) (x5_1:List UInt8) (x6_1:Int):f121_l0 run n (k0+1) x0_1 x1_1 x5_1 x6_1 =
  bif ltI x6_1 x1_1 then
    (run 122 [.int (IntKind.wrap .i64 (Int.tmod x0_1 256))]).bind fun r1 =>
    nilV r1.outs (consV r1.vals fun v1 vs1 =>
    nilV vs1 (bif Nat.ble (v1.toStr.length+x5_1.length) maxLen then
    f121_l0 run n k0 (IntKind.wrap .u64 (Int.tdiv x0_1 256)) x1_1 (v1.toStr++x5_1) (IntKind.wrap .i64 (x6_1+1))
  else none))
  else
    some ⟨[.str x5_1],[],f121_fresh⟩:=by kernel_rfl
noncomputable def f121 (run:Run) (n:Nat) (a0_1 a1_1:Int):Option Res:=evalK G run n f121_info.keep 0 f121_info.body (retE G f121_info) (f121_info.start [.int a0_1,.int a1_1])
theorem f121_eq (run:Run) (n:Nat) (a0_1 a1_1:Int):f121 run n a0_1 a1_1 =
  f121_l0 run n n a0_1 a1_1 [] 0:=by kernel_rfl
theorem f121_run (ext:Run) (n:Nat) (a0_1 a1_1:Int):runE G ext (n+1) 121 [.int a0_1,.int a1_1]=f121 (runE G ext n) n a0_1 a1_1:=runE_succ f121_at f121_in
noncomputable def f109_l0 (run:Run) (n k0:Nat) (x4_1:Int) (o1_1:List UInt8) (o5_1:List AV):Option Res :=
  iterK (evalK G run n f109_keep 0 (sub [1,1,0,1,0,0] f109_body)) f109_t0 f109_o0 (blockK 0 (seqK (evalK G run n f109_keep 0 (sub [1,1,1] f109_body) (retE G f109_info)) (retE G f109_info))) k0
    ⟨[qa,.ptr ⟨(.blob 32),1,1,[]⟩,qa,.ref ⟨(.arr 32 (.int .u8)),5,1,[]⟩ 0 32,.val (.int .i64) none (.int x4_1),qa,qa,qa,qa,qa,qa,qa,qa,qa,qa,qa,qa,.any],[qz,⟨1,some ⟨(.blob 32),.blob o1_1⟩⟩,qz,qz,qz,⟨1,some ⟨(.arr 32 (.int .u8)),.agg o5_1⟩⟩,qz,qz,qz,qz,qz,qz,qz,qz,qz,qz,qz,qz],List.replicate 18 0⟩
theorem f109_l0_eq (run:Run) (n k0:Nat) (x4_1:Int) (o1_1:List UInt8) (o5_1:List AV):f109_l0 run n (k0+1) x4_1 o1_1 o5_1 =
  bif ltI x4_1 32 then
    bif inR x4_1 32 then
    bif inR x4_1 32 then
    f109_l0 run n k0 (IntKind.wrap .i64 (x4_1+1)) o1_1 (o5_1.set (0+(Int.toNat x4_1)) (.int (((o1_1).getD (Int.toNat x4_1) 0).toNat:Int)))
  else none
  else none
  else
    some ⟨[.str (bytesOf (List.drop 0 (List.take 32 o5_1)))],[],f109_fresh⟩:=by kernel_rfl
noncomputable def f109 (run:Run) (n:Nat) (a0_1:List UInt8):Option Res:=evalK G run n f109_info.keep 0 f109_info.body (retE G f109_info) (f109_info.start [.blob a0_1])
theorem f109_eq (run:Run) (n:Nat) (a0_1:List UInt8):f109 run n a0_1 =
  f109_l0 run n n 0 a0_1 (List.replicate 32 (.int 0)):=by kernel_rfl
theorem f109_run (ext:Run) (n:Nat) (a0_1:List UInt8):runE G ext (n+1) 109 [.blob a0_1]=f109 (runE G ext n) n a0_1:=runE_succ f109_at f109_in
noncomputable def f93 (run:Run) (n:Nat) (a0_1:Int) (a0_2 a0_3:List UInt8) (a0_4:Int):Option Res:=evalK G run n f93_info.keep 0 f93_info.body (retE G f93_info) (f93_info.start [.agg [.int a0_1,.blob a0_2,.blob a0_3,.int a0_4]])
theorem f93_eq (run:Run) (n:Nat) (a0_1:Int) (a0_2 a0_3:List UInt8) (a0_4:Int):f93 run n a0_1 a0_2 a0_3 a0_4 =
  (run 121 [.int (IntKind.wrap .u64 a0_1),.int 4]).bind fun r1 =>
    nilV r1.outs (consV r1.vals fun v1 vs1 =>
    nilV vs1 ((run 109 [.blob a0_2]).bind fun r2 =>
    nilV r2.outs (consV r2.vals fun v2 vs2 =>
    nilV vs2 (bif Nat.ble (v1.toStr.length+v2.toStr.length) maxLen then
    (run 109 [.blob a0_3]).bind fun r3 =>
    nilV r3.outs (consV r3.vals fun v3 vs3 =>
    nilV vs3 (bif Nat.ble ((v1.toStr++v2.toStr).length+v3.toStr.length) maxLen then
    (run 121 [.int a0_4,.int 8]).bind fun r4 =>
    nilV r4.outs (consV r4.vals fun v4 vs4 =>
    nilV vs4 (bif Nat.ble (((v1.toStr++v2.toStr)++v3.toStr).length+v4.toStr.length) maxLen then
    some ⟨[.str (((v1.toStr++v2.toStr)++v3.toStr)++v4.toStr)],[],f93_fresh⟩
  else none))
  else none))
  else none)))):=by kernel_rfl
theorem f93_run (ext:Run) (n:Nat) (a0_1:Int) (a0_2 a0_3:List UInt8) (a0_4:Int):runE G ext (n+1) 93 [.agg [.int a0_1,.blob a0_2,.blob a0_3,.int a0_4]]=f93 (runE G ext n) n a0_1 a0_2 a0_3 a0_4:=runE_succ f93_at f93_in
noncomputable def f92 (run:Run) (n:Nat) (a0_1:List UInt8):Option Res:=evalK G run n f92_info.keep 0 f92_info.body (retE G f92_info) (f92_info.start [.str a0_1])
theorem f92_eq (run:Run) (n:Nat) (a0_1:List UInt8):f92 run n a0_1 =
  (run 122 [.int 3]).bind fun r1 =>
    nilV r1.outs (consV r1.vals fun v1 vs1 =>
    nilV vs1 (bif Nat.ble (v1.toStr.length+a0_1.length) maxLen then
    some ⟨[.str (v1.toStr++a0_1)],[],f92_fresh⟩
  else none)):=by kernel_rfl
theorem f92_run (ext:Run) (n:Nat) (a0_1:List UInt8):runE G ext (n+1) 92 [.str a0_1]=f92 (runE G ext n) n a0_1:=runE_succ f92_at f92_in
noncomputable def f118 (run:Run) (n:Nat):Option Res:=evalK G run n f118_info.keep 0 f118_info.body (retE G f118_info) (f118_info.start [])
theorem f118_eq (run:Run) (n:Nat):f118 run n  =
  some ⟨[.agg [.int 1779033703,.int 3144134277,.int 1013904242,.int 2773480762,.int 1359893119,.int 2600822924,.int 528734635,.int 1541459225]],[],f118_fresh⟩:=by kernel_rfl
theorem f118_run (ext:Run) (n:Nat):runE G ext (n+1) 118 []=f118 (runE G ext n) n :=runE_succ f118_at f118_in
noncomputable def f119_l0 (run:Run) (n k0:Nat) (x0_1:Int) (x3_1:List UInt8):Option Res :=
  iterK (evalK G run n f119_keep 0 (sub [1,1,0,0,0] f119_body)) f119_t0 f119_o0 (blockK 0 (seqK (evalK G run n f119_keep 0 (sub [1,1,1] f119_body) (retE G f119_info)) (retE G f119_info))) k0
    ⟨[.val (.int .u64) none (.int x0_1),qa,qa,.val .str none (.str x3_1),qa,qa,qa,qa,qa,qa,qa,qa,qa,qa,qa,qa,qa,qa,qa,qa,qa,.any],[qz,qz,qz,qz,qz,qz,qz,qz,qz,qz,qz,qz,qz,qz,qz,qz,qz,qz,qz,qz,qz,qz],List.replicate 22 0⟩
theorem f119_l0_eq (run:Run) (n k0:Nat) (x0_1:Int) (x3_1:List UInt8):f119_l0 run n (k0+1) x0_1 x3_1 =
  bif !(eqI (Int.tmod (IntKind.wrap .u64 (IntKind.wrap .u64 (Int.tmod x0_1 64+IntKind.wrap .u64 (x3_1.length:Int))+8)) 64) 0) then
    (run 122 [.int 0]).bind fun r2 =>
    nilV r2.outs (consV r2.vals fun v2 vs2 =>
    nilV vs2 (bif Nat.ble (x3_1.length+v2.toStr.length) maxLen then
    f119_l0 run n k0 x0_1 (x3_1++v2.toStr)
  else none))
  else
    (run 121 [.int (IntKind.wrap .u64 (x0_1*8)),.int 8]).bind fun r3 =>
    nilV r3.outs (consV r3.vals fun v3 vs3 =>
    nilV vs3 (bif Nat.ble (x3_1.length+v3.toStr.length) maxLen then
    some ⟨[.str (x3_1++v3.toStr)],[],f119_fresh⟩
  else none)):=by kernel_rfl
noncomputable def f119 (run:Run) (n:Nat) (a0_1:Int):Option Res:=evalK G run n f119_info.keep 0 f119_info.body (retE G f119_info) (f119_info.start [.int a0_1])
theorem f119_eq (run:Run) (n:Nat) (a0_1:Int):f119 run n a0_1 =
  (run 122 [.int 128]).bind fun r1 =>
    nilV r1.outs (consV r1.vals fun v1 vs1 =>
    nilV vs1 (f119_l0 run n n a0_1 v1.toStr)):=by kernel_rfl
theorem f119_run (ext:Run) (n:Nat) (a0_1:Int):runE G ext (n+1) 119 [.int a0_1]=f119 (runE G ext n) n a0_1:=runE_succ f119_at f119_in
noncomputable def f163_l0 (run:Run) (n k0:Nat) (x0_1:List UInt8) (x1_1 x2_1:Int) (x7_1 x8_1:Int):Option Res :=
  iterK (evalK G run n f163_keep 0 (sub [1,1,0,1,0,0] f163_body)) f163_t0 f163_o0 (blockK 0 (seqK (evalK G run n f163_keep 0 (sub [1,1,1] f163_body) (retE G f163_info)) (retE G f163_info))) k0
    ⟨[.val .str none (.str x0_1),.val (.int .i64) none (.int x1_1),.val (.int .i64) none (.int x2_1),qa,qa,qa,qa,.val (.int .u64) none (.int x7_1),.val (.int .i64) none (.int x8_1),qa,qa,qa,qa,qa,qa,qa,qa,qa,qa,qa,qa,qa,qa,qa,qa,qa,qa,qa,qa,qa,qa,qa,qa,qa,qa,qa,qa,qa,qa,qa,.any],[qz,qz,qz,qz,qz,qz,qz,qz,qz,qz,qz,qz,qz,qz,qz,qz,qz,qz,qz,qz,qz,qz,qz,qz,qz,qz,qz,qz,qz,qz,qz,qz,qz,qz,qz,qz,qz,qz,qz,qz,qz],List.replicate 41 0⟩
theorem f163_l0_eq (run:Run) (n k0:Nat) (x0_1:List UInt8) (x1_1 x2_1:Int) (x7_1 x8_1:Int):f163_l0 run n (k0+1) x0_1 x1_1 x2_1 x7_1 x8_1 =
  bif ltI x8_1 x2_1 then
    bif leI 0 x1_1 then
    bif ltI x1_1 (x0_1.length:Int) then
    bif ltI x8_1 (IntKind.wrap .i64 ((x0_1.length:Int)-x1_1)) then
    bif inR (IntKind.wrap .i64 (x1_1+x8_1)) x0_1.length then
    f163_l0 run n k0 x0_1 x1_1 x2_1 (IntKind.wrap .u64 (IntKind.wrap .u64 (x7_1*256)+IntKind.wrap .u64 ((x0_1.getD (Int.toNat (IntKind.wrap .i64 (x1_1+x8_1))) 0).toNat:Int))) (IntKind.wrap .i64 (x8_1+1))
  else none
  else
    f163_l0 run n k0 x0_1 x1_1 x2_1 (IntKind.wrap .u64 (x7_1*256)) (IntKind.wrap .i64 (x8_1+1))
  else
    f163_l0 run n k0 x0_1 x1_1 x2_1 (IntKind.wrap .u64 (x7_1*256)) (IntKind.wrap .i64 (x8_1+1))
  else
    f163_l0 run n k0 x0_1 x1_1 x2_1 (IntKind.wrap .u64 (x7_1*256)) (IntKind.wrap .i64 (x8_1+1))
  else
    some ⟨[.int x7_1],[],f163_fresh⟩:=by kernel_rfl
noncomputable def f163 (run:Run) (n:Nat) (a0_1:List UInt8) (a1_1 a2_1:Int):Option Res:=evalK G run n f163_info.keep 0 f163_info.body (retE G f163_info) (f163_info.start [.str a0_1,.int a1_1,.int a2_1])
theorem f163_eq (run:Run) (n:Nat) (a0_1:List UInt8) (a1_1 a2_1:Int):f163 run n a0_1 a1_1 a2_1 =
  f163_l0 run n n a0_1 a1_1 a2_1 0 0:=by kernel_rfl
theorem f163_run (ext:Run) (n:Nat) (a0_1:List UInt8) (a1_1 a2_1:Int):runE G ext (n+1) 163 [.str a0_1,.int a1_1,.int a2_1]=f163 (runE G ext n) n a0_1 a1_1 a2_1:=runE_succ f163_at f163_in
noncomputable def f143 (run:Run) (n:Nat) (a0_1 a1_1:Int):Option Res:=evalK G run n f143_info.keep 0 f143_info.body (retE G f143_info) (f143_info.start [.int a0_1,.int a1_1])
theorem f143_eq (run:Run) (n:Nat) (a0_1 a1_1:Int):f143 run n a0_1 a1_1 =
  bif leI 0 a1_1 then
    bif leI 0 (IntKind.wrap .u64 (32-a1_1)) then
    some ⟨[.int (IntKind.wrap .u32 (Int.fdiv a0_1 (2^(min (Int.toNat a1_1) 32))+IntKind.wrap .u32 (a0_1*2^(min (Int.toNat (IntKind.wrap .u64 (32-a1_1))) 32))))],[],f143_fresh⟩
  else none
  else none:=by kernel_rfl
theorem f143_run (ext:Run) (n:Nat) (a0_1 a1_1:Int):runE G ext (n+1) 143 [.int a0_1,.int a1_1]=f143 (runE G ext n) n a0_1 a1_1:=runE_succ f143_at f143_in
noncomputable def f142_l2 (run:Run) (n _k0 k2:Nat) (x5_1:Int) (o2_3 o3_3:List AV):Option Res :=
  iterK (evalK G run n f142_keep 2 (sub [1,1,1,0,1,0,0] f142_body)) f142_t2 f142_o2 (blockK 2 (seqK (evalK G run n f142_keep 0 (sub [1,1,1,1] f142_body) (retE G f142_info)) (retE G f142_info))) k2
    ⟨[qa,qa,.ptr ⟨(.arr 64 (.int .u32)),2,1,[]⟩,.ptr ⟨(.arr 64 (.int .u32)),3,1,[]⟩,qa,.val (.int .i64) none (.int x5_1),qa,qa,qa,qa,qa,qa,qa,qa,qa,qa,qa,qa,qa,qa,qa,qa,qa,qa,qa,qa,qa,qa,qa,qa,qa,qa,qa,qa,qa,qa,qa,qa,qa,qa,qa,qa,qa,qa,qa,qa,qa,qa,qa,qa,qa,qa,qa,qa,qa,qa,qa,qa,qa,qa,.any],[qz,qz,⟨1,some ⟨(.arr 64 (.int .u32)),.agg o2_3⟩⟩,⟨1,some ⟨(.arr 64 (.int .u32)),.agg o3_3⟩⟩,qz,qz,qz,qz,qz,qz,qz,qz,qz,qz,qz,qz,qz,qz,qz,qz,qz,qz,qz,qz,qz,qz,qz,qz,qz,qz,qz,qz,qz,qz,qz,qz,qz,qz,qz,qz,qz,qz,qz,qz,qz,qz,qz,qz,qz,qz,qz,qz,qz,qz,qz,qz,qz,qz,qz,qz,qz],List.replicate 61 0⟩
noncomputable def f142_l0 (run:Run) (n k0:Nat) (x0_1:List UInt8) (x4_1:Int) (o2_1 o3_1:List AV):Option Res :=
  iterK (evalK G run n f142_keep 0 (sub [1,1,0,1,0,0] f142_body)) f142_t0 f142_o0 (blockK 0 (seqK (evalK G run n f142_keep 0 (sub [1,1,1] f142_body) (retE G f142_info)) (retE G f142_info))) k0
    ⟨[.val .str none (.str x0_1),qa,.ptr ⟨(.arr 64 (.int .u32)),2,1,[]⟩,.ptr ⟨(.arr 64 (.int .u32)),3,1,[]⟩,.val (.int .i64) none (.int x4_1),qa,qa,qa,qa,qa,qa,qa,qa,qa,qa,qa,qa,qa,qa,qa,qa,qa,qa,qa,qa,qa,qa,qa,qa,qa,qa,qa,qa,qa,qa,qa,qa,qa,qa,qa,qa,qa,qa,qa,qa,qa,qa,qa,qa,qa,qa,qa,qa,qa,qa,qa,qa,qa,qa,qa,.any],[qz,qz,⟨1,some ⟨(.arr 64 (.int .u32)),.agg o2_1⟩⟩,⟨1,some ⟨(.arr 64 (.int .u32)),.agg o3_1⟩⟩,qz,qz,qz,qz,qz,qz,qz,qz,qz,qz,qz,qz,qz,qz,qz,qz,qz,qz,qz,qz,qz,qz,qz,qz,qz,qz,qz,qz,qz,qz,qz,qz,qz,qz,qz,qz,qz,qz,qz,qz,qz,qz,qz,qz,qz,qz,qz,qz,qz,qz,qz,qz,qz,qz,qz,qz,qz],List.replicate 61 0⟩
theorem f142_l2_eq (run:Run) (n k0 k2:Nat) (x5_1:Int) (o2_3 o3_3:List AV):f142_l2 run n k0 (k2+1) x5_1 o2_3 o3_3 =
  bif ltI x5_1 64 then
    bif inR (IntKind.wrap .i64 (x5_1-15)) 64 then
    bif inR (IntKind.wrap .i64 (x5_1-2)) 64 then
    bif inR (IntKind.wrap .i64 (x5_1-16)) 64 then
    (run 143 [.int ((AV.fld (.agg o3_3) (Int.toNat (IntKind.wrap .i64 (x5_1-15)))).toInt),.int 7]).bind fun r2 =>
    nilV r2.outs (consV r2.vals fun v2 vs2 =>
    nilV vs2 ((run 143 [.int ((AV.fld (.agg o3_3) (Int.toNat (IntKind.wrap .i64 (x5_1-15)))).toInt),.int 18]).bind fun r3 =>
    nilV r3.outs (consV r3.vals fun v3 vs3 =>
    nilV vs3 (bif inR (IntKind.wrap .i64 (x5_1-7)) 64 then
    (run 143 [.int ((AV.fld (.agg o3_3) (Int.toNat (IntKind.wrap .i64 (x5_1-2)))).toInt),.int 17]).bind fun r4 =>
    nilV r4.outs (consV r4.vals fun v4 vs4 =>
    nilV vs4 ((run 143 [.int ((AV.fld (.agg o3_3) (Int.toNat (IntKind.wrap .i64 (x5_1-2)))).toInt),.int 19]).bind fun r5 =>
    nilV r5.outs (consV r5.vals fun v5 vs5 =>
    nilV vs5 (bif inR x5_1 64 then
    f142_l2 run n k0 k2 (IntKind.wrap .i64 (x5_1+1)) o2_3 (o3_3.set (Int.toNat x5_1) (.int (IntKind.wrap .u32 (IntKind.wrap .u32 (IntKind.wrap .u32 ((AV.fld (.agg o3_3) (Int.toNat (IntKind.wrap .i64 (x5_1-16)))).toInt+IntKind.wrap .u32 (BitVec.toNat (BitVec.ofInt 32 (IntKind.wrap .u32 (BitVec.toNat (BitVec.ofInt 32 v2.toInt ^^^ BitVec.ofInt 32 v3.toInt))) ^^^ BitVec.ofInt 32 (Int.fdiv ((AV.fld (.agg o3_3) (Int.toNat (IntKind.wrap .i64 (x5_1-15)))).toInt) (2^3)))))+(AV.fld (.agg o3_3) (Int.toNat (IntKind.wrap .i64 (x5_1-7)))).toInt)+IntKind.wrap .u32 (BitVec.toNat (BitVec.ofInt 32 (IntKind.wrap .u32 (BitVec.toNat (BitVec.ofInt 32 v4.toInt ^^^ BitVec.ofInt 32 v5.toInt))) ^^^ BitVec.ofInt 32 (Int.fdiv ((AV.fld (.agg o3_3) (Int.toNat (IntKind.wrap .i64 (x5_1-2)))).toInt) (2^10))))))))
  else none))))
  else none))))
  else none
  else none
  else none
  else
    some ⟨[.agg o3_3],[],f142_fresh⟩:=by kernel_rfl
theorem f142_l0_eq (run:Run) (n k0:Nat) (x0_1:List UInt8) (x4_1:Int) (o2_1 o3_1:List AV):f142_l0 run n (k0+1) x0_1 x4_1 o2_1 o3_1 =
  bif ltI x4_1 16 then
    (run 163 [.str x0_1,.int (IntKind.wrap .i64 (4*x4_1)),.int 4]).bind fun r1 =>
    nilV r1.outs (consV r1.vals fun v1 vs1 =>
    nilV vs1 (bif inR x4_1 64 then
    f142_l0 run n k0 x0_1 (IntKind.wrap .i64 (x4_1+1)) o2_1 (o3_1.set (Int.toNat x4_1) (.int (IntKind.wrap .u32 v1.toInt)))
  else none))
  else
    f142_l2 run n k0 n 16 o2_1 o3_1:=by kernel_rfl
noncomputable def f142 (run:Run) (n:Nat) (a0_1:List UInt8):Option Res:=evalK G run n f142_info.keep 0 f142_info.body (retE G f142_info) (f142_info.start [.str a0_1])
theorem f142_eq (run:Run) (n:Nat) (a0_1:List UInt8):f142 run n a0_1 =
  f142_l0 run n n a0_1 0 (List.replicate 64 (.int 0)) (List.replicate 64 (.int 0)):=by kernel_rfl
theorem f142_run (ext:Run) (n:Nat) (a0_1:List UInt8):runE G ext (n+1) 142 [.str a0_1]=f142 (runE G ext n) n a0_1:=runE_succ f142_at f142_in
noncomputable def f144 (run:Run) (n:Nat) (a0_1:Int):Option Res:=evalK G run n f144_info.keep 0 f144_info.body (retE G f144_info) (f144_info.start [.int a0_1])
theorem f144_eq (run:Run) (n:Nat) (a0_1:Int):f144 run n a0_1 =
  bif inR a0_1 64 then
    some ⟨[.int ((nth [.int 1116352408,.int 1899447441,.int 3049323471,.int 3921009573,.int 961987163,.int 1508970993,.int 2453635748,.int 2870763221,.int 3624381080,.int 310598401,.int 607225278,.int 1426881987,.int 1925078388,.int 2162078206,.int 2614888103,.int 3248222580,.int 3835390401,.int 4022224774,.int 264347078,.int 604807628,.int 770255983,.int 1249150122,.int 1555081692,.int 1996064986,.int 2554220882,.int 2821834349,.int 2952996808,.int 3210313671,.int 3336571891,.int 3584528711,.int 113926993,.int 338241895,.int 666307205,.int 773529912,.int 1294757372,.int 1396182291,.int 1695183700,.int 1986661051,.int 2177026350,.int 2456956037,.int 2730485921,.int 2820302411,.int 3259730800,.int 3345764771,.int 3516065817,.int 3600352804,.int 4094571909,.int 275423344,.int 430227734,.int 506948616,.int 659060556,.int 883997877,.int 958139571,.int 1322822218,.int 1537002063,.int 1747873779,.int 1955562222,.int 2024104815,.int 2227730452,.int 2361852424,.int 2428436474,.int 2756734187,.int 3204031479,.int 3329325298] (Int.toNat a0_1)).toInt)],[],f144_fresh⟩
  else none:=by kernel_rfl
theorem f144_run (ext:Run) (n:Nat) (a0_1:Int):runE G ext (n+1) 144 [.int a0_1]=f144 (runE G ext n) n a0_1:=runE_succ f144_at f144_in
noncomputable def f120_l2 (run:Run) (n k0 k2:Nat) (x7_2 x10_1:Int) (x11_1 x12_1:Int) (o2_2 o4_2:List AV) (o5_2 o6_2:List AV):Option Res :=
  iterK (evalK G run n f120_keep 2 (sub [1,1,1,0,1,0,0,1,0,0,1,1,1,1,0,1,0,0] f120_body)) f120_t2 f120_o2 (blockK 2 (seqK (evalK G run n f120_keep 1 (sub [1,1,1,0,1,0,0,1,0,0,1,1,1,1,1] f120_body) (blockK 1 (seqK (evalK G run n f120_keep 0 (sub [1,1,1,0,1,0,0,1,1] f120_body) (seqK (fun t=>iterK (evalK G run n f120_keep 0 (sub [1,1,1,0,1,0,0] f120_body)) f120_t0 f120_o0 (blockK 0 (seqK (evalK G run n f120_keep 0 (sub [1,1,1,1] f120_body) (retE G f120_info)) (retE G f120_info))) k0 (t.clear f120_t0 f120_o0)) (blockK 0 (seqK (evalK G run n f120_keep 0 (sub [1,1,1,1] f120_body) (retE G f120_info)) (retE G f120_info))))) (seqK (fun t=>iterK (evalK G run n f120_keep 0 (sub [1,1,1,0,1,0,0] f120_body)) f120_t0 f120_o0 (blockK 0 (seqK (evalK G run n f120_keep 0 (sub [1,1,1,1] f120_body) (retE G f120_info)) (retE G f120_info))) k0 (t.clear f120_t0 f120_o0)) (blockK 0 (seqK (evalK G run n f120_keep 0 (sub [1,1,1,1] f120_body) (retE G f120_info)) (retE G f120_info))))))) (blockK 1 (seqK (evalK G run n f120_keep 0 (sub [1,1,1,0,1,0,0,1,1] f120_body) (seqK (fun t=>iterK (evalK G run n f120_keep 0 (sub [1,1,1,0,1,0,0] f120_body)) f120_t0 f120_o0 (blockK 0 (seqK (evalK G run n f120_keep 0 (sub [1,1,1,1] f120_body) (retE G f120_info)) (retE G f120_info))) k0 (t.clear f120_t0 f120_o0)) (blockK 0 (seqK (evalK G run n f120_keep 0 (sub [1,1,1,1] f120_body) (retE G f120_info)) (retE G f120_info))))) (seqK (fun t=>iterK (evalK G run n f120_keep 0 (sub [1,1,1,0,1,0,0] f120_body)) f120_t0 f120_o0 (blockK 0 (seqK (evalK G run n f120_keep 0 (sub [1,1,1,1] f120_body) (retE G f120_info)) (retE G f120_info))) k0 (t.clear f120_t0 f120_o0)) (blockK 0 (seqK (evalK G run n f120_keep 0 (sub [1,1,1,1] f120_body) (retE G f120_info)) (retE G f120_info)))))))) k2
    ⟨[qa,qa,.ptr ⟨(.arr 8 (.int .u32)),2,1,[]⟩,qa,.ptr ⟨(.arr 8 (.int .u32)),4,1,[]⟩,.ptr ⟨(.arr 64 (.int .u32)),5,1,[]⟩,.ptr ⟨(.arr 8 (.int .u32)),6,1,[]⟩,.val (.int .i64) none (.int x7_2),qa,qa,.val (.int .u32) none (.int x10_1),.val (.int .u32) none (.int x11_1),.val (.int .i64) none (.int x12_1),qa,qa,qa,qa,qa,qa,qa,qa,qa,qa,qa,qa,qa,qa,qa,qa,qa,qa,qa,qa,qa,qa,qa,qa,qa,qa,qa,qa,qa,qa,qa,qa,qa,qa,qa,qa,qa,qa,qa,qa,qa,qa,qa,qa,qa,qa,qa,qa,qa,qa,qa,qa,qa,qa,qa,qa,qa,qa,qa,qa,qa,qa,qa,qa,qa,qa,qa,qa,qa,qa,qa,qa,qa,qa,qa,qa,qa,qa,qa,qa,qa,qa,qa,qa,qa,qa,qa,qa,qa,qa,qa,qa,qa,qa,qa,qa,.any],[qz,qz,⟨1,some ⟨(.arr 8 (.int .u32)),.agg o2_2⟩⟩,qz,⟨1,some ⟨(.arr 8 (.int .u32)),.agg o4_2⟩⟩,⟨1,some ⟨(.arr 64 (.int .u32)),.agg o5_2⟩⟩,⟨1,some ⟨(.arr 8 (.int .u32)),.agg o6_2⟩⟩,qz,qz,qz,qz,qz,qz,qz,qz,qz,qz,qz,qz,qz,qz,qz,qz,qz,qz,qz,qz,qz,qz,qz,qz,qz,qz,qz,qz,qz,qz,qz,qz,qz,qz,qz,qz,qz,qz,qz,qz,qz,qz,qz,qz,qz,qz,qz,qz,qz,qz,qz,qz,qz,qz,qz,qz,qz,qz,qz,qz,qz,qz,qz,qz,qz,qz,qz,qz,qz,qz,qz,qz,qz,qz,qz,qz,qz,qz,qz,qz,qz,qz,qz,qz,qz,qz,qz,qz,qz,qz,qz,qz,qz,qz,qz,qz,qz,qz,qz,qz,qz,qz,qz],List.replicate 110 0⟩
noncomputable def f120_l4 (run:Run) (n _k0 k4:Nat) (x13_1:Int) (o2_5 o4_5 o6_5:List AV):Option Res :=
  iterK (evalK G run n f120_keep 4 (sub [1,1,1,1,0,1,0,0] f120_body)) f120_t4 f120_o4 (blockK 4 (seqK (evalK G run n f120_keep 0 (sub [1,1,1,1,1] f120_body) (retE G f120_info)) (retE G f120_info))) k4
    ⟨[qa,qa,.ptr ⟨(.arr 8 (.int .u32)),2,1,[]⟩,qa,.ptr ⟨(.arr 8 (.int .u32)),4,1,[]⟩,qa,.ptr ⟨(.arr 8 (.int .u32)),6,1,[]⟩,qa,qa,qa,qa,qa,qa,.val (.int .i64) none (.int x13_1),qa,qa,qa,qa,qa,qa,qa,qa,qa,qa,qa,qa,qa,qa,qa,qa,qa,qa,qa,qa,qa,qa,qa,qa,qa,qa,qa,qa,qa,qa,qa,qa,qa,qa,qa,qa,qa,qa,qa,qa,qa,qa,qa,qa,qa,qa,qa,qa,qa,qa,qa,qa,qa,qa,qa,qa,qa,qa,qa,qa,qa,qa,qa,qa,qa,qa,qa,qa,qa,qa,qa,qa,qa,qa,qa,qa,qa,qa,qa,qa,qa,qa,qa,qa,qa,qa,qa,qa,qa,qa,qa,qa,qa,qa,qa,.any],[qz,qz,⟨1,some ⟨(.arr 8 (.int .u32)),.agg o2_5⟩⟩,qz,⟨1,some ⟨(.arr 8 (.int .u32)),.agg o4_5⟩⟩,qz,⟨1,some ⟨(.arr 8 (.int .u32)),.agg o6_5⟩⟩,qz,qz,qz,qz,qz,qz,qz,qz,qz,qz,qz,qz,qz,qz,qz,qz,qz,qz,qz,qz,qz,qz,qz,qz,qz,qz,qz,qz,qz,qz,qz,qz,qz,qz,qz,qz,qz,qz,qz,qz,qz,qz,qz,qz,qz,qz,qz,qz,qz,qz,qz,qz,qz,qz,qz,qz,qz,qz,qz,qz,qz,qz,qz,qz,qz,qz,qz,qz,qz,qz,qz,qz,qz,qz,qz,qz,qz,qz,qz,qz,qz,qz,qz,qz,qz,qz,qz,qz,qz,qz,qz,qz,qz,qz,qz,qz,qz,qz,qz,qz,qz,qz,qz],List.replicate 110 0⟩
noncomputable def f120_l0 (run:Run) (n k0:Nat) (x7_1:Int) (o2_1 o4_1:List AV) (o5_1 o6_1:List AV):Option Res :=
  iterK (evalK G run n f120_keep 0 (sub [1,1,1,0,1,0,0] f120_body)) f120_t0 f120_o0 (blockK 0 (seqK (evalK G run n f120_keep 0 (sub [1,1,1,1] f120_body) (retE G f120_info)) (retE G f120_info))) k0
    ⟨[qa,qa,.ptr ⟨(.arr 8 (.int .u32)),2,1,[]⟩,qa,.ptr ⟨(.arr 8 (.int .u32)),4,1,[]⟩,.ptr ⟨(.arr 64 (.int .u32)),5,1,[]⟩,.ptr ⟨(.arr 8 (.int .u32)),6,1,[]⟩,.val (.int .i64) none (.int x7_1),qa,qa,qa,qa,qa,qa,qa,qa,qa,qa,qa,qa,qa,qa,qa,qa,qa,qa,qa,qa,qa,qa,qa,qa,qa,qa,qa,qa,qa,qa,qa,qa,qa,qa,qa,qa,qa,qa,qa,qa,qa,qa,qa,qa,qa,qa,qa,qa,qa,qa,qa,qa,qa,qa,qa,qa,qa,qa,qa,qa,qa,qa,qa,qa,qa,qa,qa,qa,qa,qa,qa,qa,qa,qa,qa,qa,qa,qa,qa,qa,qa,qa,qa,qa,qa,qa,qa,qa,qa,qa,qa,qa,qa,qa,qa,qa,qa,qa,qa,qa,qa,.any],[qz,qz,⟨1,some ⟨(.arr 8 (.int .u32)),.agg o2_1⟩⟩,qz,⟨1,some ⟨(.arr 8 (.int .u32)),.agg o4_1⟩⟩,⟨1,some ⟨(.arr 64 (.int .u32)),.agg o5_1⟩⟩,⟨1,some ⟨(.arr 8 (.int .u32)),.agg o6_1⟩⟩,qz,qz,qz,qz,qz,qz,qz,qz,qz,qz,qz,qz,qz,qz,qz,qz,qz,qz,qz,qz,qz,qz,qz,qz,qz,qz,qz,qz,qz,qz,qz,qz,qz,qz,qz,qz,qz,qz,qz,qz,qz,qz,qz,qz,qz,qz,qz,qz,qz,qz,qz,qz,qz,qz,qz,qz,qz,qz,qz,qz,qz,qz,qz,qz,qz,qz,qz,qz,qz,qz,qz,qz,qz,qz,qz,qz,qz,qz,qz,qz,qz,qz,qz,qz,qz,qz,qz,qz,qz,qz,qz,qz,qz,qz,qz,qz,qz,qz,qz,qz,qz,qz,qz],List.replicate 110 0⟩
theorem f120_l2_eq (run:Run) (n k0 k2:Nat) (x7_2 x10_1:Int) (x11_1 x12_1:Int) (o2_2 o4_2:List AV) (o5_2 o6_2:List AV):f120_l2 run n k0 (k2+1) x7_2 x10_1 x11_1 x12_1 o2_2 o4_2 o5_2 o6_2 =
  bif ltI 0 x12_1 then
    bif inR (IntKind.wrap .i64 (x12_1-1)) 8 then
    bif inR x12_1 8 then
    f120_l2 run n k0 k2 x7_2 x10_1 x11_1 (IntKind.wrap .i64 (x12_1-1)) (o2_2.set (Int.toNat x12_1) (.int ((AV.fld (.agg o2_2) (Int.toNat (IntKind.wrap .i64 (x12_1-1)))).toInt))) o4_2 o5_2 o6_2
  else none
  else none
  else
    f120_l0 run n k0 (IntKind.wrap .i64 (x7_2+1)) ((o2_2.set 4 (.int (IntKind.wrap .u32 ((AV.fld (.agg o2_2) 4).toInt+x10_1)))).set 0 (.int (IntKind.wrap .u32 (x10_1+x11_1)))) o4_2 o5_2 o6_2:=by kernel_rfl
theorem f120_l4_eq (run:Run) (n k0 k4:Nat) (x13_1:Int) (o2_5 o4_5 o6_5:List AV):f120_l4 run n k0 (k4+1) x13_1 o2_5 o4_5 o6_5 =
  bif ltI x13_1 8 then
    bif inR x13_1 8 then
    bif inR x13_1 8 then
    bif inR x13_1 8 then
    f120_l4 run n k0 k4 (IntKind.wrap .i64 (x13_1+1)) (o2_5.set (Int.toNat x13_1) (.int (IntKind.wrap .u32 ((AV.fld (.agg o2_5) (Int.toNat x13_1)).toInt+(AV.fld (.agg o6_5) (Int.toNat x13_1)).toInt)))) o4_5 o6_5
  else none
  else none
  else none
  else
    some ⟨[.agg o2_5],[],f120_fresh⟩:=by kernel_rfl
theorem f120_l0_eq (run:Run) (n k0:Nat) (x7_1:Int) (o2_1 o4_1:List AV) (o5_1 o6_1:List AV):f120_l0 run n (k0+1) x7_1 o2_1 o4_1 o5_1 o6_1 =
  bif ltI x7_1 64 then
    (run 143 [.int ((AV.fld (.agg o2_1) 4).toInt),.int 6]).bind fun r2 =>
    nilV r2.outs (consV r2.vals fun v2 vs2 =>
    nilV vs2 ((run 143 [.int ((AV.fld (.agg o2_1) 4).toInt),.int 11]).bind fun r3 =>
    nilV r3.outs (consV r3.vals fun v3 vs3 =>
    nilV vs3 ((run 143 [.int ((AV.fld (.agg o2_1) 4).toInt),.int 25]).bind fun r4 =>
    nilV r4.outs (consV r4.vals fun v4 vs4 =>
    nilV vs4 ((run 144 [.int x7_1]).bind fun r5 =>
    nilV r5.outs (consV r5.vals fun v5 vs5 =>
    nilV vs5 (bif inR x7_1 64 then
    (run 143 [.int ((AV.fld (.agg o2_1) 0).toInt),.int 2]).bind fun r6 =>
    nilV r6.outs (consV r6.vals fun v6 vs6 =>
    nilV vs6 ((run 143 [.int ((AV.fld (.agg o2_1) 0).toInt),.int 13]).bind fun r7 =>
    nilV r7.outs (consV r7.vals fun v7 vs7 =>
    nilV vs7 ((run 143 [.int ((AV.fld (.agg o2_1) 0).toInt),.int 22]).bind fun r8 =>
    nilV r8.outs (consV r8.vals fun v8 vs8 =>
    nilV vs8 (f120_l2 run n k0 n x7_1 (IntKind.wrap .u32 (IntKind.wrap .u32 (IntKind.wrap .u32 (IntKind.wrap .u32 ((AV.fld (.agg o2_1) 7).toInt+IntKind.wrap .u32 (BitVec.toNat (BitVec.ofInt 32 (IntKind.wrap .u32 (BitVec.toNat (BitVec.ofInt 32 v2.toInt ^^^ BitVec.ofInt 32 v3.toInt))) ^^^ BitVec.ofInt 32 v4.toInt)))+IntKind.wrap .u32 (BitVec.toNat (BitVec.ofInt 32 (IntKind.wrap .u32 (BitVec.toNat (BitVec.ofInt 32 ((AV.fld (.agg o2_1) 4).toInt) &&& BitVec.ofInt 32 ((AV.fld (.agg o2_1) 5).toInt)))) ^^^ BitVec.ofInt 32 (IntKind.wrap .u32 (BitVec.toNat (BitVec.ofInt 32 (IntKind.wrap .u32 (4294967295-(AV.fld (.agg o2_1) 4).toInt)) &&& BitVec.ofInt 32 ((AV.fld (.agg o2_1) 6).toInt)))))))+v5.toInt)+(AV.fld (.agg o5_1) (Int.toNat x7_1)).toInt)) (IntKind.wrap .u32 (IntKind.wrap .u32 (BitVec.toNat (BitVec.ofInt 32 (IntKind.wrap .u32 (BitVec.toNat (BitVec.ofInt 32 v6.toInt ^^^ BitVec.ofInt 32 v7.toInt))) ^^^ BitVec.ofInt 32 v8.toInt))+IntKind.wrap .u32 (BitVec.toNat (BitVec.ofInt 32 (IntKind.wrap .u32 (BitVec.toNat (BitVec.ofInt 32 (IntKind.wrap .u32 (BitVec.toNat (BitVec.ofInt 32 ((AV.fld (.agg o2_1) 0).toInt) &&& BitVec.ofInt 32 ((AV.fld (.agg o2_1) 1).toInt)))) ^^^ BitVec.ofInt 32 (IntKind.wrap .u32 (BitVec.toNat (BitVec.ofInt 32 ((AV.fld (.agg o2_1) 0).toInt) &&& BitVec.ofInt 32 ((AV.fld (.agg o2_1) 2).toInt))))))) ^^^ BitVec.ofInt 32 (IntKind.wrap .u32 (BitVec.toNat (BitVec.ofInt 32 ((AV.fld (.agg o2_1) 1).toInt) &&& BitVec.ofInt 32 ((AV.fld (.agg o2_1) 2).toInt)))))))) 7 o2_1 o4_1 o5_1 o6_1))))))
  else none))))))))
  else
    f120_l4 run n k0 n 0 o2_1 o4_1 o6_1:=by kernel_rfl
noncomputable def f120 (run:Run) (n:Nat) (a0_1:List AV) (a1_1:List UInt8):Option Res:=evalK G run n f120_info.keep 0 f120_info.body (retE G f120_info) (f120_info.start [.agg a0_1,.str a1_1])
theorem f120_eq (run:Run) (n:Nat) (a0_1:List AV) (a1_1:List UInt8):f120 run n a0_1 a1_1 =
  (run 142 [.str a1_1]).bind fun r1 =>
    nilV r1.outs (consV r1.vals fun v1 vs1 =>
    nilV vs1 (f120_l0 run n n 0 a0_1 (List.replicate 8 (.int 0)) v1.toAgg a0_1)):=by kernel_rfl
theorem f120_run (ext:Run) (n:Nat) (a0_1:List AV) (a1_1:List UInt8):runE G ext (n+1) 120 [.agg a0_1,.str a1_1]=f120 (runE G ext n) n a0_1 a1_1:=runE_succ f120_at f120_in
end Go.Proofs.YteiahdlklppghaaGreat.Ev

