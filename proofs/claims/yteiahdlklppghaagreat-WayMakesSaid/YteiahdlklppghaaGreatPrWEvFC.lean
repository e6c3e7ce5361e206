import Derived.Test.YteiahdlklppghaaGreatPrWEvFA
namespace Go.Proofs.YteiahdlklppghaaGreat.Ev
open Go Go.RowKit
set_option maxRecDepth 100000
noncomputable def f53_l0 (run:Run) (n k0:Nat) (x7_1 x13_1:Int) (o5_1 o6_1:List AV):Option Res :=
  iterK (evalK G run n f53_keep 0 (sub [1,1,1,0,1,0,0] f53_body)) f53_t0 f53_o0 (blockK 0 (seqK (evalK G run n f53_keep 0 (sub [1,1,1,1] f53_body) (retE G f53_info)) (retE G f53_info))) k0
    ⟨[qa,qa,qa,qa,qa,.ptr ⟨(.arr 4 (.int .u64)),5,1,[]⟩,.ptr ⟨(.arr 4 (.int .u64)),6,1,[]⟩,.val (.int .i64) none (.int x7_1),qa,qa,qa,qa,qa,.val (.int .i64) none (.int x13_1),qa,qa,qa,qa,qa,qa,qa,qa,qa,qa,.any],[qz,qz,qz,qz,qz,⟨1,some ⟨(.arr 4 (.int .u64)),.agg o5_1⟩⟩,⟨1,some ⟨(.arr 4 (.int .u64)),.agg o6_1⟩⟩,qz,qz,qz,qz,qz,qz,qz,qz,qz,qz,qz,qz,qz,qz,qz,qz,qz,qz],List.replicate 25 0⟩
theorem f53_l0_eq (run:Run) (n k0:Nat) (x7_1 x13_1:Int) (o5_1 o6_1:List AV):f53_l0 run n (k0+1) x7_1 x13_1 o5_1 o6_1 =
  bif ltI x13_1 256 then
    (run 85 [.agg o6_1,.int x13_1]).bind fun r3 =>
    nilV r3.outs (consV r3.vals fun v3 vs3 =>
    nilV vs3 ((run 84 [.agg o5_1,.agg v3.toAgg]).bind fun r4 =>
    nilV r4.outs (consV r4.vals fun v4 vs4 =>
    nilV vs4 (bif ltI 0 v4.toInt then
    some ⟨[.int x7_1],[],f53_fresh⟩
  else
    f53_l0 run n k0 x13_1 (IntKind.wrap .i64 (x13_1+1)) o5_1 o6_1))))
  else
    some ⟨[.int x7_1],[],f53_fresh⟩:=by kernel_rfl
noncomputable def f53 (run:Run) (n:Nat) (a0_1 a1_1:List UInt8):Option Res:=evalK G run n f53_info.keep 0 f53_info.body (retE G f53_info) (f53_info.start [.blob a0_1,.blob a1_1])
theorem f53_eq (run:Run) (n:Nat) (a0_1 a1_1:List UInt8):f53 run n a0_1 a1_1 =
  (run 83 [.blob a0_1]).bind fun r1 =>
    nilV r1.outs (consV r1.vals fun v1 vs1 =>
    nilV vs1 ((run 83 [.blob a1_1]).bind fun r2 =>
    nilV r2.outs (consV r2.vals fun v2 vs2 =>
    nilV vs2 (f53_l0 run n n (-1) 0 v1.toAgg v2.toAgg)))):=by kernel_rfl
theorem f53_run (ext:Run) (n:Nat) (a0_1 a1_1:List UInt8):runE G ext (n+1) 53 [.blob a0_1,.blob a1_1]=f53 (runE G ext n) n a0_1 a1_1:=runE_succ f53_at f53_in
noncomputable def f97_l2 (run:Run) (n _k0:Nat) (k2 m3:Nat) (x48_1 x49_1:Int) (o4_3 o8_3:List UInt8) (o22_3:List AV):Option Res :=
  iterK (evalK G run n f97_keep 2 (sub [1,1,1,1,1,1,1,0,1,0,0] f97_body)) f97_t2 f97_o2 (blockK 2 (seqK (evalK G run n f97_keep 0 (sub [1,1,1,1,1,1,1,1] f97_body) (retE G f97_info)) (retE G f97_info))) k2
    ⟨[qa,qa,qa,qa,.ptr ⟨(.blob 32),4,1,[]⟩,qa,qa,.ref ⟨(.arr m3 (.blob 32)),22,1,[]⟩ 0 m3,.ptr ⟨(.blob 32),8,1,[]⟩,qa,qa,qa,qa,qa,qa,qa,qa,qa,qa,qa,qa,qa,qa,qa,qa,qa,qa,qa,qa,qa,qa,qa,qa,qa,qa,qa,qa,qa,qa,qa,qa,qa,qa,qa,qa,qa,qa,qa,.val (.int .i64) none (.int x48_1),.val (.int .i64) none (.int x49_1),qa,qa,qa,qa,qa,qa,qa,qa,qa,qa,qa,qa,qa,.any],[qz,qz,qz,qz,⟨1,some ⟨(.blob 32),.blob o4_3⟩⟩,qz,qz,qz,⟨1,some ⟨(.blob 32),.blob o8_3⟩⟩,qz,qz,qz,qz,qz,qz,qz,qz,qz,qz,qz,qz,qz,⟨1,some ⟨(.arr m3 (.blob 32)),.agg o22_3⟩⟩,qz,qz,qz,qz,qz,qz,qz,qz,qz,qz,qz,qz,qz,qz,qz,qz,qz,qz,qz,qz,qz,qz,qz,qz,qz,qz,qz,qz,qz,qz,qz,qz,qz,qz,qz,qz,qz,qz,qz,qz,qz],List.replicate 64 0⟩
noncomputable def f97_l0 (run:Run) (n k0:Nat) (x0_1:List AV) (x2_1:Int) (m1:Nat) (x30_1 x31_1:Int) (o4_1 o8_1:List UInt8) (o22_1:List AV):Option Res :=
  iterK (evalK G run n f97_keep 0 (sub [1,1,1,1,1,0,1,0,0] f97_body)) f97_t0 f97_o0 (blockK 0 (seqK (evalK G run n f97_keep 0 (sub [1,1,1,1,1,1] f97_body) (retE G f97_info)) (retE G f97_info))) k0
    ⟨[.val (.slice (.blob 32)) none (.slice x0_1),qa,.val (.int .i64) none (.int x2_1),qa,.ptr ⟨(.blob 32),4,1,[]⟩,qa,qa,.ref ⟨(.arr m1 (.blob 32)),22,1,[]⟩ 0 m1,.ptr ⟨(.blob 32),8,1,[]⟩,qa,qa,qa,qa,qa,qa,qa,qa,qa,qa,qa,qa,qa,qa,qa,qa,qa,qa,qa,qa,qa,.val (.int .i64) none (.int x30_1),.val (.int .i64) none (.int x31_1),qa,qa,qa,qa,qa,qa,qa,qa,qa,qa,qa,qa,qa,qa,qa,qa,qa,qa,qa,qa,qa,qa,qa,qa,qa,qa,qa,qa,qa,qa,qa,.any],[qz,qz,qz,qz,⟨1,some ⟨(.blob 32),.blob o4_1⟩⟩,qz,qz,qz,⟨1,some ⟨(.blob 32),.blob o8_1⟩⟩,qz,qz,qz,qz,qz,qz,qz,qz,qz,qz,qz,qz,qz,⟨1,some ⟨(.arr m1 (.blob 32)),.agg o22_1⟩⟩,qz,qz,qz,qz,qz,qz,qz,qz,qz,qz,qz,qz,qz,qz,qz,qz,qz,qz,qz,qz,qz,qz,qz,qz,qz,qz,qz,qz,qz,qz,qz,qz,qz,qz,qz,qz,qz,qz,qz,qz,qz],List.replicate 64 0⟩
theorem f97_l2_eq (run:Run) (n k0:Nat) (k2 m3:Nat) (x48_1 x49_1:Int) (o4_3 o8_3:List UInt8) (o22_3:List AV):f97_l2 run n k0 (k2+1) m3 x48_1 x49_1 o4_3 o8_3 o22_3 =
  bif ltI x49_1 x48_1 then
    bif inR x49_1 m3 then
    f97_l2 run n k0 k2 m3 x48_1 (IntKind.wrap .i64 (x49_1+1)) o4_3 o8_3 (o22_3.set (0+(Int.toNat x49_1)) (.blob o4_3))
  else none
  else
    bif inR (IntKind.wrap .i64 ((m3:Int)-1)) m3 then
    some ⟨[.slice (List.drop 0 (List.take m3 (o22_3.set (0+(Int.toNat (IntKind.wrap .i64 ((m3:Int)-1)))) (.blob o8_3))))],[],f97_fresh⟩
  else none:=by kernel_rfl
theorem f97_l0_eq (run:Run) (n k0:Nat) (x0_1:List AV) (x2_1:Int) (m1:Nat) (x30_1 x31_1:Int) (o4_1 o8_1:List UInt8) (o22_1:List AV):f97_l0 run n (k0+1) x0_1 x2_1 m1 x30_1 x31_1 o4_1 o8_1 o22_1 =
  bif ltI x31_1 x30_1 then
    bif inR x31_1 m1 then
    f97_l0 run n k0 x0_1 x2_1 m1 x30_1 (IntKind.wrap .i64 (x31_1+1)) o4_1 o8_1 (o22_1.set (0+(Int.toNat x31_1)) (.blob o8_1))
  else none
  else
    bif boundsOk 0 (x0_1.length:Int) (x0_1.length:Int) (x0_1.length:Int)&&true then
    f97_l2 run n k0 n m1 (IntKind.wrap .i64 (x2_1+1)) 0 o4_1 o8_1 (splice o22_1 0 (List.take m1 (List.drop 0 (List.take (Int.toNat (x0_1.length:Int)) x0_1))))
  else none:=by kernel_rfl
noncomputable def f97 (run:Run) (n:Nat) (a0_1:List AV) (a1_1:List UInt8) (a2_1:Int):Option Res:=evalK G run n f97_info.keep 0 f97_info.body (retE G f97_info) (f97_info.start [.slice a0_1,.blob a1_1,.int a2_1])
theorem f97_eq (run:Run) (n:Nat) (a0_1:List AV) (a1_1:List UInt8) (a2_1:Int):f97 run n a0_1 a1_1 a2_1 =
  bif eqI (a0_1.length:Int) 0 then
    some ⟨[.slice []],[],f97_fresh⟩
  else
    bif eqI (mx2 (a0_1.length:Int) (IntKind.wrap .i64 (mn2 (mx2 a2_1 0) 255+2))) (mx2 (a0_1.length:Int) (IntKind.wrap .i64 (mn2 (mx2 a2_1 0) 255+2)))&&leI 0 (mx2 (a0_1.length:Int) (IntKind.wrap .i64 (mn2 (mx2 a2_1 0) 255+2)))&&Nat.ble (Int.toNat (mx2 (a0_1.length:Int) (IntKind.wrap .i64 (mn2 (mx2 a2_1 0) 255+2)))*32) 140737488355328 then
    bif inR (IntKind.wrap .i64 ((a0_1.length:Int)-1)) a0_1.length then
    f97_l0 run n n a0_1 (mn2 (mx2 a2_1 0) 255) (Int.toNat (mx2 (a0_1.length:Int) (IntKind.wrap .i64 (mn2 (mx2 a2_1 0) 255+2)))) (Int.toNat (mx2 (a0_1.length:Int) (IntKind.wrap .i64 (mn2 (mx2 a2_1 0) 255+2))):Int) 0 a1_1 ((nth a0_1 (Int.toNat (IntKind.wrap .i64 ((a0_1.length:Int)-1)))).toBlob) (List.replicate (Int.toNat (mx2 (a0_1.length:Int) (IntKind.wrap .i64 (mn2 (mx2 a2_1 0) 255+2)))) (.blob (List.replicate 32 0)))
  else none
  else none:=by kernel_rfl
theorem f97_run (ext:Run) (n:Nat) (a0_1:List AV) (a1_1:List UInt8) (a2_1:Int):runE G ext (n+1) 97 [.slice a0_1,.blob a1_1,.int a2_1]=f97 (runE G ext n) n a0_1 a1_1 a2_1:=runE_succ f97_at f97_in
noncomputable def f62 (run:Run) (n:Nat) (a0_1:List UInt8) (a1_1:List AV) (a2_1:Int) (a2_2 a2_3:List UInt8) (a2_4:Int) (a2_5:List AV) (a3_1:Int):Option Res:=evalK G run n f62_info.keep 0 f62_info.body (retE G f62_info) (f62_info.start [.blob a0_1,.slice a1_1,.agg [.agg [.int a2_1,.blob a2_2,.blob a2_3,.int a2_4],.slice a2_5],.int a3_1])
theorem f62_eq (run:Run) (n:Nat) (a0_1:List UInt8) (a1_1:List AV) (a2_1:Int) (a2_2 a2_3:List UInt8) (a2_4:Int) (a2_5:List AV) (a3_1:Int):f62 run n a0_1 a1_1 a2_1 a2_2 a2_3 a2_4 a2_5 a3_1 =
  (run 54 [.agg [.agg [.int a2_1,.blob a2_2,.blob a2_3,.int a2_4],.slice a2_5]]).bind fun r1 =>
    nilV r1.outs (consV r1.vals fun v1 vs1 =>
    nilV vs1 (bif eqI a3_1 0 then
    (run 96 [.blob v1.toBlob]).bind fun r2 =>
    bif r2.fresh then
    nilV r2.outs (consV r2.vals fun v2 vs2 =>
    nilV vs2 (some ⟨[.slice v2.toSlice],[],f62_fresh⟩))
  else none
  else
    (run 53 [.blob v1.toBlob,.blob a0_1]).bind fun r3 =>
    nilV r3.outs (consV r3.vals fun v3 vs3 =>
    nilV vs3 ((run 97 [.slice a1_1,.blob v1.toBlob,.int v3.toInt]).bind fun r4 =>
    nilV r4.outs (consV r4.vals fun v4 vs4 =>
    nilV vs4 (some ⟨[.slice v4.toSlice],[],f62_fresh⟩)))))):=by kernel_rfl
theorem f62_run (ext:Run) (n:Nat) (a0_1:List UInt8) (a1_1:List AV) (a2_1:Int) (a2_2 a2_3:List UInt8) (a2_4:Int) (a2_5:List AV) (a3_1:Int):runE G ext (n+1) 62 [.blob a0_1,.slice a1_1,.agg [.agg [.int a2_1,.blob a2_2,.blob a2_3,.int a2_4],.slice a2_5],.int a3_1]=f62 (runE G ext n) n a0_1 a1_1 a2_1 a2_2 a2_3 a2_4 a2_5 a3_1:=runE_succ f62_at f62_in
noncomputable def f31_l3 (run:Run) (n k1 k3:Nat) (x5_2:List AV) (x6_1:Int) (x22_2:List AV) (x23_2 x24_2:Int) (x40_1:List AV) (x41_1 x42_1 o2_12:Int) (o2_13 o2_14:List UInt8) (o2_15:Int) (o2_16:List UInt8) (o2_17 o2_18:Int) (o2_19 o2_20:Int) (o2_21 o2_22:Int) (o4_3 o4_4 o7_1:Int) (o7_2 o7_3:List UInt8) (o7_4:Int) (o7_5:List AV):Option Res :=
  iterK (evalK G run n f31_keep 3 (sub [1,1,1,0,1,0,0,1,1,0,0,1,1,0,1,0,0] f31_body)) f31_t3 f31_o3 (blockK 3 (seqK (evalK G run n f31_keep 2 (sub [1,1,1,0,1,0,0,1,1,0,0,1,1,1] f31_body) (blockK 2 (seqK (evalK G run n f31_keep 1 (sub [1,1,1,0,1,0,0,1,1,1] f31_body) (seqK (fun t=>iterK (evalK G run n f31_keep 1 (sub [1,1,1,0,1,0,0] f31_body)) f31_t1 f31_o1 (blockK 1 (seqK (evalK G run n f31_keep 0 (sub [1,1,1,1] f31_body) (retE G f31_info)) (retE G f31_info))) k1 (t.clear f31_t1 f31_o1)) (blockK 1 (seqK (evalK G run n f31_keep 0 (sub [1,1,1,1] f31_body) (retE G f31_info)) (retE G f31_info))))) (seqK (fun t=>iterK (evalK G run n f31_keep 1 (sub [1,1,1,0,1,0,0] f31_body)) f31_t1 f31_o1 (blockK 1 (seqK (evalK G run n f31_keep 0 (sub [1,1,1,1] f31_body) (retE G f31_info)) (retE G f31_info))) k1 (t.clear f31_t1 f31_o1)) (blockK 1 (seqK (evalK G run n f31_keep 0 (sub [1,1,1,1] f31_body) (retE G f31_info)) (retE G f31_info))))))) (blockK 2 (seqK (evalK G run n f31_keep 1 (sub [1,1,1,0,1,0,0,1,1,1] f31_body) (seqK (fun t=>iterK (evalK G run n f31_keep 1 (sub [1,1,1,0,1,0,0] f31_body)) f31_t1 f31_o1 (blockK 1 (seqK (evalK G run n f31_keep 0 (sub [1,1,1,1] f31_body) (retE G f31_info)) (retE G f31_info))) k1 (t.clear f31_t1 f31_o1)) (blockK 1 (seqK (evalK G run n f31_keep 0 (sub [1,1,1,1] f31_body) (retE G f31_info)) (retE G f31_info))))) (seqK (fun t=>iterK (evalK G run n f31_keep 1 (sub [1,1,1,0,1,0,0] f31_body)) f31_t1 f31_o1 (blockK 1 (seqK (evalK G run n f31_keep 0 (sub [1,1,1,1] f31_body) (retE G f31_info)) (retE G f31_info))) k1 (t.clear f31_t1 f31_o1)) (blockK 1 (seqK (evalK G run n f31_keep 0 (sub [1,1,1,1] f31_body) (retE G f31_info)) (retE G f31_info)))))))) k3
    ⟨[qa,qa,.ptr ⟨(.struct [(.struct [(.int .u32),(.blob 32),(.blob 32),(.int .u64)]),(.blob 32),(.int .i64),(.int .i64),(.int .i64),(.int .i64),(.int .i64),(.int .i64)]),2,1,[]⟩,qa,.ptr ⟨(.struct [(.int .i64),(.int .i64)]),4,1,[]⟩,.val (.slice (.blob 32)) none (.slice x5_2),.val (.int .i64) none (.int x6_1),.ptr ⟨(.struct [(.struct [(.int .u32),(.blob 32),(.blob 32),(.int .u64)]),(.slice .str)]),7,1,[]⟩,qa,qa,qa,qa,qa,qa,qa,qa,qa,qa,qa,qa,qa,qa,.val (.slice (.struct [(.struct [(.int .u32),(.blob 32),(.blob 32),(.int .u64)]),(.slice .str)])) none (.slice x22_2),.val (.int .i64) none (.int x23_2),.val (.int .i64) none (.int x24_2),qa,qa,qa,qa,qa,qa,qa,qa,qa,qa,qa,qa,qa,qa,qa,.val (.slice (.clos [(59,([0],[])),(60,([0],[])),(61,([0],[]))] [(.struct [(.struct [(.struct [(.int .u32),(.blob 32),(.blob 32),(.int .u64)]),(.blob 32),(.int .i64),(.int .i64),(.int .i64),(.int .i64),(.int .i64),(.int .i64)]),(.int .i64),(.struct [(.struct [(.int .u32),(.blob 32),(.blob 32),(.int .u64)]),(.slice .str)]),(.slice (.blob 32))])])) (some (40,0)) (.slice x40_1),.val (.int .i64) none (.int x41_1),.val (.int .i64) none (.int x42_1),qa,qa,qa,qa,qa,qa,qa,qa,qa,qa,qa,qa,qa,qa,qa,qa,qa,qa,.any],[qz,qz,⟨1,some ⟨(.struct [(.struct [(.int .u32),(.blob 32),(.blob 32),(.int .u64)]),(.blob 32),(.int .i64),(.int .i64),(.int .i64),(.int .i64),(.int .i64),(.int .i64)]),.agg [.agg [.int o2_12,.blob o2_13,.blob o2_14,.int o2_15],.blob o2_16,.int o2_17,.int o2_18,.int o2_19,.int o2_20,.int o2_21,.int o2_22]⟩⟩,qz,⟨1,some ⟨(.struct [(.int .i64),(.int .i64)]),.agg [.int o4_3,.int o4_4]⟩⟩,qz,qz,⟨1,some ⟨(.struct [(.struct [(.int .u32),(.blob 32),(.blob 32),(.int .u64)]),(.slice .str)]),.agg [.agg [.int o7_1,.blob o7_2,.blob o7_3,.int o7_4],.slice o7_5]⟩⟩,qz,qz,qz,qz,qz,qz,qz,qz,qz,qz,qz,qz,qz,qz,qz,qz,qz,qz,qz,qz,qz,qz,qz,qz,qz,qz,qz,qz,qz,qz,qz,qz,qz,qz,qz,qz,qz,qz,qz,qz,qz,qz,qz,qz,qz,qz,qz,qz,qz,qz,qz,qz,qz,qz],List.replicate 62 0⟩
noncomputable def f31_l1 (run:Run) (n k1:Nat) (x5_1 x22_1:List AV) (x23_1 x24_1 o2_1:Int) (o2_2 o2_3:List UInt8) (o2_4:Int) (o2_5:List UInt8) (o2_6 o2_7:Int) (o2_8 o2_9:Int) (o2_10 o2_11:Int) (o4_1 o4_2:Int):Option Res :=
  iterK (evalK G run n f31_keep 1 (sub [1,1,1,0,1,0,0] f31_body)) f31_t1 f31_o1 (blockK 1 (seqK (evalK G run n f31_keep 0 (sub [1,1,1,1] f31_body) (retE G f31_info)) (retE G f31_info))) k1
    ⟨[qa,qa,.ptr ⟨(.struct [(.struct [(.int .u32),(.blob 32),(.blob 32),(.int .u64)]),(.blob 32),(.int .i64),(.int .i64),(.int .i64),(.int .i64),(.int .i64),(.int .i64)]),2,1,[]⟩,qa,.ptr ⟨(.struct [(.int .i64),(.int .i64)]),4,1,[]⟩,.val (.slice (.blob 32)) none (.slice x5_1),qa,qa,qa,qa,qa,qa,qa,qa,qa,qa,qa,qa,qa,qa,qa,qa,.val (.slice (.struct [(.struct [(.int .u32),(.blob 32),(.blob 32),(.int .u64)]),(.slice .str)])) none (.slice x22_1),.val (.int .i64) none (.int x23_1),.val (.int .i64) none (.int x24_1),qa,qa,qa,qa,qa,qa,qa,qa,qa,qa,qa,qa,qa,qa,qa,qa,qa,qa,qa,qa,qa,qa,qa,qa,qa,qa,qa,qa,qa,qa,qa,qa,qa,qa,qa,qa,.any],[qz,qz,⟨1,some ⟨(.struct [(.struct [(.int .u32),(.blob 32),(.blob 32),(.int .u64)]),(.blob 32),(.int .i64),(.int .i64),(.int .i64),(.int .i64),(.int .i64),(.int .i64)]),.agg [.agg [.int o2_1,.blob o2_2,.blob o2_3,.int o2_4],.blob o2_5,.int o2_6,.int o2_7,.int o2_8,.int o2_9,.int o2_10,.int o2_11]⟩⟩,qz,⟨1,some ⟨(.struct [(.int .i64),(.int .i64)]),.agg [.int o4_1,.int o4_2]⟩⟩,qz,qz,qz,qz,qz,qz,qz,qz,qz,qz,qz,qz,qz,qz,qz,qz,qz,qz,qz,qz,qz,qz,qz,qz,qz,qz,qz,qz,qz,qz,qz,qz,qz,qz,qz,qz,qz,qz,qz,qz,qz,qz,qz,qz,qz,qz,qz,qz,qz,qz,qz,qz,qz,qz,qz,qz,qz],List.replicate 62 0⟩
theorem f31_l3_eq (run:Run) (n k1 k3:Nat) (x5_2:List AV) (x6_1:Int) (x22_2:List AV) (x23_2 x24_2:Int) (x40_1:List AV) (x41_1 x42_1 o2_12:Int) (o2_13 o2_14:List UInt8) (o2_15:Int) (o2_16:List UInt8) (o2_17 o2_18:Int) (o2_19 o2_20:Int) (o2_21 o2_22:Int) (o4_3 o4_4 o7_1:Int) (o7_2 o7_3:List UInt8) (o7_4:Int) (o7_5:List AV):f31_l3 run n k1 (k3+1) x5_2 x6_1 x22_2 x23_2 x24_2 x40_1 x41_1 x42_1 o2_12 o2_13 o2_14 o2_15 o2_16 o2_17 o2_18 o2_19 o2_20 o2_21 o2_22 o4_3 o4_4 o7_1 o7_2 o7_3 o7_4 o7_5 =
  bif ltI x42_1 x41_1 then
    bif inR x42_1 x40_1.length then
    bif Nat.beq ((nth x40_1 (Int.toNat x42_1)).cloF) 59 then
    (run 59 [nth ((nth x40_1 (Int.toNat x42_1)).cloXs) 0]).bind fun r3 =>
    nilV r3.outs (consV r3.vals fun v3 vs3 =>
    nilV vs3 (bif !(eqI v3.toInt 0) then
    some ⟨[.agg [.int v3.toInt,.int x6_1]],[],f31_fresh⟩
  else
    f31_l3 run n k1 k3 x5_2 x6_1 x22_2 x23_2 x24_2 x40_1 x41_1 (IntKind.wrap .i64 (x42_1+1)) o2_12 o2_13 o2_14 o2_15 o2_16 o2_17 o2_18 o2_19 o2_20 o2_21 o2_22 o4_3 o4_4 o7_1 o7_2 o7_3 o7_4 o7_5))
  else
    bif Nat.beq ((nth x40_1 (Int.toNat x42_1)).cloF) 60 then
    (run 60 [nth ((nth x40_1 (Int.toNat x42_1)).cloXs) 0]).bind fun r2 =>
    nilV r2.outs (consV r2.vals fun v2 vs2 =>
    nilV vs2 (bif !(eqI v2.toInt 0) then
    some ⟨[.agg [.int v2.toInt,.int x6_1]],[],f31_fresh⟩
  else
    f31_l3 run n k1 k3 x5_2 x6_1 x22_2 x23_2 x24_2 x40_1 x41_1 (IntKind.wrap .i64 (x42_1+1)) o2_12 o2_13 o2_14 o2_15 o2_16 o2_17 o2_18 o2_19 o2_20 o2_21 o2_22 o4_3 o4_4 o7_1 o7_2 o7_3 o7_4 o7_5))
  else
    bif Nat.beq ((nth x40_1 (Int.toNat x42_1)).cloF) 61 then
    (run 61 [nth ((nth x40_1 (Int.toNat x42_1)).cloXs) 0]).bind fun r1 =>
    nilV r1.outs (consV r1.vals fun v1 vs1 =>
    nilV vs1 (bif !(eqI v1.toInt 0) then
    some ⟨[.agg [.int v1.toInt,.int x6_1]],[],f31_fresh⟩
  else
    f31_l3 run n k1 k3 x5_2 x6_1 x22_2 x23_2 x24_2 x40_1 x41_1 (IntKind.wrap .i64 (x42_1+1)) o2_12 o2_13 o2_14 o2_15 o2_16 o2_17 o2_18 o2_19 o2_20 o2_21 o2_22 o4_3 o4_4 o7_1 o7_2 o7_3 o7_4 o7_5))
  else
    none
  else none
  else
    (run 62 [.blob o2_16,.slice x5_2,.agg [.agg [.int o7_1,.blob o7_2,.blob o7_3,.int o7_4],.slice o7_5],.int x6_1]).bind fun r4 =>
    nilV r4.outs (consV r4.vals fun v4 vs4 =>
    nilV vs4 (f31_l1 run n k1 v4.toSlice x22_2 x23_2 (IntKind.wrap .i64 (x24_2+1)) o2_12 o2_13 o2_14 o2_15 o2_16 o2_17 o2_18 o2_19 o2_20 o2_21 o2_22 o4_3 o4_4)):=by kernel_rfl
theorem f31_l1_eq (run:Run) (n k1:Nat) (x5_1 x22_1:List AV) (x23_1 x24_1 o2_1:Int) (o2_2 o2_3:List UInt8) (o2_4:Int) (o2_5:List UInt8) (o2_6 o2_7:Int) (o2_8 o2_9:Int) (o2_10 o2_11:Int) (o4_1 o4_2:Int):f31_l1 run n (k1+1) x5_1 x22_1 x23_1 x24_1 o2_1 o2_2 o2_3 o2_4 o2_5 o2_6 o2_7 o2_8 o2_9 o2_10 o2_11 o4_1 o4_2 =
  bif ltI x24_1 x23_1 then
    bif inR x24_1 x22_1.length then
    f31_l3 run n k1 n x5_1 x24_1 x22_1 x23_1 x24_1 [.clo 59 [.agg [.agg [.agg [.int o2_1,.blob o2_2,.blob o2_3,.int o2_4],.blob o2_5,.int o2_6,.int o2_7,.int o2_8,.int o2_9,.int o2_10,.int o2_11],.int x24_1,.agg [.agg [.int ((((nth x22_1 (Int.toNat x24_1)).fld 0).fld 0).toInt),.blob ((((nth x22_1 (Int.toNat x24_1)).fld 0).fld 1).toBlob),.blob ((((nth x22_1 (Int.toNat x24_1)).fld 0).fld 2).toBlob),.int ((((nth x22_1 (Int.toNat x24_1)).fld 0).fld 3).toInt)],.slice (((nth x22_1 (Int.toNat x24_1)).fld 1).toSlice)],.slice x5_1]],.clo 60 [.agg [.agg [.agg [.int o2_1,.blob o2_2,.blob o2_3,.int o2_4],.blob o2_5,.int o2_6,.int o2_7,.int o2_8,.int o2_9,.int o2_10,.int o2_11],.int x24_1,.agg [.agg [.int ((((nth x22_1 (Int.toNat x24_1)).fld 0).fld 0).toInt),.blob ((((nth x22_1 (Int.toNat x24_1)).fld 0).fld 1).toBlob),.blob ((((nth x22_1 (Int.toNat x24_1)).fld 0).fld 2).toBlob),.int ((((nth x22_1 (Int.toNat x24_1)).fld 0).fld 3).toInt)],.slice (((nth x22_1 (Int.toNat x24_1)).fld 1).toSlice)],.slice x5_1]],.clo 61 [.agg [.agg [.agg [.int o2_1,.blob o2_2,.blob o2_3,.int o2_4],.blob o2_5,.int o2_6,.int o2_7,.int o2_8,.int o2_9,.int o2_10,.int o2_11],.int x24_1,.agg [.agg [.int ((((nth x22_1 (Int.toNat x24_1)).fld 0).fld 0).toInt),.blob ((((nth x22_1 (Int.toNat x24_1)).fld 0).fld 1).toBlob),.blob ((((nth x22_1 (Int.toNat x24_1)).fld 0).fld 2).toBlob),.int ((((nth x22_1 (Int.toNat x24_1)).fld 0).fld 3).toInt)],.slice (((nth x22_1 (Int.toNat x24_1)).fld 1).toSlice)],.slice x5_1]]] 3 0 o2_1 o2_2 o2_3 o2_4 o2_5 o2_6 o2_7 o2_8 o2_9 o2_10 o2_11 o4_1 o4_2 ((((nth x22_1 (Int.toNat x24_1)).fld 0).fld 0).toInt) ((((nth x22_1 (Int.toNat x24_1)).fld 0).fld 1).toBlob) ((((nth x22_1 (Int.toNat x24_1)).fld 0).fld 2).toBlob) ((((nth x22_1 (Int.toNat x24_1)).fld 0).fld 3).toInt) (((nth x22_1 (Int.toNat x24_1)).fld 1).toSlice)
  else none
  else
    some ⟨[.agg [.int 0,.int 0]],[],f31_fresh⟩:=by kernel_rfl
noncomputable def f31 (run:Run) (n:Nat) (a0_1:Int) (a0_2 a0_3:List UInt8) (a0_4:Int) (a0_5:List UInt8) (a0_6 a0_7:Int) (a0_8 a0_9:Int) (a0_10 a0_11:Int) (a1_1:List AV):Option Res:=evalK G run n f31_info.keep 0 f31_info.body (retE G f31_info) (f31_info.start [.agg [.agg [.int a0_1,.blob a0_2,.blob a0_3,.int a0_4],.blob a0_5,.int a0_6,.int a0_7,.int a0_8,.int a0_9,.int a0_10,.int a0_11],.slice a1_1])
theorem f31_eq (run:Run) (n:Nat) (a0_1:Int) (a0_2 a0_3:List UInt8) (a0_4:Int) (a0_5:List UInt8) (a0_6 a0_7:Int) (a0_8 a0_9:Int) (a0_10 a0_11:Int) (a1_1:List AV):f31 run n a0_1 a0_2 a0_3 a0_4 a0_5 a0_6 a0_7 a0_8 a0_9 a0_10 a0_11 a1_1 =
  bif eqI (a1_1.length:Int) 0 then
    some ⟨[.agg [.int 6,.int 0]],[],f31_fresh⟩
  else
    bif ltI 1024 (a1_1.length:Int) then
    some ⟨[.agg [.int 4,.int 1024]],[],f31_fresh⟩
  else
    f31_l1 run n n [] a1_1 (a1_1.length:Int) 0 a0_1 a0_2 a0_3 a0_4 a0_5 a0_6 a0_7 a0_8 a0_9 a0_10 a0_11 0 0:=by kernel_rfl
theorem f31_run (ext:Run) (n:Nat) (a0_1:Int) (a0_2 a0_3:List UInt8) (a0_4:Int) (a0_5:List UInt8) (a0_6 a0_7:Int) (a0_8 a0_9:Int) (a0_10 a0_11:Int) (a1_1:List AV):runE G ext (n+1) 31 [.agg [.agg [.int a0_1,.blob a0_2,.blob a0_3,.int a0_4],.blob a0_5,.int a0_6,.int a0_7,.int a0_8,.int a0_9,.int a0_10,.int a0_11],.slice a1_1]=f31 (runE G ext n) n a0_1 a0_2 a0_3 a0_4 a0_5 a0_6 a0_7 a0_8 a0_9 a0_10 a0_11 a1_1:=runE_succ f31_at f31_in
noncomputable def f63 (run:Run) (n:Nat) (a0_1 a1_1:Int):Option Res:=evalK G run n f63_info.keep 0 f63_info.body (retE G f63_info) (f63_info.start [.int a0_1,.int a1_1])
theorem f63_eq (run:Run) (n:Nat) (a0_1 a1_1:Int):f63 run n a0_1 a1_1 =
  bif ltI 0 a0_1 then
    bif ltI a0_1 a1_1 then
    some ⟨[.bool (leI a1_1 65536)],[],f63_fresh⟩
  else
    some ⟨[.bool false],[],f63_fresh⟩
  else
    some ⟨[.bool false],[],f63_fresh⟩:=by kernel_rfl
theorem f63_run (ext:Run) (n:Nat) (a0_1 a1_1:Int):runE G ext (n+1) 63 [.int a0_1,.int a1_1]=f63 (runE G ext n) n a0_1 a1_1:=runE_succ f63_at f63_in
noncomputable def f32 (run:Run) (n:Nat) (a0_1 a1_1:Int) (a2_1 a3_1:Int):Option Res:=evalK G run n f32_info.keep 0 f32_info.body (retE G f32_info) (f32_info.start [.int a0_1,.int a1_1,.int a2_1,.int a3_1])
theorem f32_eq (run:Run) (n:Nat) (a0_1 a1_1:Int) (a2_1 a3_1:Int):f32 run n a0_1 a1_1 a2_1 a3_1 =
  bif leI 1 a0_1 then
    bif leI a0_1 1024 then
    bif leI 1 a1_1 then
    bif leI a1_1 1024 then
    (run 63 [.int a2_1,.int a3_1]).bind fun r1 =>
    nilV r1.outs (consV r1.vals fun v1 vs1 =>
    nilV vs1 (some ⟨[.bool v1.toBool],[],f32_fresh⟩))
  else
    some ⟨[.bool false],[],f32_fresh⟩
  else
    some ⟨[.bool false],[],f32_fresh⟩
  else
    some ⟨[.bool false],[],f32_fresh⟩
  else
    some ⟨[.bool false],[],f32_fresh⟩:=by kernel_rfl
theorem f32_run (ext:Run) (n:Nat) (a0_1 a1_1:Int) (a2_1 a3_1:Int):runE G ext (n+1) 32 [.int a0_1,.int a1_1,.int a2_1,.int a3_1]=f32 (runE G ext n) n a0_1 a1_1 a2_1 a3_1:=runE_succ f32_at f32_in
noncomputable def f14 (run:Run) (n:Nat) (a0_1:Int) (a0_2 a0_3:List UInt8) (a0_4:Int) (a0_5:List UInt8) (a0_6 a0_7:Int) (a0_8 a0_9:Int) (a0_10 a0_11:Int) (a1_1:List AV):Option Res:=evalK G run n f14_info.keep 0 f14_info.body (retE G f14_info) (f14_info.start [.agg [.agg [.int a0_1,.blob a0_2,.blob a0_3,.int a0_4],.blob a0_5,.int a0_6,.int a0_7,.int a0_8,.int a0_9,.int a0_10,.int a0_11],.slice a1_1])
theorem f14_eq (run:Run) (n:Nat) (a0_1:Int) (a0_2 a0_3:List UInt8) (a0_4:Int) (a0_5:List UInt8) (a0_6 a0_7:Int) (a0_8 a0_9:Int) (a0_10 a0_11:Int) (a1_1:List AV):f14 run n a0_1 a0_2 a0_3 a0_4 a0_5 a0_6 a0_7 a0_8 a0_9 a0_10 a0_11 a1_1 =
  (run 31 [.agg [.agg [.int a0_1,.blob a0_2,.blob a0_3,.int a0_4],.blob a0_5,.int a0_6,.int a0_7,.int a0_8,.int a0_9,.int a0_10,.int a0_11],.slice a1_1]).bind fun r1 =>
    nilV r1.outs (consV r1.vals fun v1 vs1 =>
    nilV vs1 (bif !(eqI ((v1.fld 0).toInt) 0) then
    some ⟨[.int ((v1.fld 0).toInt)],[],f14_fresh⟩
  else
    (run 32 [.int a0_6,.int a0_7,.int a0_8,.int a0_9]).bind fun r2 =>
    nilV r2.outs (consV r2.vals fun v2 vs2 =>
    nilV vs2 (bif !v2.toBool then
    some ⟨[.int 13],[],f14_fresh⟩
  else
    bif leI (a1_1.length:Int) a0_7 then
    some ⟨[.int 11],[],f14_fresh⟩
  else
    some ⟨[.int 0],[],f14_fresh⟩)))):=by kernel_rfl
theorem f14_run (ext:Run) (n:Nat) (a0_1:Int) (a0_2 a0_3:List UInt8) (a0_4:Int) (a0_5:List UInt8) (a0_6 a0_7:Int) (a0_8 a0_9:Int) (a0_10 a0_11:Int) (a1_1:List AV):runE G ext (n+1) 14 [.agg [.agg [.int a0_1,.blob a0_2,.blob a0_3,.int a0_4],.blob a0_5,.int a0_6,.int a0_7,.int a0_8,.int a0_9,.int a0_10,.int a0_11],.slice a1_1]=f14 (runE G ext n) n a0_1 a0_2 a0_3 a0_4 a0_5 a0_6 a0_7 a0_8 a0_9 a0_10 a0_11 a1_1:=runE_succ f14_at f14_in
noncomputable def f102 (run:Run) (n:Nat) (a0_1:List AV) (a1_1:Int):Option Res:=evalK G run n f102_info.keep 0 f102_info.body (retE G f102_info) (f102_info.start [.slice a0_1,.int a1_1])
theorem f102_eq (run:Run) (n:Nat) (a0_1:List AV) (a1_1:Int):f102 run n a0_1 a1_1 =
  bif ltI (a0_1.length:Int) 2 then
    some ⟨[.slice []],[],f102_fresh⟩
  else
    (run 125 [.int (a0_1.length:Int)]).bind fun r1 =>
    nilV r1.outs (consV r1.vals fun v1 vs1 =>
    nilV vs1 (bif ltI a1_1 v1.toInt then
    bif boundsOk 0 v1.toInt (a0_1.length:Int) (a0_1.length:Int)&&true then
    (run 102 [.slice (List.drop 0 (List.take (Int.toNat v1.toInt) a0_1)),.int a1_1]).bind fun r2 =>
    bif r2.fresh then
    nilV r2.outs (consV r2.vals fun v2 vs2 =>
    nilV vs2 (bif boundsOk v1.toInt (a0_1.length:Int) (a0_1.length:Int) (a0_1.length:Int)&&true then
    (run 126 [.slice (List.drop (Int.toNat v1.toInt) (List.take (Int.toNat (a0_1.length:Int)) a0_1))]).bind fun r3 =>
    nilV r3.outs (consV r3.vals fun v3 vs3 =>
    nilV vs3 (bif Nat.ble ((v2.toSlice.length+1)*32) 140737488355328 then
    some ⟨[.slice (v2.toSlice++[.blob v3.toBlob])],[],f102_fresh⟩
  else none))
  else none))
  else none
  else none
  else
    bif boundsOk v1.toInt (a0_1.length:Int) (a0_1.length:Int) (a0_1.length:Int)&&true then
    (run 102 [.slice (List.drop (Int.toNat v1.toInt) (List.take (Int.toNat (a0_1.length:Int)) a0_1)),.int (IntKind.wrap .i64 (a1_1-v1.toInt))]).bind fun r4 =>
    bif r4.fresh then
    nilV r4.outs (consV r4.vals fun v4 vs4 =>
    nilV vs4 (bif boundsOk 0 v1.toInt (a0_1.length:Int) (a0_1.length:Int)&&true then
    (run 126 [.slice (List.drop 0 (List.take (Int.toNat v1.toInt) a0_1))]).bind fun r5 =>
    nilV r5.outs (consV r5.vals fun v5 vs5 =>
    nilV vs5 (bif Nat.ble ((v4.toSlice.length+1)*32) 140737488355328 then
    some ⟨[.slice (v4.toSlice++[.blob v5.toBlob])],[],f102_fresh⟩
  else none))
  else none))
  else none
  else none)):=by kernel_rfl
theorem f102_run (ext:Run) (n:Nat) (a0_1:List AV) (a1_1:Int):runE G ext (n+1) 102 [.slice a0_1,.int a1_1]=f102 (runE G ext n) n a0_1 a1_1:=runE_succ f102_at f102_in
noncomputable def f71 (run:Run) (n:Nat) (a0_1:List AV) (a1_1:Int):Option Res:=evalK G run n f71_info.keep 0 f71_info.body (retE G f71_info) (f71_info.start [.slice a0_1,.int a1_1])
theorem f71_eq (run:Run) (n:Nat) (a0_1:List AV) (a1_1:Int):f71 run n a0_1 a1_1 =
  bif ltI 1048576 (a0_1.length:Int) then
    some ⟨[.agg [.int 0,.int 0,.slice []],.int 4],[],f71_fresh⟩
  else
    bif ltI a1_1 0 then
    some ⟨[.agg [.int 0,.int 0,.slice []],.int 3],[],f71_fresh⟩
  else
    bif leI (a0_1.length:Int) a1_1 then
    some ⟨[.agg [.int 0,.int 0,.slice []],.int 3],[],f71_fresh⟩
  else
    (run 103 [.slice a0_1]).bind fun r1 =>
    bif r1.fresh then
    nilV r1.outs (consV r1.vals fun v1 vs1 =>
    nilV vs1 ((run 102 [.slice v1.toSlice,.int a1_1]).bind fun r2 =>
    bif r2.fresh then
    nilV r2.outs (consV r2.vals fun v2 vs2 =>
    nilV vs2 (some ⟨[.agg [.int a1_1,.int (a0_1.length:Int),.slice v2.toSlice],.int 0],[],f71_fresh⟩))
  else none))
  else none:=by kernel_rfl
theorem f71_run (ext:Run) (n:Nat) (a0_1:List AV) (a1_1:Int):runE G ext (n+1) 71 [.slice a0_1,.int a1_1]=f71 (runE G ext n) n a0_1 a1_1:=runE_succ f71_at f71_in
noncomputable def f38 (run:Run) (n:Nat) (a0_1:List AV) (a1_1:Int):Option Res:=evalK G run n f38_info.keep 0 f38_info.body (retE G f38_info) (f38_info.start [.slice a0_1,.int a1_1])
theorem f38_eq (run:Run) (n:Nat) (a0_1:List AV) (a1_1:Int):f38 run n a0_1 a1_1 =
  (run 70 [.slice a0_1]).bind fun r1 =>
    nilV r1.outs (consV r1.vals fun v1 vs1 =>
    nilV vs1 (bif !(eqI v1.toInt 0) then
    some ⟨[.agg [.int 0,.int 0,.slice []],.int v1.toInt],[],f38_fresh⟩
  else
    (run 72 [.slice a0_1]).bind fun r2 =>
    bif r2.fresh then
    nilV r2.outs (consV r2.vals fun v2 vs2 =>
    nilV vs2 ((run 71 [.slice v2.toSlice,.int a1_1]).bind fun r3 =>
    nilV r3.outs (consV r3.vals fun v3 vs3 =>
    consV vs3 fun v4 vs4 =>
    nilV vs4 (some ⟨[.agg [.int ((v3.fld 0).toInt),.int ((v3.fld 1).toInt),.slice ((v3.fld 2).toSlice)],.int v4.toInt],[],f38_fresh⟩))))
  else none)):=by kernel_rfl
theorem f38_run (ext:Run) (n:Nat) (a0_1:List AV) (a1_1:Int):runE G ext (n+1) 38 [.slice a0_1,.int a1_1]=f38 (runE G ext n) n a0_1 a1_1:=runE_succ f38_at f38_in
noncomputable def f26_l0 (run:Run) (n k0:Nat) (x5_1 x9_1:List AV) (x10_1 x11_1:Int) (o2_1:List UInt8):Option Res :=
  iterK (evalK G run n f26_keep 0 (sub [1,1,0,1,0,0] f26_body)) f26_t0 f26_o0 (blockK 0 (seqK (evalK G run n f26_keep 0 (sub [1,1,1] f26_body) (retE G f26_info)) (retE G f26_info))) k0
    ⟨[qa,qa,.ptr ⟨(.blob 32),2,1,[]⟩,qa,qa,.val (.slice (.int .i64)) (some (5,0)) (.slice x5_1),qa,qa,qa,.val (.slice (.struct [(.struct [(.int .u32),(.blob 32),(.blob 32),(.int .u64)]),(.slice .str)])) none (.slice x9_1),.val (.int .i64) none (.int x10_1),.val (.int .i64) none (.int x11_1),qa,qa,qa,qa,qa,qa,qa,qa,qa,qa,qa,qa,qa,qa,qa,.any],[qz,qz,⟨1,some ⟨(.blob 32),.blob o2_1⟩⟩,qz,qz,qz,qz,qz,qz,qz,qz,qz,qz,qz,qz,qz,qz,qz,qz,qz,qz,qz,qz,qz,qz,qz,qz,qz],List.replicate 28 0⟩
theorem f26_l0_eq (run:Run) (n k0:Nat) (x5_1 x9_1:List AV) (x10_1 x11_1:Int) (o2_1:List UInt8):f26_l0 run n (k0+1) x5_1 x9_1 x10_1 x11_1 o2_1 =
  bif ltI x11_1 x10_1 then
    bif inR x11_1 x9_1.length then
    (run 54 [.agg [.agg [.int ((((nth x9_1 (Int.toNat x11_1)).fld 0).fld 0).toInt),.blob ((((nth x9_1 (Int.toNat x11_1)).fld 0).fld 1).toBlob),.blob ((((nth x9_1 (Int.toNat x11_1)).fld 0).fld 2).toBlob),.int ((((nth x9_1 (Int.toNat x11_1)).fld 0).fld 3).toInt)],.slice (((nth x9_1 (Int.toNat x11_1)).fld 1).toSlice)]]).bind fun r1 =>
    nilV r1.outs (consV r1.vals fun v1 vs1 =>
    nilV vs1 ((run 53 [.blob v1.toBlob,.blob o2_1]).bind fun r2 =>
    nilV r2.outs (consV r2.vals fun v2 vs2 =>
    nilV vs2 (bif eqI x11_1 0 then
    bif Nat.ble ((x5_1.length+1)*8) 140737488355328 then
    f26_l0 run n k0 (x5_1++[.int 256]) x9_1 x10_1 (IntKind.wrap .i64 (x11_1+1)) o2_1
  else none
  else
    bif Nat.ble ((x5_1.length+1)*8) 140737488355328 then
    f26_l0 run n k0 (x5_1++[.int v2.toInt]) x9_1 x10_1 (IntKind.wrap .i64 (x11_1+1)) o2_1
  else none))))
  else none
  else
    some ⟨[.slice x5_1],[],f26_fresh⟩:=by kernel_rfl
noncomputable def f26 (run:Run) (n:Nat) (a0_1:List UInt8) (a1_1:List AV):Option Res:=evalK G run n f26_info.keep 0 f26_info.body (retE G f26_info) (f26_info.start [.blob a0_1,.slice a1_1])
theorem f26_eq (run:Run) (n:Nat) (a0_1:List UInt8) (a1_1:List AV):f26 run n a0_1 a1_1 =
  f26_l0 run n n [] a1_1 (a1_1.length:Int) 0 a0_1:=by kernel_rfl
theorem f26_run (ext:Run) (n:Nat) (a0_1:List UInt8) (a1_1:List AV):runE G ext (n+1) 26 [.blob a0_1,.slice a1_1]=f26 (runE G ext n) n a0_1 a1_1:=runE_succ f26_at f26_in
noncomputable def f50_l0 (run:Run) (n k0:Nat) (x3_1:Int) (x6_1:List AV) (x7_1 x8_1:Int):Option Res :=
  iterK (evalK G run n f50_keep 0 (sub [1,1,0,1,0,0] f50_body)) f50_t0 f50_o0 (blockK 0 (seqK (evalK G run n f50_keep 0 (sub [1,1,1] f50_body) (retE G f50_info)) (retE G f50_info))) k0
    ⟨[qa,qa,qa,.val (.int .i64) none (.int x3_1),qa,qa,.val (.slice (.int .i64)) none (.slice x6_1),.val (.int .i64) none (.int x7_1),.val (.int .i64) none (.int x8_1),qa,qa,qa,qa,qa,qa,qa,qa,qa,qa,qa,.any],[qz,qz,qz,qz,qz,qz,qz,qz,qz,qz,qz,qz,qz,qz,qz,qz,qz,qz,qz,qz,qz],List.replicate 21 0⟩
theorem f50_l0_eq (run:Run) (n k0:Nat) (x3_1:Int) (x6_1:List AV) (x7_1 x8_1:Int):f50_l0 run n (k0+1) x3_1 x6_1 x7_1 x8_1 =
  bif ltI x8_1 x7_1 then
    bif inR x8_1 x6_1.length then
    bif ltI 0 x8_1 then
    f50_l0 run n k0 (mx2 x3_1 ((nth x6_1 (Int.toNat x8_1)).toInt)) x6_1 x7_1 (IntKind.wrap .i64 (x8_1+1))
  else
    f50_l0 run n k0 x3_1 x6_1 x7_1 (IntKind.wrap .i64 (x8_1+1))
  else none
  else
    some ⟨[.int (mn2 x3_1 255)],[],f50_fresh⟩:=by kernel_rfl
noncomputable def f50 (run:Run) (n:Nat) (a0_1:List AV):Option Res:=evalK G run n f50_info.keep 0 f50_info.body (retE G f50_info) (f50_info.start [.slice a0_1])
theorem f50_eq (run:Run) (n:Nat) (a0_1:List AV):f50 run n a0_1 =
  f50_l0 run n n 0 a0_1 (a0_1.length:Int) 0:=by kernel_rfl
theorem f50_run (ext:Run) (n:Nat) (a0_1:List AV):runE G ext (n+1) 50 [.slice a0_1]=f50 (runE G ext n) n a0_1:=runE_succ f50_at f50_in
noncomputable def f186 (run:Run) (n:Nat) (a0_1:Int):Option Res:=evalK G run n f186_info.keep 0 f186_info.body (retE G f186_info) (f186_info.start [.int a0_1])
theorem f186_eq (run:Run) (n:Nat) (a0_1:Int):f186 run n a0_1 =
  some ⟨[.agg [.int a0_1,.int 0,.int 0,.int 0,.int 0]],[],f186_fresh⟩:=by kernel_rfl
theorem f186_run (ext:Run) (n:Nat) (a0_1:Int):runE G ext (n+1) 186 [.int a0_1]=f186 (runE G ext n) n a0_1:=runE_succ f186_at f186_in
noncomputable def f194_l0 (run:Run) (n k0:Nat) (x1_1 x7_1 x11_1:Int) (o2_1 o4_1 o6_1:List AV):Option Res :=
  iterK (evalK G run n f194_keep 0 (sub [1,1,1,0,1,0,0] f194_body)) f194_t0 f194_o0 (blockK 0 (seqK (evalK G run n f194_keep 0 (sub [1,1,1,1] f194_body) (retE G f194_info)) (retE G f194_info))) k0
    ⟨[qa,.val (.int .u64) none (.int x1_1),.ptr ⟨(.arr 5 (.int .u64)),2,1,[]⟩,qa,.ptr ⟨(.arr 5 (.int .u64)),4,1,[]⟩,qa,.ptr ⟨(.arr 5 (.int .u64)),6,1,[]⟩,.val (.int .u64) none (.int x7_1),qa,qa,qa,.val (.int .i64) none (.int x11_1),qa,qa,qa,qa,qa,qa,qa,qa,qa,qa,qa,qa,qa,qa,qa,qa,qa,qa,qa,qa,qa,qa,qa,qa,qa,qa,qa,qa,qa,qa,qa,.any],[qz,qz,⟨1,some ⟨(.arr 5 (.int .u64)),.agg o2_1⟩⟩,qz,⟨1,some ⟨(.arr 5 (.int .u64)),.agg o4_1⟩⟩,qz,⟨1,some ⟨(.arr 5 (.int .u64)),.agg o6_1⟩⟩,qz,qz,qz,qz,qz,qz,qz,qz,qz,qz,qz,qz,qz,qz,qz,qz,qz,qz,qz,qz,qz,qz,qz,qz,qz,qz,qz,qz,qz,qz,qz,qz,qz,qz,qz,qz,qz],List.replicate 44 0⟩
theorem f194_l0_eq (run:Run) (n k0:Nat) (x1_1 x7_1 x11_1:Int) (o2_1 o4_1 o6_1:List AV):f194_l0 run n (k0+1) x1_1 x7_1 x11_1 o2_1 o4_1 o6_1 =
  bif ltI x11_1 5 then
    bif inR x11_1 5 then
    bif inR x11_1 5 then
    bif inR x11_1 5 then
    f194_l0 run n k0 x1_1 (Int.fdiv (IntKind.wrap .u64 (IntKind.wrap .u64 (Int.fdiv ((AV.fld (.agg o2_1) (Int.toNat x11_1)).toInt) (2^32)*x1_1)+Int.fdiv (IntKind.wrap .u64 (IntKind.wrap .u64 (IntKind.wrap .u64 (BitVec.toNat (BitVec.ofInt 64 ((AV.fld (.agg o2_1) (Int.toNat x11_1)).toInt) &&& BitVec.ofInt 64 4294967295))*x1_1)+x7_1)) (2^32))) (2^32)) (IntKind.wrap .i64 (x11_1+1)) o2_1 o4_1 (o6_1.set (Int.toNat x11_1) (.int (IntKind.wrap .u64 (BitVec.toNat (BitVec.ofInt 64 (IntKind.wrap .u64 (IntKind.wrap .u64 (IntKind.wrap .u64 (Int.fdiv ((AV.fld (.agg o2_1) (Int.toNat x11_1)).toInt) (2^32)*x1_1)+Int.fdiv (IntKind.wrap .u64 (IntKind.wrap .u64 (IntKind.wrap .u64 (BitVec.toNat (BitVec.ofInt 64 ((AV.fld (.agg o2_1) (Int.toNat x11_1)).toInt) &&& BitVec.ofInt 64 4294967295))*x1_1)+x7_1)) (2^32))*2^32)) ||| BitVec.ofInt 64 (IntKind.wrap .u64 (BitVec.toNat (BitVec.ofInt 64 (IntKind.wrap .u64 (IntKind.wrap .u64 (IntKind.wrap .u64 (BitVec.toNat (BitVec.ofInt 64 ((AV.fld (.agg o2_1) (Int.toNat x11_1)).toInt) &&& BitVec.ofInt 64 4294967295))*x1_1)+x7_1)) &&& BitVec.ofInt 64 4294967295))))))))
  else none
  else none
  else none
  else
    some ⟨[.agg o6_1,.bool (eqI x7_1 0)],[],f194_fresh⟩:=by kernel_rfl
noncomputable def f194 (run:Run) (n:Nat) (a0_1:List AV) (a1_1:Int):Option Res:=evalK G run n f194_info.keep 0 f194_info.body (retE G f194_info) (f194_info.start [.agg a0_1,.int a1_1])
theorem f194_eq (run:Run) (n:Nat) (a0_1:List AV) (a1_1:Int):f194 run n a0_1 a1_1 =
  f194_l0 run n n a1_1 0 0 a0_1 (List.replicate 5 (.int 0)) (List.replicate 5 (.int 0)):=by kernel_rfl
theorem f194_run (ext:Run) (n:Nat) (a0_1:List AV) (a1_1:Int):runE G ext (n+1) 194 [.agg a0_1,.int a1_1]=f194 (runE G ext n) n a0_1 a1_1:=runE_succ f194_at f194_in
noncomputable def f202_l0 (run:Run) (n k0:Nat) (x0_1 x3_1 x5_1:Int):Option Res :=
  iterK (evalK G run n f202_keep 0 (sub [1,1,0,1,0,0] f202_body)) f202_t0 f202_o0 (blockK 0 (seqK (evalK G run n f202_keep 0 (sub [1,1,1] f202_body) (retE G f202_info)) (retE G f202_info))) k0
    ⟨[.val (.int .u64) none (.int x0_1),qa,qa,.val (.int .i64) none (.int x3_1),qa,.val (.int .i64) none (.int x5_1),qa,qa,qa,qa,qa,qa,qa,qa,qa,qa,qa,.any],[qz,qz,qz,qz,qz,qz,qz,qz,qz,qz,qz,qz,qz,qz,qz,qz,qz,qz],List.replicate 18 0⟩
theorem f202_l0_eq (run:Run) (n k0:Nat) (x0_1 x3_1 x5_1:Int):f202_l0 run n (k0+1) x0_1 x3_1 x5_1 =
  bif ltI x5_1 64 then
    bif leI 0 (IntKind.wrap .u64 (IntKind.wrap .i64 (63-x5_1))) then
    bif !(eqI (Int.fdiv x0_1 (2^(min (Int.toNat (IntKind.wrap .u64 (IntKind.wrap .i64 (63-x5_1)))) 64))) 0) then
    some ⟨[.int x3_1],[],f202_fresh⟩
  else
    f202_l0 run n k0 x0_1 (IntKind.wrap .i64 (x3_1+1)) (IntKind.wrap .i64 (x5_1+1))
  else none
  else
    some ⟨[.int x3_1],[],f202_fresh⟩:=by kernel_rfl
noncomputable def f202 (run:Run) (n:Nat) (a0_1:Int):Option Res:=evalK G run n f202_info.keep 0 f202_info.body (retE G f202_info) (f202_info.start [.int a0_1])
theorem f202_eq (run:Run) (n:Nat) (a0_1:Int):f202 run n a0_1 =
  f202_l0 run n n a0_1 0 0:=by kernel_rfl
theorem f202_run (ext:Run) (n:Nat) (a0_1:Int):runE G ext (n+1) 202 [.int a0_1]=f202 (runE G ext n) n a0_1:=runE_succ f202_at f202_in
noncomputable def f196_l0 (run:Run) (n k0:Nat) (x5_1:Int) (o1_1:List AV):Option Res :=
  iterK (evalK G run n f196_keep 0 (sub [1,0,1,0,0] f196_body)) f196_t0 f196_o0 (blockK 0 (seqK (evalK G run n f196_keep 0 (sub [1,1] f196_body) (retE G f196_info)) (retE G f196_info))) k0
    ⟨[qa,.ptr ⟨(.arr 5 (.int .u64)),1,1,[]⟩,qa,qa,qa,.val (.int .i64) none (.int x5_1),qa,qa,qa,qa,qa,qa,qa,qa,qa,qa,qa,qa,qa,qa,.any],[qz,⟨1,some ⟨(.arr 5 (.int .u64)),.agg o1_1⟩⟩,qz,qz,qz,qz,qz,qz,qz,qz,qz,qz,qz,qz,qz,qz,qz,qz,qz,qz,qz],List.replicate 21 0⟩
theorem f196_l0_eq (run:Run) (n k0:Nat) (x5_1:Int) (o1_1:List AV):f196_l0 run n (k0+1) x5_1 o1_1 =
  bif ltI x5_1 5 then
    bif inR (IntKind.wrap .i64 (4-x5_1)) 5 then
    bif !(eqI ((AV.fld (.agg o1_1) (Int.toNat (IntKind.wrap .i64 (4-x5_1)))).toInt) 0) then
    (run 202 [.int ((AV.fld (.agg o1_1) (Int.toNat (IntKind.wrap .i64 (4-x5_1)))).toInt)]).bind fun r1 =>
    nilV r1.outs (consV r1.vals fun v1 vs1 =>
    nilV vs1 (some ⟨[.int (IntKind.wrap .i64 (IntKind.wrap .i64 (320-IntKind.wrap .i64 (64*x5_1))-v1.toInt))],[],f196_fresh⟩))
  else
    f196_l0 run n k0 (IntKind.wrap .i64 (x5_1+1)) o1_1
  else none
  else
    some ⟨[.int 0],[],f196_fresh⟩:=by kernel_rfl
noncomputable def f196 (run:Run) (n:Nat) (a0_1:List AV):Option Res:=evalK G run n f196_info.keep 0 f196_info.body (retE G f196_info) (f196_info.start [.agg a0_1])
theorem f196_eq (run:Run) (n:Nat) (a0_1:List AV):f196 run n a0_1 =
  f196_l0 run n n 0 a0_1:=by kernel_rfl
theorem f196_run (ext:Run) (n:Nat) (a0_1:List AV):runE G ext (n+1) 196 [.agg a0_1]=f196 (runE G ext n) n a0_1:=runE_succ f196_at f196_in
noncomputable def f187_l0 (run:Run) (n k0:Nat) (x7_1 x8_1 x9_1:Int) (o2_1 o4_1 o6_1:List AV):Option Res :=
  iterK (evalK G run n f187_keep 0 (sub [1,1,1,1,1,0,1,0,0] f187_body)) f187_t0 f187_o0 (blockK 0 (seqK (evalK G run n f187_keep 0 (sub [1,1,1,1,1,1] f187_body) (retE G f187_info)) (retE G f187_info))) k0
    ⟨[qa,qa,.ptr ⟨(.arr 5 (.int .u64)),2,1,[]⟩,qa,.ptr ⟨(.arr 5 (.int .u64)),4,1,[]⟩,qa,.ptr ⟨(.arr 5 (.int .u64)),6,1,[]⟩,.val (.int .i64) none (.int x7_1),.val (.int .u64) none (.int x8_1),.val (.int .i64) none (.int x9_1),qa,qa,qa,qa,qa,qa,qa,qa,qa,qa,qa,qa,qa,qa,qa,qa,qa,qa,qa,qa,qa,qa,qa,qa,qa,qa,qa,qa,qa,qa,qa,qa,qa,qa,qa,qa,qa,qa,qa,qa,qa,qa,qa,qa,qa,qa,qa,qa,qa,qa,qa,qa,qa,qa,qa,qa,qa,qa,qa,.any],[qz,qz,⟨1,some ⟨(.arr 5 (.int .u64)),.agg o2_1⟩⟩,qz,⟨1,some ⟨(.arr 5 (.int .u64)),.agg o4_1⟩⟩,qz,⟨1,some ⟨(.arr 5 (.int .u64)),.agg o6_1⟩⟩,qz,qz,qz,qz,qz,qz,qz,qz,qz,qz,qz,qz,qz,qz,qz,qz,qz,qz,qz,qz,qz,qz,qz,qz,qz,qz,qz,qz,qz,qz,qz,qz,qz,qz,qz,qz,qz,qz,qz,qz,qz,qz,qz,qz,qz,qz,qz,qz,qz,qz,qz,qz,qz,qz,qz,qz,qz,qz,qz,qz,qz,qz,qz],List.replicate 70 0⟩
theorem f187_l0_eq (run:Run) (n k0:Nat) (x7_1 x8_1 x9_1:Int) (o2_1 o4_1 o6_1:List AV):f187_l0 run n (k0+1) x7_1 x8_1 x9_1 o2_1 o4_1 o6_1 =
  bif ltI x9_1 5 then
    bif inR (IntKind.wrap .i64 (x9_1-x7_1)) 5 then
    bif leI 0 x8_1 then
    bif inR x9_1 5 then
    bif ltI 0 x8_1 then
    bif ltI x7_1 x9_1 then
    bif inR x9_1 5 then
    bif inR (IntKind.wrap .i64 (IntKind.wrap .i64 (x9_1-x7_1)-1)) 5 then
    bif leI 0 (IntKind.wrap .u64 (64-x8_1)) then
    bif inR x9_1 5 then
    f187_l0 run n k0 x7_1 x8_1 (IntKind.wrap .i64 (x9_1+1)) o2_1 o4_1 ((o6_1.set (Int.toNat x9_1) (.int (IntKind.wrap .u64 ((AV.fld (.agg o2_1) (Int.toNat (IntKind.wrap .i64 (x9_1-x7_1)))).toInt*2^(min (Int.toNat x8_1) 64))))).set (Int.toNat x9_1) (.int (IntKind.wrap .u64 (BitVec.toNat (BitVec.ofInt 64 ((AV.fld (.agg (o6_1.set (Int.toNat x9_1) (.int (IntKind.wrap .u64 ((AV.fld (.agg o2_1) (Int.toNat (IntKind.wrap .i64 (x9_1-x7_1)))).toInt*2^(min (Int.toNat x8_1) 64)))))) (Int.toNat x9_1)).toInt) ||| BitVec.ofInt 64 (Int.fdiv ((AV.fld (.agg o2_1) (Int.toNat (IntKind.wrap .i64 (IntKind.wrap .i64 (x9_1-x7_1)-1)))).toInt) (2^(min (Int.toNat (IntKind.wrap .u64 (64-x8_1))) 64))))))))
  else none
  else none
  else none
  else none
  else
    f187_l0 run n k0 x7_1 x8_1 (IntKind.wrap .i64 (x9_1+1)) o2_1 o4_1 (o6_1.set (Int.toNat x9_1) (.int (IntKind.wrap .u64 ((AV.fld (.agg o2_1) (Int.toNat (IntKind.wrap .i64 (x9_1-x7_1)))).toInt*2^(min (Int.toNat x8_1) 64)))))
  else
    f187_l0 run n k0 x7_1 x8_1 (IntKind.wrap .i64 (x9_1+1)) o2_1 o4_1 (o6_1.set (Int.toNat x9_1) (.int (IntKind.wrap .u64 ((AV.fld (.agg o2_1) (Int.toNat (IntKind.wrap .i64 (x9_1-x7_1)))).toInt*2^(min (Int.toNat x8_1) 64)))))
  else none
  else none
  else none
  else
    some ⟨[.agg o6_1,.bool true],[],f187_fresh⟩:=by kernel_rfl
noncomputable def f187 (run:Run) (n:Nat) (a0_1:List AV) (a1_1:Int):Option Res:=evalK G run n f187_info.keep 0 f187_info.body (retE G f187_info) (f187_info.start [.agg a0_1,.int a1_1])
theorem f187_eq (run:Run) (n:Nat) (a0_1:List AV) (a1_1:Int):f187 run n a0_1 a1_1 =
  bif ltI a1_1 0 then
    some ⟨[.agg [.int 0,.int 0,.int 0,.int 0,.int 0],.bool false],[],f187_fresh⟩
  else
    (run 196 [.agg a0_1]).bind fun r1 =>
    nilV r1.outs (consV r1.vals fun v1 vs1 =>
    nilV vs1 (bif ltI 0 v1.toInt then
    (run 196 [.agg a0_1]).bind fun r2 =>
    nilV r2.outs (consV r2.vals fun v2 vs2 =>
    nilV vs2 (bif ltI (IntKind.wrap .i64 (320-v2.toInt)) a1_1 then
    some ⟨[.agg [.int 0,.int 0,.int 0,.int 0,.int 0],.bool false],[],f187_fresh⟩
  else
    (run 196 [.agg a0_1]).bind fun r3 =>
    nilV r3.outs (consV r3.vals fun v3 vs3 =>
    nilV vs3 (bif eqI v3.toInt 0 then
    some ⟨[.agg [.int 0,.int 0,.int 0,.int 0,.int 0],.bool true],[],f187_fresh⟩
  else
    f187_l0 run n n (IntKind.wrap .i64 (Int.tdiv a1_1 64)) (IntKind.wrap .u64 (Int.tmod a1_1 64)) (IntKind.wrap .i64 (Int.tdiv a1_1 64)) a0_1 (List.replicate 5 (.int 0)) (List.replicate 5 (.int 0))))))
  else
    (run 196 [.agg a0_1]).bind fun r4 =>
    nilV r4.outs (consV r4.vals fun v4 vs4 =>
    nilV vs4 (bif eqI v4.toInt 0 then
    some ⟨[.agg [.int 0,.int 0,.int 0,.int 0,.int 0],.bool true],[],f187_fresh⟩
  else
    f187_l0 run n n (IntKind.wrap .i64 (Int.tdiv a1_1 64)) (IntKind.wrap .u64 (Int.tmod a1_1 64)) (IntKind.wrap .i64 (Int.tdiv a1_1 64)) a0_1 (List.replicate 5 (.int 0)) (List.replicate 5 (.int 0)))))):=by kernel_rfl
theorem f187_run (ext:Run) (n:Nat) (a0_1:List AV) (a1_1:Int):runE G ext (n+1) 187 [.agg a0_1,.int a1_1]=f187 (runE G ext n) n a0_1 a1_1:=runE_succ f187_at f187_in
noncomputable def f195_l0 (run:Run) (n k0:Nat) (x7_1 x11_1:Int) (o2_1 o3_1:List AV) (o4_1 o6_1:List AV):Option Res :=
  iterK (evalK G run n f195_keep 0 (sub [1,1,1,0,1,0,0] f195_body)) f195_t0 f195_o0 (blockK 0 (seqK (evalK G run n f195_keep 0 (sub [1,1,1,1] f195_body) (retE G f195_info)) (retE G f195_info))) k0
    ⟨[qa,qa,.ptr ⟨(.arr 5 (.int .u64)),2,1,[]⟩,.ptr ⟨(.arr 5 (.int .u64)),3,1,[]⟩,.ptr ⟨(.arr 5 (.int .u64)),4,1,[]⟩,qa,.ptr ⟨(.arr 5 (.int .u64)),6,1,[]⟩,.val (.int .u64) none (.int x7_1),qa,qa,qa,.val (.int .i64) none (.int x11_1),qa,qa,qa,qa,qa,qa,qa,qa,qa,qa,qa,qa,qa,qa,qa,qa,qa,qa,qa,qa,qa,qa,qa,qa,qa,qa,qa,qa,qa,qa,qa,qa,qa,qa,qa,qa,qa,qa,.any],[qz,qz,⟨1,some ⟨(.arr 5 (.int .u64)),.agg o2_1⟩⟩,⟨1,some ⟨(.arr 5 (.int .u64)),.agg o3_1⟩⟩,⟨1,some ⟨(.arr 5 (.int .u64)),.agg o4_1⟩⟩,qz,⟨1,some ⟨(.arr 5 (.int .u64)),.agg o6_1⟩⟩,qz,qz,qz,qz,qz,qz,qz,qz,qz,qz,qz,qz,qz,qz,qz,qz,qz,qz,qz,qz,qz,qz,qz,qz,qz,qz,qz,qz,qz,qz,qz,qz,qz,qz,qz,qz,qz,qz,qz,qz,qz,qz,qz,qz],List.replicate 51 0⟩
theorem f195_l0_eq (run:Run) (n k0:Nat) (x7_1 x11_1:Int) (o2_1 o3_1:List AV) (o4_1 o6_1:List AV):f195_l0 run n (k0+1) x7_1 x11_1 o2_1 o3_1 o4_1 o6_1 =
  bif ltI x11_1 5 then
    bif inR x11_1 5 then
    bif inR x11_1 5 then
    bif inR x11_1 5 then
    bif inR x11_1 5 then
    bif inR x11_1 5 then
    f195_l0 run n k0 (Int.fdiv (IntKind.wrap .u64 (IntKind.wrap .u64 (Int.fdiv ((AV.fld (.agg o2_1) (Int.toNat x11_1)).toInt) (2^32)+Int.fdiv ((AV.fld (.agg o3_1) (Int.toNat x11_1)).toInt) (2^32))+Int.fdiv (IntKind.wrap .u64 (IntKind.wrap .u64 (IntKind.wrap .u64 (BitVec.toNat (BitVec.ofInt 64 ((AV.fld (.agg o2_1) (Int.toNat x11_1)).toInt) &&& BitVec.ofInt 64 4294967295))+IntKind.wrap .u64 (BitVec.toNat (BitVec.ofInt 64 ((AV.fld (.agg o3_1) (Int.toNat x11_1)).toInt) &&& BitVec.ofInt 64 4294967295)))+x7_1)) (2^32))) (2^32)) (IntKind.wrap .i64 (x11_1+1)) o2_1 o3_1 o4_1 (o6_1.set (Int.toNat x11_1) (.int (IntKind.wrap .u64 (BitVec.toNat (BitVec.ofInt 64 (IntKind.wrap .u64 (IntKind.wrap .u64 (IntKind.wrap .u64 (Int.fdiv ((AV.fld (.agg o2_1) (Int.toNat x11_1)).toInt) (2^32)+Int.fdiv ((AV.fld (.agg o3_1) (Int.toNat x11_1)).toInt) (2^32))+Int.fdiv (IntKind.wrap .u64 (IntKind.wrap .u64 (IntKind.wrap .u64 (BitVec.toNat (BitVec.ofInt 64 ((AV.fld (.agg o2_1) (Int.toNat x11_1)).toInt) &&& BitVec.ofInt 64 4294967295))+IntKind.wrap .u64 (BitVec.toNat (BitVec.ofInt 64 ((AV.fld (.agg o3_1) (Int.toNat x11_1)).toInt) &&& BitVec.ofInt 64 4294967295)))+x7_1)) (2^32))*2^32)) ||| BitVec.ofInt 64 (IntKind.wrap .u64 (BitVec.toNat (BitVec.ofInt 64 (IntKind.wrap .u64 (IntKind.wrap .u64 (IntKind.wrap .u64 (BitVec.toNat (BitVec.ofInt 64 ((AV.fld (.agg o2_1) (Int.toNat x11_1)).toInt) &&& BitVec.ofInt 64 4294967295))+IntKind.wrap .u64 (BitVec.toNat (BitVec.ofInt 64 ((AV.fld (.agg o3_1) (Int.toNat x11_1)).toInt) &&& BitVec.ofInt 64 4294967295)))+x7_1)) &&& BitVec.ofInt 64 4294967295))))))))
  else none
  else none
  else none
  else none
  else none
  else
    bif !(eqI x7_1 0) then
    some ⟨[.agg [.int 0,.int 0,.int 0,.int 0,.int 0],.bool false],[],f195_fresh⟩
  else
    some ⟨[.agg o6_1,.bool true],[],f195_fresh⟩:=by kernel_rfl
noncomputable def f195 (run:Run) (n:Nat) (a0_1 a1_1:List AV):Option Res:=evalK G run n f195_info.keep 0 f195_info.body (retE G f195_info) (f195_info.start [.agg a0_1,.agg a1_1])
theorem f195_eq (run:Run) (n:Nat) (a0_1 a1_1:List AV):f195 run n a0_1 a1_1 =
  f195_l0 run n n 0 0 a0_1 a1_1 (List.replicate 5 (.int 0)) (List.replicate 5 (.int 0)):=by kernel_rfl
theorem f195_run (ext:Run) (n:Nat) (a0_1 a1_1:List AV):runE G ext (n+1) 195 [.agg a0_1,.agg a1_1]=f195 (runE G ext n) n a0_1 a1_1:=runE_succ f195_at f195_in
noncomputable def f185 (run:Run) (n:Nat) (a0_1:List AV) (a1_1:Int):Option Res:=evalK G run n f185_info.keep 0 f185_info.body (retE G f185_info) (f185_info.start [.agg a0_1,.int a1_1])
theorem f185_eq (run:Run) (n:Nat) (a0_1:List AV) (a1_1:Int):f185 run n a0_1 a1_1 =
  (run 194 [.agg a0_1,.int (IntKind.wrap .u64 (BitVec.toNat (BitVec.ofInt 64 a1_1 &&& BitVec.ofInt 64 4294967295)))]).bind fun r1 =>
    nilV r1.outs (consV r1.vals fun v1 vs1 =>
    consV vs1 fun v2 vs2 =>
    nilV vs2 (bif !v2.toBool then
    some ⟨[.agg [.int 0,.int 0,.int 0,.int 0,.int 0],.bool false],[],f185_fresh⟩
  else
    (run 194 [.agg a0_1,.int (Int.fdiv a1_1 (2^32))]).bind fun r2 =>
    nilV r2.outs (consV r2.vals fun v3 vs3 =>
    consV vs3 fun v4 vs4 =>
    nilV vs4 (bif !v4.toBool then
    some ⟨[.agg [.int 0,.int 0,.int 0,.int 0,.int 0],.bool false],[],f185_fresh⟩
  else
    (run 187 [.agg v3.toAgg,.int 32]).bind fun r3 =>
    nilV r3.outs (consV r3.vals fun v5 vs5 =>
    consV vs5 fun v6 vs6 =>
    nilV vs6 (bif !v6.toBool then
    some ⟨[.agg [.int 0,.int 0,.int 0,.int 0,.int 0],.bool false],[],f185_fresh⟩
  else
    (run 195 [.agg v1.toAgg,.agg v5.toAgg]).bind fun r4 =>
    nilV r4.outs (consV r4.vals fun v7 vs7 =>
    consV vs7 fun v8 vs8 =>
    nilV vs8 (some ⟨[.agg v7.toAgg,.bool v8.toBool],[],f185_fresh⟩)))))))):=by kernel_rfl
theorem f185_run (ext:Run) (n:Nat) (a0_1:List AV) (a1_1:Int):runE G ext (n+1) 185 [.agg a0_1,.int a1_1]=f185 (runE G ext n) n a0_1 a1_1:=runE_succ f185_at f185_in
noncomputable def f176 (run:Run) (n:Nat) (a0_1 a1_1 a2_1:Int):Option Res:=evalK G run n f176_info.keep 0 f176_info.body (retE G f176_info) (f176_info.start [.int a0_1,.int a1_1,.int a2_1])
theorem f176_eq (run:Run) (n:Nat) (a0_1 a1_1 a2_1:Int):f176 run n a0_1 a1_1 a2_1 =
  (run 186 [.int (IntKind.wrap .u64 a0_1)]).bind fun r1 =>
    nilV r1.outs (consV r1.vals fun v1 vs1 =>
    nilV vs1 ((run 185 [.agg v1.toAgg,.int (IntKind.wrap .u64 a1_1)]).bind fun r2 =>
    nilV r2.outs (consV r2.vals fun v2 vs2 =>
    consV vs2 fun _v3 vs3 =>
    nilV vs3 (bif ltI a2_1 0 then
    some ⟨[.agg [.int 0,.int 0,.int 0,.int 0,.int 0],.bool false],[],f176_fresh⟩
  else
    bif ltI 255 a2_1 then
    some ⟨[.agg [.int 0,.int 0,.int 0,.int 0,.int 0],.bool false],[],f176_fresh⟩
  else
    (run 187 [.agg v2.toAgg,.int a2_1]).bind fun r3 =>
    nilV r3.outs (consV r3.vals fun v4 vs4 =>
    consV vs4 fun v5 vs5 =>
    nilV vs5 (some ⟨[.agg v4.toAgg,.bool v5.toBool],[],f176_fresh⟩)))))):=by kernel_rfl
theorem f176_run (ext:Run) (n:Nat) (a0_1 a1_1 a2_1:Int):runE G ext (n+1) 176 [.int a0_1,.int a1_1,.int a2_1]=f176 (runE G ext n) n a0_1 a1_1 a2_1:=runE_succ f176_at f176_in
noncomputable def f167 (run:Run) (n:Nat) (a0_1 a1_1:Int) (a2_1 a3_1 a4_1:Int):Option Res:=evalK G run n f167_info.keep 0 f167_info.body (retE G f167_info) (f167_info.start [.int a0_1,.int a1_1,.int a2_1,.int a3_1,.int a4_1])
theorem f167_eq (run:Run) (n:Nat) (a0_1 a1_1:Int) (a2_1 a3_1 a4_1:Int):f167 run n a0_1 a1_1 a2_1 a3_1 a4_1 =
  (run 63 [.int a3_1,.int a4_1]).bind fun r1 =>
    nilV r1.outs (consV r1.vals fun v1 vs1 =>
    nilV vs1 (bif !v1.toBool then
    some ⟨[.agg [.int 0,.int 0,.int 0,.int 0,.int 0],.agg [.int 0,.int 0,.int 0,.int 0,.int 0],.bool false],[],f167_fresh⟩
  else
    (run 176 [.int a0_1,.int (IntKind.wrap .u32 a4_1),.int a2_1]).bind fun r2 =>
    nilV r2.outs (consV r2.vals fun v2 vs2 =>
    consV vs2 fun v3 vs3 =>
    nilV vs3 ((run 176 [.int a1_1,.int (IntKind.wrap .u32 (IntKind.wrap .i64 (a4_1-a3_1))),.int 0]).bind fun r3 =>
    nilV r3.outs (consV r3.vals fun v4 vs4 =>
    consV vs4 fun _v5 vs5 =>
    nilV vs5 (some ⟨[.agg v2.toAgg,.agg v4.toAgg,.bool v3.toBool],[],f167_fresh⟩)))))):=by kernel_rfl
theorem f167_run (ext:Run) (n:Nat) (a0_1 a1_1:Int) (a2_1 a3_1 a4_1:Int):runE G ext (n+1) 167 [.int a0_1,.int a1_1,.int a2_1,.int a3_1,.int a4_1]=f167 (runE G ext n) n a0_1 a1_1 a2_1 a3_1 a4_1:=runE_succ f167_at f167_in
noncomputable def f168_l0 (run:Run) (n k0:Nat) (x8_1:Int) (o2_1 o3_1:List AV):Option Res :=
  iterK (evalK G run n f168_keep 0 (sub [1,0,1,0,0] f168_body)) f168_t0 f168_o0 (blockK 0 (seqK (evalK G run n f168_keep 0 (sub [1,1] f168_body) (retE G f168_info)) (retE G f168_info))) k0
    ⟨[qa,qa,.ptr ⟨(.arr 5 (.int .u64)),2,1,[]⟩,.ptr ⟨(.arr 5 (.int .u64)),3,1,[]⟩,qa,qa,qa,qa,.val (.int .i64) none (.int x8_1),qa,qa,qa,qa,qa,qa,qa,qa,qa,qa,qa,qa,qa,qa,qa,qa,.any],[qz,qz,⟨1,some ⟨(.arr 5 (.int .u64)),.agg o2_1⟩⟩,⟨1,some ⟨(.arr 5 (.int .u64)),.agg o3_1⟩⟩,qz,qz,qz,qz,qz,qz,qz,qz,qz,qz,qz,qz,qz,qz,qz,qz,qz,qz,qz,qz,qz,qz],List.replicate 26 0⟩
theorem f168_l0_eq (run:Run) (n k0:Nat) (x8_1:Int) (o2_1 o3_1:List AV):f168_l0 run n (k0+1) x8_1 o2_1 o3_1 =
  bif ltI x8_1 5 then
    bif inR (IntKind.wrap .i64 (4-x8_1)) 5 then
    bif inR (IntKind.wrap .i64 (4-x8_1)) 5 then
    bif !(eqI ((AV.fld (.agg o2_1) (Int.toNat (IntKind.wrap .i64 (4-x8_1)))).toInt) ((AV.fld (.agg o3_1) (Int.toNat (IntKind.wrap .i64 (4-x8_1)))).toInt)) then
    bif ltI ((AV.fld (.agg o2_1) (Int.toNat (IntKind.wrap .i64 (4-x8_1)))).toInt) ((AV.fld (.agg o3_1) (Int.toNat (IntKind.wrap .i64 (4-x8_1)))).toInt) then
    some ⟨[.int (-1)],[],f168_fresh⟩
  else
    some ⟨[.int 1],[],f168_fresh⟩
  else
    f168_l0 run n k0 (IntKind.wrap .i64 (x8_1+1)) o2_1 o3_1
  else none
  else none
  else
    some ⟨[.int 0],[],f168_fresh⟩:=by kernel_rfl
noncomputable def f168 (run:Run) (n:Nat) (a0_1 a1_1:List AV):Option Res:=evalK G run n f168_info.keep 0 f168_info.body (retE G f168_info) (f168_info.start [.agg a0_1,.agg a1_1])
theorem f168_eq (run:Run) (n:Nat) (a0_1 a1_1:List AV):f168 run n a0_1 a1_1 =
  f168_l0 run n n 0 a0_1 a1_1:=by kernel_rfl
theorem f168_run (ext:Run) (n:Nat) (a0_1 a1_1:List AV):runE G ext (n+1) 168 [.agg a0_1,.agg a1_1]=f168 (runE G ext n) n a0_1 a1_1:=runE_succ f168_at f168_in
noncomputable def f152 (run:Run) (n:Nat) (a0_1 a1_1:Int) (a2_1 a3_1 a4_1:Int):Option Res:=evalK G run n f152_info.keep 0 f152_info.body (retE G f152_info) (f152_info.start [.int a0_1,.int a1_1,.int a2_1,.int a3_1,.int a4_1])
theorem f152_eq (run:Run) (n:Nat) (a0_1 a1_1:Int) (a2_1 a3_1 a4_1:Int):f152 run n a0_1 a1_1 a2_1 a3_1 a4_1 =
  (run 167 [.int a0_1,.int a1_1,.int a2_1,.int a3_1,.int a4_1]).bind fun r1 =>
    nilV r1.outs (consV r1.vals fun v1 vs1 =>
    consV vs1 fun v2 vs2 =>
    consV vs2 fun v3 vs3 =>
    nilV vs3 (bif v3.toBool then
    (run 168 [.agg v1.toAgg,.agg v2.toAgg]).bind fun r2 =>
    nilV r2.outs (consV r2.vals fun v4 vs4 =>
    nilV vs4 (some ⟨[.bool (ltI 0 v4.toInt)],[],f152_fresh⟩))
  else
    some ⟨[.bool false],[],f152_fresh⟩)):=by kernel_rfl
theorem f152_run (ext:Run) (n:Nat) (a0_1 a1_1:Int) (a2_1 a3_1 a4_1:Int):runE G ext (n+1) 152 [.int a0_1,.int a1_1,.int a2_1,.int a3_1,.int a4_1]=f152 (runE G ext n) n a0_1 a1_1 a2_1 a3_1 a4_1:=runE_succ f152_at f152_in
noncomputable def f131 (run:Run) (n:Nat) (a0_1 a1_1:Int) (a2_1 a3_1 a4_1:Int):Option Res:=evalK G run n f131_info.keep 0 f131_info.body (retE G f131_info) (f131_info.start [.int a0_1,.int a1_1,.int a2_1,.int a3_1,.int a4_1])
theorem f131_eq (run:Run) (n:Nat) (a0_1 a1_1:Int) (a2_1 a3_1 a4_1:Int):f131 run n a0_1 a1_1 a2_1 a3_1 a4_1 =
  bif leI 0 a0_1 then
    bif leI 0 a1_1 then
    bif leI a0_1 1024 then
    bif leI a1_1 1024 then
    (run 152 [.int (IntKind.wrap .u32 a0_1),.int (IntKind.wrap .u32 a1_1),.int a2_1,.int a3_1,.int a4_1]).bind fun r1 =>
    nilV r1.outs (consV r1.vals fun v1 vs1 =>
    nilV vs1 (some ⟨[.bool v1.toBool],[],f131_fresh⟩))
  else
    some ⟨[.bool false],[],f131_fresh⟩
  else
    some ⟨[.bool false],[],f131_fresh⟩
  else
    some ⟨[.bool false],[],f131_fresh⟩
  else
    some ⟨[.bool false],[],f131_fresh⟩:=by kernel_rfl
theorem f131_run (ext:Run) (n:Nat) (a0_1 a1_1:Int) (a2_1 a3_1 a4_1:Int):runE G ext (n+1) 131 [.int a0_1,.int a1_1,.int a2_1,.int a3_1,.int a4_1]=f131 (runE G ext n) n a0_1 a1_1 a2_1 a3_1 a4_1:=runE_succ f131_at f131_in
noncomputable def f111_l0 (run:Run) (n k0:Nat) (x0_1:List AV) (x1_1 x3_1 x4_1:Int) (x11_1:List AV) (x12_1:Int):Option Res :=
  iterK (evalK G run n f111_keep 0 (sub [1,1,1,0,1,0,0] f111_body)) f111_t0 f111_o0 (blockK 0 (seqK (evalK G run n f111_keep 0 (sub [1,1,1,1] f111_body) (retE G f111_info)) (retE G f111_info))) k0
    ⟨[.val (.slice (.int .i64)) none (.slice x0_1),.val (.int .i64) none (.int x1_1),qa,.val (.int .i64) none (.int x3_1),.val (.int .i64) none (.int x4_1),qa,qa,qa,qa,qa,qa,.val (.slice (.int .i64)) (some (11,0)) (.slice x11_1),.val (.int .i64) none (.int x12_1),qa,qa,qa,qa,qa,qa,qa,qa,qa,qa,qa,qa,qa,qa,qa,qa,qa,qa,qa,qa,qa,qa,qa,qa,qa,qa,qa,qa,qa,.any],[qz,qz,qz,qz,qz,qz,qz,qz,qz,qz,qz,qz,qz,qz,qz,qz,qz,qz,qz,qz,qz,qz,qz,qz,qz,qz,qz,qz,qz,qz,qz,qz,qz,qz,qz,qz,qz,qz,qz,qz,qz,qz,qz],List.replicate 43 0⟩
theorem f111_l0_eq (run:Run) (n k0:Nat) (x0_1:List AV) (x1_1 x3_1 x4_1:Int) (x11_1:List AV) (x12_1:Int):f111_l0 run n (k0+1) x0_1 x1_1 x3_1 x4_1 x11_1 x12_1 =
  bif leI x12_1 (x11_1.length:Int) then
    bif inR (IntKind.wrap .i64 ((x11_1.length:Int)-x12_1)) x11_1.length then
    (run 131 [.int x12_1,.int (IntKind.wrap .i64 ((x0_1.length:Int)-(nth x11_1 (Int.toNat (IntKind.wrap .i64 ((x11_1.length:Int)-x12_1)))).toInt)),.int x1_1,.int x3_1,.int x4_1]).bind fun r2 =>
    nilV r2.outs (consV r2.vals fun v2 vs2 =>
    nilV vs2 (bif !v2.toBool then
    some ⟨[.bool false],[],f111_fresh⟩
  else
    f111_l0 run n k0 x0_1 x1_1 x3_1 x4_1 x11_1 (IntKind.wrap .i64 (x12_1+1))))
  else none
  else
    some ⟨[.bool true],[],f111_fresh⟩:=by kernel_rfl
noncomputable def f111 (run:Run) (n:Nat) (a0_1:List AV) (a1_1 a2_1:Int) (a3_1 a4_1:Int):Option Res:=evalK G run n f111_info.keep 0 f111_info.body (retE G f111_info) (f111_info.start [.slice a0_1,.int a1_1,.int a2_1,.int a3_1,.int a4_1])
theorem f111_eq (run:Run) (n:Nat) (a0_1:List AV) (a1_1 a2_1:Int) (a3_1 a4_1:Int):f111 run n a0_1 a1_1 a2_1 a3_1 a4_1 =
  (run 51 [.slice a0_1,.int 0,.int a1_1]).bind fun r1 =>
    bif r1.fresh then
    nilV r1.outs (consV r1.vals fun v1 vs1 =>
    nilV vs1 (bif ltI 1024 (a0_1.length:Int) then
    some ⟨[.bool false],[],f111_fresh⟩
  else
    f111_l0 run n n a0_1 a1_1 a3_1 a4_1 v1.toSlice (mx2 a2_1 1)))
  else none:=by kernel_rfl
theorem f111_run (ext:Run) (n:Nat) (a0_1:List AV) (a1_1 a2_1:Int) (a3_1 a4_1:Int):runE G ext (n+1) 111 [.slice a0_1,.int a1_1,.int a2_1,.int a3_1,.int a4_1]=f111 (runE G ext n) n a0_1 a1_1 a2_1 a3_1 a4_1:=runE_succ f111_at f111_in
noncomputable def f132_l0 (run:Run) (n k0:Nat) (x1_1:Int) (m1:Nat) (x12_1:List AV) (x13_1 x14_1:Int) (o11_1:List AV):Option Res :=
  iterK (evalK G run n f132_keep 0 (sub [1,1,0,1,0,0] f132_body)) f132_t0 f132_o0 (blockK 0 (seqK (evalK G run n f132_keep 0 (sub [1,1,1] f132_body) (retE G f132_info)) (retE G f132_info))) k0
    ⟨[qa,.val (.int .i64) none (.int x1_1),qa,qa,qa,.ref ⟨(.arr m1 (.int .i64)),11,1,[]⟩ 0 m1,qa,qa,qa,qa,qa,qa,.val (.slice (.int .i64)) none (.slice x12_1),.val (.int .i64) none (.int x13_1),.val (.int .i64) none (.int x14_1),qa,qa,qa,qa,qa,qa,qa,qa,qa,qa,qa,qa,qa,qa,qa,qa,qa,qa,qa,qa,qa,qa,qa,.any],[qz,qz,qz,qz,qz,qz,qz,qz,qz,qz,qz,⟨1,some ⟨(.arr m1 (.int .i64)),.agg o11_1⟩⟩,qz,qz,qz,qz,qz,qz,qz,qz,qz,qz,qz,qz,qz,qz,qz,qz,qz,qz,qz,qz,qz,qz,qz,qz,qz,qz,qz],List.replicate 39 0⟩
theorem f132_l0_eq (run:Run) (n k0:Nat) (x1_1:Int) (m1:Nat) (x12_1:List AV) (x13_1 x14_1:Int) (o11_1:List AV):f132_l0 run n (k0+1) x1_1 m1 x12_1 x13_1 x14_1 o11_1 =
  bif ltI x14_1 x13_1 then
    bif inR x14_1 x12_1.length then
    bif inR x14_1 m1 then
    bif inR (IntKind.wrap .i64 (x14_1+1)) m1 then
    bif leI x1_1 ((nth x12_1 (Int.toNat x14_1)).toInt) then
    bif inR (IntKind.wrap .i64 (x14_1+1)) m1 then
    bif inR (IntKind.wrap .i64 (x14_1+1)) m1 then
    f132_l0 run n k0 x1_1 m1 x12_1 x13_1 (IntKind.wrap .i64 (x14_1+1)) ((o11_1.set (0+(Int.toNat (IntKind.wrap .i64 (x14_1+1)))) (.int ((AV.fld (.agg o11_1) (0+(Int.toNat x14_1))).toInt))).set (0+(Int.toNat (IntKind.wrap .i64 (x14_1+1)))) (.int (IntKind.wrap .i64 ((AV.fld (.agg (o11_1.set (0+(Int.toNat (IntKind.wrap .i64 (x14_1+1)))) (.int ((AV.fld (.agg o11_1) (0+(Int.toNat x14_1))).toInt)))) (0+(Int.toNat (IntKind.wrap .i64 (x14_1+1))))).toInt+1))))
  else none
  else none
  else
    f132_l0 run n k0 x1_1 m1 x12_1 x13_1 (IntKind.wrap .i64 (x14_1+1)) (o11_1.set (0+(Int.toNat (IntKind.wrap .i64 (x14_1+1)))) (.int ((AV.fld (.agg o11_1) (0+(Int.toNat x14_1))).toInt)))
  else none
  else none
  else none
  else
    some ⟨[.slice (List.drop 0 (List.take m1 o11_1))],[],f132_fresh⟩:=by kernel_rfl
noncomputable def f132 (run:Run) (n:Nat) (a0_1:List AV) (a1_1:Int):Option Res:=evalK G run n f132_info.keep 0 f132_info.body (retE G f132_info) (f132_info.start [.slice a0_1,.int a1_1])
theorem f132_eq (run:Run) (n:Nat) (a0_1:List AV) (a1_1:Int):f132 run n a0_1 a1_1 =
  bif eqI (IntKind.wrap .i64 ((a0_1.length:Int)+1)) (IntKind.wrap .i64 ((a0_1.length:Int)+1))&&leI 0 (IntKind.wrap .i64 ((a0_1.length:Int)+1))&&Nat.ble (Int.toNat (IntKind.wrap .i64 ((a0_1.length:Int)+1))*8) 140737488355328 then
    f132_l0 run n n a1_1 (Int.toNat (IntKind.wrap .i64 ((a0_1.length:Int)+1))) a0_1 (a0_1.length:Int) 0 (List.replicate (Int.toNat (IntKind.wrap .i64 ((a0_1.length:Int)+1))) (.int 0))
  else none:=by kernel_rfl
theorem f132_run (ext:Run) (n:Nat) (a0_1:List AV) (a1_1:Int):runE G ext (n+1) 132 [.slice a0_1,.int a1_1]=f132 (runE G ext n) n a0_1 a1_1:=runE_succ f132_at f132_in
noncomputable def f153 (run:Run) (n:Nat) (a0_1 a1_1:Int) (a2_1 a3_1 a4_1:Int):Option Res:=evalK G run n f153_info.keep 0 f153_info.body (retE G f153_info) (f153_info.start [.int a0_1,.int a1_1,.int a2_1,.int a3_1,.int a4_1])
theorem f153_eq (run:Run) (n:Nat) (a0_1 a1_1:Int) (a2_1 a3_1 a4_1:Int):f153 run n a0_1 a1_1 a2_1 a3_1 a4_1 =
  (run 167 [.int a0_1,.int a1_1,.int a2_1,.int a3_1,.int a4_1]).bind fun r1 =>
    nilV r1.outs (consV r1.vals fun v1 vs1 =>
    consV vs1 fun v2 vs2 =>
    consV vs2 fun v3 vs3 =>
    nilV vs3 (bif v3.toBool then
    (run 168 [.agg v1.toAgg,.agg v2.toAgg]).bind fun r2 =>
    nilV r2.outs (consV r2.vals fun v4 vs4 =>
    nilV vs4 (some ⟨[.bool (leI 0 v4.toInt)],[],f153_fresh⟩))
  else
    some ⟨[.bool false],[],f153_fresh⟩)):=by kernel_rfl
theorem f153_run (ext:Run) (n:Nat) (a0_1 a1_1:Int) (a2_1 a3_1 a4_1:Int):runE G ext (n+1) 153 [.int a0_1,.int a1_1,.int a2_1,.int a3_1,.int a4_1]=f153 (runE G ext n) n a0_1 a1_1 a2_1 a3_1 a4_1:=runE_succ f153_at f153_in
noncomputable def f133_l2 (run:Run) (n k0 k2:Nat) (x0_2 x1_2:List AV) (x2_2 x3_2:Int) (x4_2 x5_2:Int) (x13_1 x14_1:Int) (x18_2 x19_2:Int):Option Res :=
  iterK (evalK G run n f133_keep 2 (sub [1,0,1,0,0,1,1,0,0,1,1,0,0] f133_body)) f133_t2 f133_o2 (blockK 2 (blockK 1 (seqK (evalK G run n f133_keep 0 (sub [1,0,1,0,0,1,1,1] f133_body) (seqK (fun t=>iterK (evalK G run n f133_keep 0 (sub [1,0,1,0,0] f133_body)) f133_t0 f133_o0 (blockK 0 (seqK (evalK G run n f133_keep 0 (sub [1,1] f133_body) (retE G f133_info)) (retE G f133_info))) k0 (t.clear f133_t0 f133_o0)) (blockK 0 (seqK (evalK G run n f133_keep 0 (sub [1,1] f133_body) (retE G f133_info)) (retE G f133_info))))) (seqK (fun t=>iterK (evalK G run n f133_keep 0 (sub [1,0,1,0,0] f133_body)) f133_t0 f133_o0 (blockK 0 (seqK (evalK G run n f133_keep 0 (sub [1,1] f133_body) (retE G f133_info)) (retE G f133_info))) k0 (t.clear f133_t0 f133_o0)) (blockK 0 (seqK (evalK G run n f133_keep 0 (sub [1,1] f133_body) (retE G f133_info)) (retE G f133_info))))))) k2
    ⟨[.val (.slice (.int .i64)) none (.slice x0_2),.val (.slice (.int .i64)) none (.slice x1_2),.val (.int .i64) none (.int x2_2),.val (.int .i64) none (.int x3_2),.val (.int .i64) none (.int x4_2),.val (.int .i64) none (.int x5_2),qa,qa,qa,qa,qa,qa,qa,.val (.int .i64) none (.int x13_1),.val (.int .i64) none (.int x14_1),qa,qa,qa,.val (.int .i64) none (.int x18_2),.val (.int .i64) none (.int x19_2),qa,qa,qa,qa,qa,qa,qa,qa,qa,qa,qa,qa,qa,qa,qa,qa,qa,qa,qa,qa,qa,qa,qa,qa,qa,qa,qa,qa,qa,qa,qa,qa,qa,qa,qa,qa,qa,qa,qa,qa,qa,qa,.any],[qz,qz,qz,qz,qz,qz,qz,qz,qz,qz,qz,qz,qz,qz,qz,qz,qz,qz,qz,qz,qz,qz,qz,qz,qz,qz,qz,qz,qz,qz,qz,qz,qz,qz,qz,qz,qz,qz,qz,qz,qz,qz,qz,qz,qz,qz,qz,qz,qz,qz,qz,qz,qz,qz,qz,qz,qz,qz,qz,qz,qz,qz,qz],List.replicate 63 0⟩
noncomputable def f133_l0 (run:Run) (n k0:Nat) (x0_1 x1_1:List AV) (x2_1 x3_1:Int) (x4_1 x5_1:Int) (x18_1 x19_1:Int):Option Res :=
  iterK (evalK G run n f133_keep 0 (sub [1,0,1,0,0] f133_body)) f133_t0 f133_o0 (blockK 0 (seqK (evalK G run n f133_keep 0 (sub [1,1] f133_body) (retE G f133_info)) (retE G f133_info))) k0
    ⟨[.val (.slice (.int .i64)) none (.slice x0_1),.val (.slice (.int .i64)) none (.slice x1_1),.val (.int .i64) none (.int x2_1),.val (.int .i64) none (.int x3_1),.val (.int .i64) none (.int x4_1),.val (.int .i64) none (.int x5_1),qa,qa,qa,qa,qa,qa,qa,qa,qa,qa,qa,qa,.val (.int .i64) none (.int x18_1),.val (.int .i64) none (.int x19_1),qa,qa,qa,qa,qa,qa,qa,qa,qa,qa,qa,qa,qa,qa,qa,qa,qa,qa,qa,qa,qa,qa,qa,qa,qa,qa,qa,qa,qa,qa,qa,qa,qa,qa,qa,qa,qa,qa,qa,qa,qa,qa,.any],[qz,qz,qz,qz,qz,qz,qz,qz,qz,qz,qz,qz,qz,qz,qz,qz,qz,qz,qz,qz,qz,qz,qz,qz,qz,qz,qz,qz,qz,qz,qz,qz,qz,qz,qz,qz,qz,qz,qz,qz,qz,qz,qz,qz,qz,qz,qz,qz,qz,qz,qz,qz,qz,qz,qz,qz,qz,qz,qz,qz,qz,qz,qz],List.replicate 63 0⟩
theorem f133_l2_eq (run:Run) (n k0 k2:Nat) (x0_2 x1_2:List AV) (x2_2 x3_2:Int) (x4_2 x5_2:Int) (x13_1 x14_1:Int) (x18_2 x19_2:Int):f133_l2 run n k0 (k2+1) x0_2 x1_2 x2_2 x3_2 x4_2 x5_2 x13_1 x14_1 x18_2 x19_2 =
  bif ltI x14_1 (x1_2.length:Int) then
    bif inR x14_1 x0_2.length then
    bif inR x13_1 x0_2.length then
    bif inR x14_1 x1_2.length then
    bif inR x13_1 x1_2.length then
    bif leI x3_2 (IntKind.wrap .i64 ((nth x1_2 (Int.toNat x14_1)).toInt-(nth x1_2 (Int.toNat x13_1)).toInt)) then
    (run 153 [.int (IntKind.wrap .u32 (IntKind.wrap .i64 ((nth x0_2 (Int.toNat x14_1)).toInt-(nth x0_2 (Int.toNat x13_1)).toInt))),.int (IntKind.wrap .u32 (IntKind.wrap .i64 ((nth x1_2 (Int.toNat x14_1)).toInt-(nth x1_2 (Int.toNat x13_1)).toInt))),.int x2_2,.int x4_2,.int x5_2]).bind fun r1 =>
    nilV r1.outs (consV r1.vals fun v1 vs1 =>
    nilV vs1 (bif !v1.toBool then
    some ⟨[.bool false],[],f133_fresh⟩
  else
    f133_l2 run n k0 k2 x0_2 x1_2 x2_2 x3_2 x4_2 x5_2 x13_1 (IntKind.wrap .i64 (x14_1+1)) x18_2 x19_2))
  else
    f133_l2 run n k0 k2 x0_2 x1_2 x2_2 x3_2 x4_2 x5_2 x13_1 (IntKind.wrap .i64 (x14_1+1)) x18_2 x19_2
  else none
  else none
  else none
  else none
  else
    f133_l0 run n k0 x0_2 x1_2 x2_2 x3_2 x4_2 x5_2 x18_2 (IntKind.wrap .i64 (x19_2+1)):=by kernel_rfl
theorem f133_l0_eq (run:Run) (n k0:Nat) (x0_1 x1_1:List AV) (x2_1 x3_1:Int) (x4_1 x5_1:Int) (x18_1 x19_1:Int):f133_l0 run n (k0+1) x0_1 x1_1 x2_1 x3_1 x4_1 x5_1 x18_1 x19_1 =
  bif ltI x19_1 x18_1 then
    f133_l2 run n k0 n x0_1 x1_1 x2_1 x3_1 x4_1 x5_1 x19_1 (IntKind.wrap .i64 (x19_1+1)) x18_1 x19_1
  else
    some ⟨[.bool true],[],f133_fresh⟩:=by kernel_rfl
noncomputable def f133 (run:Run) (n:Nat) (a0_1 a1_1:List AV) (a2_1 a3_1:Int) (a4_1 a5_1:Int):Option Res:=evalK G run n f133_info.keep 0 f133_info.body (retE G f133_info) (f133_info.start [.slice a0_1,.slice a1_1,.int a2_1,.int a3_1,.int a4_1,.int a5_1])
theorem f133_eq (run:Run) (n:Nat) (a0_1 a1_1:List AV) (a2_1 a3_1:Int) (a4_1 a5_1:Int):f133 run n a0_1 a1_1 a2_1 a3_1 a4_1 a5_1 =
  f133_l0 run n n a0_1 a1_1 a2_1 a3_1 a4_1 a5_1 (a1_1.length:Int) 0:=by kernel_rfl
theorem f133_run (ext:Run) (n:Nat) (a0_1 a1_1:List AV) (a2_1 a3_1:Int) (a4_1 a5_1:Int):runE G ext (n+1) 133 [.slice a0_1,.slice a1_1,.int a2_1,.int a3_1,.int a4_1,.int a5_1]=f133 (runE G ext n) n a0_1 a1_1 a2_1 a3_1 a4_1 a5_1:=runE_succ f133_at f133_in
noncomputable def f112_l0 (run:Run) (n k0:Nat) (x0_1:List AV) (x1_1 x2_1:Int) (x3_1 x4_1:Int) (x11_1:List AV) (x24_1 x25_1:Int):Option Res :=
  iterK (evalK G run n f112_keep 0 (sub [1,1,1,0,1,0,0] f112_body)) f112_t0 f112_o0 (blockK 0 (seqK (evalK G run n f112_keep 0 (sub [1,1,1,1] f112_body) (retE G f112_info)) (retE G f112_info))) k0
    ⟨[.val (.slice (.int .i64)) none (.slice x0_1),.val (.int .i64) none (.int x1_1),.val (.int .i64) none (.int x2_1),.val (.int .i64) none (.int x3_1),.val (.int .i64) none (.int x4_1),qa,qa,qa,qa,qa,qa,.val (.slice (.int .i64)) none (.slice x11_1),qa,qa,qa,qa,qa,qa,qa,qa,qa,qa,qa,qa,.val (.int .i64) none (.int x24_1),.val (.int .i64) none (.int x25_1),qa,qa,qa,qa,qa,qa,qa,qa,qa,qa,qa,qa,qa,qa,qa,.any],[qz,qz,qz,qz,qz,qz,qz,qz,qz,qz,qz,qz,qz,qz,qz,qz,qz,qz,qz,qz,qz,qz,qz,qz,qz,qz,qz,qz,qz,qz,qz,qz,qz,qz,qz,qz,qz,qz,qz,qz,qz,qz],List.replicate 42 0⟩
theorem f112_l0_eq (run:Run) (n k0:Nat) (x0_1:List AV) (x1_1 x2_1:Int) (x3_1 x4_1:Int) (x11_1:List AV) (x24_1 x25_1:Int):f112_l0 run n (k0+1) x0_1 x1_1 x2_1 x3_1 x4_1 x11_1 x24_1 x25_1 =
  bif ltI x25_1 x24_1 then
    (run 132 [.slice x0_1,.int x25_1]).bind fun r2 =>
    nilV r2.outs (consV r2.vals fun v2 vs2 =>
    nilV vs2 ((run 133 [.slice x11_1,.slice v2.toSlice,.int (IntKind.wrap .i64 (x1_1-x25_1)),.int (mx2 x2_1 1),.int x3_1,.int x4_1]).bind fun r3 =>
    nilV r3.outs (consV r3.vals fun v3 vs3 =>
    nilV vs3 (bif !v3.toBool then
    some ⟨[.bool false],[],f112_fresh⟩
  else
    f112_l0 run n k0 x0_1 x1_1 x2_1 x3_1 x4_1 x11_1 x24_1 (IntKind.wrap .i64 (x25_1+1))))))
  else
    some ⟨[.bool true],[],f112_fresh⟩:=by kernel_rfl
noncomputable def f112 (run:Run) (n:Nat) (a0_1:List AV) (a1_1 a2_1:Int) (a3_1 a4_1:Int):Option Res:=evalK G run n f112_info.keep 0 f112_info.body (retE G f112_info) (f112_info.start [.slice a0_1,.int a1_1,.int a2_1,.int a3_1,.int a4_1])
theorem f112_eq (run:Run) (n:Nat) (a0_1:List AV) (a1_1 a2_1:Int) (a3_1 a4_1:Int):f112 run n a0_1 a1_1 a2_1 a3_1 a4_1 =
  bif ltI 1024 (a0_1.length:Int) then
    some ⟨[.bool false],[],f112_fresh⟩
  else
    bif ltI 255 a1_1 then
    some ⟨[.bool false],[],f112_fresh⟩
  else
    (run 132 [.slice a0_1,.int a1_1]).bind fun r1 =>
    nilV r1.outs (consV r1.vals fun v1 vs1 =>
    nilV vs1 (f112_l0 run n n a0_1 a1_1 a2_1 a3_1 a4_1 v1.toSlice (mx2 a1_1 0) 0)):=by kernel_rfl
theorem f112_run (ext:Run) (n:Nat) (a0_1:List AV) (a1_1 a2_1:Int) (a3_1 a4_1:Int):runE G ext (n+1) 112 [.slice a0_1,.int a1_1,.int a2_1,.int a3_1,.int a4_1]=f112 (runE G ext n) n a0_1 a1_1 a2_1 a3_1 a4_1:=runE_succ f112_at f112_in
noncomputable def f82 (run:Run) (n:Nat) (a0_1:List AV) (a1_1 a2_1:Int) (a3_1 a4_1:Int):Option Res:=evalK G run n f82_info.keep 0 f82_info.body (retE G f82_info) (f82_info.start [.slice a0_1,.int a1_1,.int a2_1,.int a3_1,.int a4_1])
theorem f82_eq (run:Run) (n:Nat) (a0_1:List AV) (a1_1 a2_1:Int) (a3_1 a4_1:Int):f82 run n a0_1 a1_1 a2_1 a3_1 a4_1 =
  (run 111 [.slice a0_1,.int a1_1,.int a2_1,.int a3_1,.int a4_1]).bind fun r1 =>
    nilV r1.outs (consV r1.vals fun v1 vs1 =>
    nilV vs1 (bif v1.toBool then
    (run 112 [.slice a0_1,.int a1_1,.int a2_1,.int a3_1,.int a4_1]).bind fun r2 =>
    nilV r2.outs (consV r2.vals fun v2 vs2 =>
    nilV vs2 (some ⟨[.bool v2.toBool],[],f82_fresh⟩))
  else
    some ⟨[.bool false],[],f82_fresh⟩)):=by kernel_rfl
theorem f82_run (ext:Run) (n:Nat) (a0_1:List AV) (a1_1 a2_1:Int) (a3_1 a4_1:Int):runE G ext (n+1) 82 [.slice a0_1,.int a1_1,.int a2_1,.int a3_1,.int a4_1]=f82 (runE G ext n) n a0_1 a1_1 a2_1 a3_1 a4_1:=runE_succ f82_at f82_in
noncomputable def f52 (run:Run) (n:Nat) (a0_1:List AV) (a1_1 a2_1:Int) (a3_1 a4_1 a5_1:Int):Option Res:=evalK G run n f52_info.keep 0 f52_info.body (retE G f52_info) (f52_info.start [.slice a0_1,.int a1_1,.int a2_1,.int a3_1,.int a4_1,.int a5_1])
theorem f52_eq (run:Run) (n:Nat) (a0_1:List AV) (a1_1 a2_1:Int) (a3_1 a4_1 a5_1:Int):f52 run n a0_1 a1_1 a2_1 a3_1 a4_1 a5_1 =
  (run 51 [.slice a0_1,.int a1_1,.int a2_1]).bind fun r1 =>
    bif r1.fresh then
    nilV r1.outs (consV r1.vals fun v1 vs1 =>
    nilV vs1 (bif ltI a3_1 1 then
    some ⟨[.int a1_1],[],f52_fresh⟩
  else
    bif leI (v1.toSlice.length:Int) a3_1 then
    some ⟨[.int a1_1],[],f52_fresh⟩
  else
    bif ltI a1_1 0 then
    some ⟨[.int a1_1],[],f52_fresh⟩
  else
    bif boundsOk a1_1 (a0_1.length:Int) (a0_1.length:Int) (a0_1.length:Int)&&true then
    (run 82 [.slice (List.drop (Int.toNat a1_1) (List.take (Int.toNat (a0_1.length:Int)) a0_1)),.int a2_1,.int a3_1,.int a4_1,.int a5_1]).bind fun r2 =>
    nilV r2.outs (consV r2.vals fun v2 vs2 =>
    nilV vs2 (bif !v2.toBool then
    some ⟨[.int a1_1],[],f52_fresh⟩
  else
    bif inR (IntKind.wrap .i64 ((v1.toSlice.length:Int)-a3_1)) v1.toSlice.length then
    some ⟨[.int ((nth v1.toSlice (Int.toNat (IntKind.wrap .i64 ((v1.toSlice.length:Int)-a3_1)))).toInt)],[],f52_fresh⟩
  else none))
  else none))
  else none:=by kernel_rfl
theorem f52_run (ext:Run) (n:Nat) (a0_1:List AV) (a1_1 a2_1:Int) (a3_1 a4_1 a5_1:Int):runE G ext (n+1) 52 [.slice a0_1,.int a1_1,.int a2_1,.int a3_1,.int a4_1,.int a5_1]=f52 (runE G ext n) n a0_1 a1_1 a2_1 a3_1 a4_1 a5_1:=runE_succ f52_at f52_in
end Go.Proofs.YteiahdlklppghaaGreat.Ev

