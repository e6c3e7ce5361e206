import Derived.Test.YteiahdlklppghaaGreatPrWEvFA
namespace Go.Proofs.YteiahdlklppghaaGreat.Ev
open Go Go.RowKit
set_option maxRecDepth 100000
noncomputable def f20_l2 (run:Run) (n _k0 k2:Nat) (x2_3:Int) (x14_1 x16_1:List AV) (o8_21:Int) (o8_22:List AV) (o8_23 o8_24:Int) (o8_25:List AV) (o8_26:Int) (o8_27:List UInt8) (o8_28 o8_29:Int) (o8_30:List AV) (o13_21:Int) (o13_22:List AV) (o13_23 o13_24:Int) (o13_25:List AV) (o13_26:Int) (o13_27:List UInt8) (o13_28 o13_29:Int) (o13_30:List AV):Option Res :=
  iterK (evalK G run n f20_keep 2 (sub [1,1,1,1,1,1,1,1,1,1,1,1,1,1,0,0,0] f20_body)) f20_t2 f20_o2 (blockK 2 (seqK (evalK G run n f20_keep 0 (sub [1,1,1,1,1,1,1,1,1,1,1,1,1,1,1] f20_body) (retE G f20_info)) (retE G f20_info))) k2
    ⟨[qa,qa,.val (.int .i64) none (.int x2_3),qa,qa,qa,qa,qa,.ptr ⟨(.struct [(.int .i64),(.slice (.struct [(.struct [(.int .u32),(.blob 32),(.blob 32),(.int .u64)]),(.struct [(.int .i64),(.int .i64),(.slice (.blob 32))])])),(.struct [(.int .i64),(.int .i64),(.slice (.blob 32))]),(.int .i64),.str,(.struct [(.int .i64),(.int .i64),(.slice (.blob 32))])]),8,1,[]⟩,qa,qa,qa,qa,.ptr ⟨(.struct [(.int .i64),(.slice (.struct [(.struct [(.int .u32),(.blob 32),(.blob 32),(.int .u64)]),(.struct [(.int .i64),(.int .i64),(.slice (.blob 32))])])),(.struct [(.int .i64),(.int .i64),(.slice (.blob 32))]),(.int .i64),.str,(.struct [(.int .i64),(.int .i64),(.slice (.blob 32))])]),13,1,[]⟩,.val (.slice (.int .i64)) (some (14,0)) (.slice x14_1),qa,.val (.slice (.struct [(.struct [(.int .u32),(.blob 32),(.blob 32),(.int .u64)]),(.struct [(.int .i64),(.int .i64),(.slice (.blob 32))])])) none (.slice x16_1),qa,qa,qa,qa,qa,qa,qa,qa,qa,qa,qa,qa,qa,qa,qa,qa,qa,qa,qa,qa,qa,qa,qa,qa,qa,qa,qa,qa,qa,qa,qa,qa,qa,qa,qa,qa,qa,qa,qa,qa,qa,qa,qa,qa,qa,qa,qa,qa,qa,qa,qa,qa,qa,qa,qa,qa,qa,qa,qa,qa,qa,qa,qa,qa,qa,qa,qa,qa,qa,qa,qa,qa,qa,qa,qa,qa,qa,qa,qa,qa,qa,qa,qa,qa,qa,qa,qa,qa,qa,qa,qa,qa,qa,qa,qa,qa,qa,qa,qa,qa,qa,qa,qa,qa,qa,qa,qa,qa,qa,qa,qa,qa,qa,qa,qa,qa,qa,qa,qa,qa,qa,qa,qa,qa,qa,qa,qa,qa,qa,qa,qa,qa,qa,qa,qa,.any],[qz,qz,qz,qz,qz,qz,qz,qz,⟨1,some ⟨(.struct [(.int .i64),(.slice (.struct [(.struct [(.int .u32),(.blob 32),(.blob 32),(.int .u64)]),(.struct [(.int .i64),(.int .i64),(.slice (.blob 32))])])),(.struct [(.int .i64),(.int .i64),(.slice (.blob 32))]),(.int .i64),.str,(.struct [(.int .i64),(.int .i64),(.slice (.blob 32))])]),.agg [.int o8_21,.slice o8_22,.agg [.int o8_23,.int o8_24,.slice o8_25],.int o8_26,.str o8_27,.agg [.int o8_28,.int o8_29,.slice o8_30]]⟩⟩,qz,qz,qz,qz,⟨1,some ⟨(.struct [(.int .i64),(.slice (.struct [(.struct [(.int .u32),(.blob 32),(.blob 32),(.int .u64)]),(.struct [(.int .i64),(.int .i64),(.slice (.blob 32))])])),(.struct [(.int .i64),(.int .i64),(.slice (.blob 32))]),(.int .i64),.str,(.struct [(.int .i64),(.int .i64),(.slice (.blob 32))])]),.agg [.int o13_21,.slice o13_22,.agg [.int o13_23,.int o13_24,.slice o13_25],.int o13_26,.str o13_27,.agg [.int o13_28,.int o13_29,.slice o13_30]]⟩⟩,qz,qz,qz,qz,qz,qz,qz,qz,qz,qz,qz,qz,qz,qz,qz,qz,qz,qz,qz,qz,qz,qz,qz,qz,qz,qz,qz,qz,qz,qz,qz,qz,qz,qz,qz,qz,qz,qz,qz,qz,qz,qz,qz,qz,qz,qz,qz,qz,qz,qz,qz,qz,qz,qz,qz,qz,qz,qz,qz,qz,qz,qz,qz,qz,qz,qz,qz,qz,qz,qz,qz,qz,qz,qz,qz,qz,qz,qz,qz,qz,qz,qz,qz,qz,qz,qz,qz,qz,qz,qz,qz,qz,qz,qz,qz,qz,qz,qz,qz,qz,qz,qz,qz,qz,qz,qz,qz,qz,qz,qz,qz,qz,qz,qz,qz,qz,qz,qz,qz,qz,qz,qz,qz,qz,qz,qz,qz,qz,qz,qz,qz,qz,qz,qz,qz,qz,qz,qz,qz],List.replicate 153 0⟩
noncomputable def f20_l0 (run:Run) (n k0:Nat) (x1_1:List AV) (x2_1:Int) (x12_1:List AV) (o4_1:Int) (o4_2 o4_3:List UInt8) (o4_4:Int) (o4_5:List UInt8) (o4_6 o4_7:Int) (o4_8 o4_9:Int) (o4_10 o4_11 o8_1:Int) (o8_2:List AV) (o8_3 o8_4:Int) (o8_5:List AV) (o8_6:Int) (o8_7:List UInt8) (o8_8 o8_9:Int) (o8_10:List AV) (o13_1:Int) (o13_2:List AV) (o13_3 o13_4:Int) (o13_5:List AV) (o13_6:Int) (o13_7:List UInt8) (o13_8 o13_9:Int) (o13_10:List AV):Option Res :=
  iterK (evalK G run n f20_keep 0 (sub [1,1,1,1,1,1,1,1,0,0,0] f20_body)) f20_t0 f20_o0 (blockK 0 (seqK (evalK G run n f20_keep 0 (sub [1,1,1,1,1,1,1,1,1] f20_body) (retE G f20_info)) (retE G f20_info))) k0
    ⟨[qa,.val (.slice (.struct [(.struct [(.int .u32),(.blob 32),(.blob 32),(.int .u64)]),(.slice .str)])) none (.slice x1_1),.val (.int .i64) none (.int x2_1),qa,.ptr ⟨(.struct [(.struct [(.int .u32),(.blob 32),(.blob 32),(.int .u64)]),(.blob 32),(.int .i64),(.int .i64),(.int .i64),(.int .i64),(.int .i64),(.int .i64)]),4,1,[]⟩,qa,qa,qa,.ptr ⟨(.struct [(.int .i64),(.slice (.struct [(.struct [(.int .u32),(.blob 32),(.blob 32),(.int .u64)]),(.struct [(.int .i64),(.int .i64),(.slice (.blob 32))])])),(.struct [(.int .i64),(.int .i64),(.slice (.blob 32))]),(.int .i64),.str,(.struct [(.int .i64),(.int .i64),(.slice (.blob 32))])]),8,1,[]⟩,qa,qa,qa,.val (.slice (.int .i64)) (some (12,0)) (.slice x12_1),.ptr ⟨(.struct [(.int .i64),(.slice (.struct [(.struct [(.int .u32),(.blob 32),(.blob 32),(.int .u64)]),(.struct [(.int .i64),(.int .i64),(.slice (.blob 32))])])),(.struct [(.int .i64),(.int .i64),(.slice (.blob 32))]),(.int .i64),.str,(.struct [(.int .i64),(.int .i64),(.slice (.blob 32))])]),13,1,[]⟩,qa,qa,qa,qa,qa,qa,qa,qa,qa,qa,qa,qa,qa,qa,qa,qa,qa,qa,qa,qa,qa,qa,qa,qa,qa,qa,qa,qa,qa,qa,qa,qa,qa,qa,qa,qa,qa,qa,qa,qa,qa,qa,qa,qa,qa,qa,qa,qa,qa,qa,qa,qa,qa,qa,qa,qa,qa,qa,qa,qa,qa,qa,qa,qa,qa,qa,qa,qa,qa,qa,qa,qa,qa,qa,qa,qa,qa,qa,qa,qa,qa,qa,qa,qa,qa,qa,qa,qa,qa,qa,qa,qa,qa,qa,qa,qa,qa,qa,qa,qa,qa,qa,qa,qa,qa,qa,qa,qa,qa,qa,qa,qa,qa,qa,qa,qa,qa,qa,qa,qa,qa,qa,qa,qa,qa,qa,qa,qa,qa,qa,qa,qa,qa,qa,qa,qa,qa,qa,.any],[qz,qz,qz,qz,⟨1,some ⟨(.struct [(.struct [(.int .u32),(.blob 32),(.blob 32),(.int .u64)]),(.blob 32),(.int .i64),(.int .i64),(.int .i64),(.int .i64),(.int .i64),(.int .i64)]),.agg [.agg [.int o4_1,.blob o4_2,.blob o4_3,.int o4_4],.blob o4_5,.int o4_6,.int o4_7,.int o4_8,.int o4_9,.int o4_10,.int o4_11]⟩⟩,qz,qz,qz,⟨1,some ⟨(.struct [(.int .i64),(.slice (.struct [(.struct [(.int .u32),(.blob 32),(.blob 32),(.int .u64)]),(.struct [(.int .i64),(.int .i64),(.slice (.blob 32))])])),(.struct [(.int .i64),(.int .i64),(.slice (.blob 32))]),(.int .i64),.str,(.struct [(.int .i64),(.int .i64),(.slice (.blob 32))])]),.agg [.int o8_1,.slice o8_2,.agg [.int o8_3,.int o8_4,.slice o8_5],.int o8_6,.str o8_7,.agg [.int o8_8,.int o8_9,.slice o8_10]]⟩⟩,qz,qz,qz,qz,⟨1,some ⟨(.struct [(.int .i64),(.slice (.struct [(.struct [(.int .u32),(.blob 32),(.blob 32),(.int .u64)]),(.struct [(.int .i64),(.int .i64),(.slice (.blob 32))])])),(.struct [(.int .i64),(.int .i64),(.slice (.blob 32))]),(.int .i64),.str,(.struct [(.int .i64),(.int .i64),(.slice (.blob 32))])]),.agg [.int o13_1,.slice o13_2,.agg [.int o13_3,.int o13_4,.slice o13_5],.int o13_6,.str o13_7,.agg [.int o13_8,.int o13_9,.slice o13_10]]⟩⟩,qz,qz,qz,qz,qz,qz,qz,qz,qz,qz,qz,qz,qz,qz,qz,qz,qz,qz,qz,qz,qz,qz,qz,qz,qz,qz,qz,qz,qz,qz,qz,qz,qz,qz,qz,qz,qz,qz,qz,qz,qz,qz,qz,qz,qz,qz,qz,qz,qz,qz,qz,qz,qz,qz,qz,qz,qz,qz,qz,qz,qz,qz,qz,qz,qz,qz,qz,qz,qz,qz,qz,qz,qz,qz,qz,qz,qz,qz,qz,qz,qz,qz,qz,qz,qz,qz,qz,qz,qz,qz,qz,qz,qz,qz,qz,qz,qz,qz,qz,qz,qz,qz,qz,qz,qz,qz,qz,qz,qz,qz,qz,qz,qz,qz,qz,qz,qz,qz,qz,qz,qz,qz,qz,qz,qz,qz,qz,qz,qz,qz,qz,qz,qz,qz,qz,qz,qz,qz,qz],List.replicate 153 0⟩
theorem f20_l2_eq (run:Run) (n k0 k2:Nat) (x2_3:Int) (x14_1 x16_1:List AV) (o8_21:Int) (o8_22:List AV) (o8_23 o8_24:Int) (o8_25:List AV) (o8_26:Int) (o8_27:List UInt8) (o8_28 o8_29:Int) (o8_30:List AV) (o13_21:Int) (o13_22:List AV) (o13_23 o13_24:Int) (o13_25:List AV) (o13_26:Int) (o13_27:List UInt8) (o13_28 o13_29:Int) (o13_30:List AV):f20_l2 run n k0 (k2+1) x2_3 x14_1 x16_1 o8_21 o8_22 o8_23 o8_24 o8_25 o8_26 o8_27 o8_28 o8_29 o8_30 o13_21 o13_22 o13_23 o13_24 o13_25 o13_26 o13_27 o13_28 o13_29 o13_30 =
  bif inR o13_26 x14_1.length then
    bif !(eqI ((nth x14_1 (Int.toNat o13_26)).toInt) x2_3) then
    f20_l2 run n k0 k2 x2_3 x14_1 x16_1 o8_21 o8_22 o8_23 o8_24 o8_25 o8_26 o8_27 o8_28 o8_29 o8_30 o13_21 o13_22 o13_23 o13_24 o13_25 (IntKind.wrap .i64 (o13_26+1)) o13_27 o13_28 o13_29 o13_30
  else
    bif boundsOk 1 (IntKind.wrap .i64 ((x16_1.length:Int)-1)) (x16_1.length:Int) (x16_1.length:Int)&&true then
    bif inR (IntKind.wrap .i64 ((x16_1.length:Int)-1)) x16_1.length then
    some ⟨[.agg [.int o13_21,.slice (List.drop 1 (List.take (Int.toNat (IntKind.wrap .i64 ((x16_1.length:Int)-1))) x16_1)),.agg [.int ((((nth x16_1 (Int.toNat (IntKind.wrap .i64 ((x16_1.length:Int)-1)))).fld 1).fld 0).toInt),.int ((((nth x16_1 (Int.toNat (IntKind.wrap .i64 ((x16_1.length:Int)-1)))).fld 1).fld 1).toInt),.slice ((((nth x16_1 (Int.toNat (IntKind.wrap .i64 ((x16_1.length:Int)-1)))).fld 1).fld 2).toSlice)],.int o13_26,.str o13_27,.agg [.int o13_28,.int o13_29,.slice o13_30]],.int 0],[],f20_fresh⟩
  else none
  else none
  else none:=by kernel_rfl
theorem f20_l0_eq (run:Run) (n k0:Nat) (x1_1:List AV) (x2_1:Int) (x12_1:List AV) (o4_1:Int) (o4_2 o4_3:List UInt8) (o4_4:Int) (o4_5:List UInt8) (o4_6 o4_7:Int) (o4_8 o4_9:Int) (o4_10 o4_11 o8_1:Int) (o8_2:List AV) (o8_3 o8_4:Int) (o8_5:List AV) (o8_6:Int) (o8_7:List UInt8) (o8_8 o8_9:Int) (o8_10:List AV) (o13_1:Int) (o13_2:List AV) (o13_3 o13_4:Int) (o13_5:List AV) (o13_6:Int) (o13_7:List UInt8) (o13_8 o13_9:Int) (o13_10:List AV):f20_l0 run n (k0+1) x1_1 x2_1 x12_1 o4_1 o4_2 o4_3 o4_4 o4_5 o4_6 o4_7 o4_8 o4_9 o4_10 o4_11 o8_1 o8_2 o8_3 o8_4 o8_5 o8_6 o8_7 o8_8 o8_9 o8_10 o13_1 o13_2 o13_3 o13_4 o13_5 o13_6 o13_7 o13_8 o13_9 o13_10 =
  bif inR o13_1 x12_1.length then
    bif ltI ((nth x12_1 (Int.toNat o13_1)).toInt) x2_1 then
    f20_l0 run n k0 x1_1 x2_1 x12_1 o4_1 o4_2 o4_3 o4_4 o4_5 o4_6 o4_7 o4_8 o4_9 o4_10 o4_11 o8_1 o8_2 o8_3 o8_4 o8_5 o8_6 o8_7 o8_8 o8_9 o8_10 (IntKind.wrap .i64 (o13_1+1)) o13_2 o13_3 o13_4 o13_5 o13_6 o13_7 o13_8 o13_9 o13_10
  else
    bif inR o13_1 x12_1.length then
    bif eqI ((nth x12_1 (Int.toNat o13_1)).toInt) x2_1 then
    some ⟨[.agg [.int o13_1,.slice o13_2,.agg [.int o13_3,.int o13_4,.slice o13_5],.int o13_6,.str o13_7,.agg [.int o13_8,.int o13_9,.slice o13_10]],.int 0],[],f20_fresh⟩
  else
    (run 29 [.slice x1_1]).bind fun r4 =>
    bif r4.fresh then
    nilV r4.outs (consV r4.vals fun v5 vs5 =>
    nilV vs5 ((run 28 [.blob o4_5,.slice v5.toSlice]).bind fun r5 =>
    bif r5.fresh then
    nilV r5.outs (consV r5.vals fun v6 vs6 =>
    nilV vs6 (bif inR o13_1 x12_1.length then
    bif inR (IntKind.wrap .i64 (o13_1-1)) x12_1.length then
    (run 18 [.slice v6.toSlice,.int ((nth x12_1 (Int.toNat o13_1)).toInt),.int x2_1,.int ((nth x12_1 (Int.toNat (IntKind.wrap .i64 (o13_1-1)))).toInt)]).bind fun r6 =>
    bif r6.fresh then
    nilV r6.outs (consV r6.vals fun v7 vs7 =>
    nilV vs7 (bif inR (IntKind.wrap .i64 (o13_1-1)) x12_1.length then
    bif Nat.ble ((1+v7.toSlice.length)*8) 140737488355328 then
    bif inR o13_1 x12_1.length then
    bif Nat.ble ((([.int ((nth x12_1 (Int.toNat (IntKind.wrap .i64 (o13_1-1)))).toInt)]++v7.toSlice:List AV).length+1)*8) 140737488355328 then
    (run 24 [.blob o4_5,.slice x1_1,.slice (([.int ((nth x12_1 (Int.toNat (IntKind.wrap .i64 (o13_1-1)))).toInt)]++v7.toSlice)++[.int ((nth x12_1 (Int.toNat o13_1)).toInt)])]).bind fun r7 =>
    nilV r7.outs (consV r7.vals fun v8 vs8 =>
    consV vs8 fun v9 vs9 =>
    nilV vs9 (bif !(eqI v9.toInt 0) then
    some ⟨[.agg [.int 0,.slice [],.agg [.int 0,.int 0,.slice []],.int 0,.str [],.agg [.int 0,.int 0,.slice []]],.int v9.toInt],[],f20_fresh⟩
  else
    f20_l2 run n k0 n x2_1 v7.toSlice v8.toSlice o8_1 o8_2 o8_3 o8_4 o8_5 o8_6 o8_7 o8_8 o8_9 o8_10 o13_1 o13_2 o13_3 o13_4 o13_5 o13_6 o13_7 o13_8 o13_9 o13_10))
  else none
  else none
  else none
  else none))
  else none
  else none
  else none))
  else none))
  else none
  else none
  else none:=by kernel_rfl
noncomputable def f20 (run:Run) (n:Nat) (a0_1:Int) (a0_2 a0_3:List UInt8) (a0_4:Int) (a0_5:List UInt8) (a0_6 a0_7:Int) (a0_8 a0_9:Int) (a0_10 a0_11:Int) (a1_1:List AV) (a2_1 a3_1:Int):Option Res:=evalK G run n f20_info.keep 0 f20_info.body (retE G f20_info) (f20_info.start [.agg [.agg [.int a0_1,.blob a0_2,.blob a0_3,.int a0_4],.blob a0_5,.int a0_6,.int a0_7,.int a0_8,.int a0_9,.int a0_10,.int a0_11],.slice a1_1,.int a2_1,.int a3_1])
theorem f20_eq (run:Run) (n:Nat) (a0_1:Int) (a0_2 a0_3:List UInt8) (a0_4:Int) (a0_5:List UInt8) (a0_6 a0_7:Int) (a0_8 a0_9:Int) (a0_10 a0_11:Int) (a1_1:List AV) (a2_1 a3_1:Int):f20 run n a0_1 a0_2 a0_3 a0_4 a0_5 a0_6 a0_7 a0_8 a0_9 a0_10 a0_11 a1_1 a2_1 a3_1 =
  (run 15 [.agg [.agg [.int a0_1,.blob a0_2,.blob a0_3,.int a0_4],.blob a0_5,.int a0_6,.int a0_7,.int a0_8,.int a0_9,.int a0_10,.int a0_11],.slice a1_1]).bind fun r1 =>
    nilV r1.outs (consV r1.vals fun v1 vs1 =>
    nilV vs1 (bif !(eqI v1.toInt 0) then
    some ⟨[.agg [.int 0,.slice [],.agg [.int 0,.int 0,.slice []],.int 0,.str [],.agg [.int 0,.int 0,.slice []]],.int v1.toInt],[],f20_fresh⟩
  else
    bif ltI a2_1 0 then
    some ⟨[.agg [.int 0,.slice [],.agg [.int 0,.int 0,.slice []],.int 0,.str [],.agg [.int 0,.int 0,.slice []]],.int 15],[],f20_fresh⟩
  else
    bif leI (IntKind.wrap .i64 ((a1_1.length:Int)-a0_7)) a2_1 then
    some ⟨[.agg [.int 0,.slice [],.agg [.int 0,.int 0,.slice []],.int 0,.str [],.agg [.int 0,.int 0,.slice []]],.int 15],[],f20_fresh⟩
  else
    bif inR a2_1 a1_1.length then
    (run 41 [.slice (((nth a1_1 (Int.toNat a2_1)).fld 1).toSlice),.int a3_1]).bind fun r2 =>
    nilV r2.outs (consV r2.vals fun v2 vs2 =>
    consV vs2 fun v3 vs3 =>
    nilV vs3 (bif !(eqI v3.toInt 0) then
    some ⟨[.agg [.int 0,.slice [],.agg [.int 0,.int 0,.slice []],.int 0,.str [],.agg [.int 0,.int 0,.slice []]],.int 14],[],f20_fresh⟩
  else
    (run 12 [.agg [.agg [.int a0_1,.blob a0_2,.blob a0_3,.int a0_4],.blob a0_5,.int a0_6,.int a0_7,.int a0_8,.int a0_9,.int a0_10,.int a0_11],.slice a1_1]).bind fun r3 =>
    bif r3.fresh then
    nilV r3.outs (consV r3.vals fun v4 vs4 =>
    nilV vs4 (bif inR a2_1 a1_1.length then
    bif inR a3_1 ((((nth a1_1 (Int.toNat a2_1)).fld 1).toSlice).length) then
    f20_l0 run n n a1_1 a2_1 v4.toSlice a0_1 a0_2 a0_3 a0_4 a0_5 a0_6 a0_7 a0_8 a0_9 a0_10 a0_11 0 [] 0 0 [] 0 [] 0 0 [] 0 [] 0 0 [] 0 ((nth (((nth a1_1 (Int.toNat a2_1)).fld 1).toSlice) (Int.toNat a3_1)).toStr) ((v2.fld 0).toInt) ((v2.fld 1).toInt) ((v2.fld 2).toSlice)
  else none
  else none))
  else none))
  else none)):=by kernel_rfl
theorem f20_run (ext:Run) (n:Nat) (a0_1:Int) (a0_2 a0_3:List UInt8) (a0_4:Int) (a0_5:List UInt8) (a0_6 a0_7:Int) (a0_8 a0_9:Int) (a0_10 a0_11:Int) (a1_1:List AV) (a2_1 a3_1:Int):runE G ext (n+1) 20 [.agg [.agg [.int a0_1,.blob a0_2,.blob a0_3,.int a0_4],.blob a0_5,.int a0_6,.int a0_7,.int a0_8,.int a0_9,.int a0_10,.int a0_11],.slice a1_1,.int a2_1,.int a3_1]=f20 (runE G ext n) n a0_1 a0_2 a0_3 a0_4 a0_5 a0_6 a0_7 a0_8 a0_9 a0_10 a0_11 a1_1 a2_1 a3_1:=runE_succ f20_at f20_in
noncomputable def f75_l0 (run:Run) (n k0:Nat) (x0_1 x1_1:List AV) (x5_1:Int):Option Res :=
  iterK (evalK G run n f75_keep 0 (sub [1,1,0,1,0,0] f75_body)) f75_t0 f75_o0 (blockK 0 (seqK (evalK G run n f75_keep 0 (sub [1,1,1] f75_body) (retE G f75_info)) (retE G f75_info))) k0
    ⟨[.val (.slice (.blob 32)) none (.slice x0_1),.val (.slice (.blob 32)) none (.slice x1_1),qa,qa,qa,.val (.int .i64) none (.int x5_1),qa,qa,qa,qa,qa,qa,qa,qa,qa,qa,qa,qa,qa,qa,qa,qa,qa,qa,qa,.any],[qz,qz,qz,qz,qz,qz,qz,qz,qz,qz,qz,qz,qz,qz,qz,qz,qz,qz,qz,qz,qz,qz,qz,qz,qz,qz],List.replicate 26 0⟩
theorem f75_l0_eq (run:Run) (n k0:Nat) (x0_1 x1_1:List AV) (x5_1:Int):f75_l0 run n (k0+1) x0_1 x1_1 x5_1 =
  bif ltI x5_1 (x0_1.length:Int) then
    bif inR x5_1 x0_1.length then
    bif inR x5_1 x1_1.length then
    bif !(eqS ((nth x0_1 (Int.toNat x5_1)).toBlob) ((nth x1_1 (Int.toNat x5_1)).toBlob)) then
    some ⟨[.bool false],[],f75_fresh⟩
  else
    f75_l0 run n k0 x0_1 x1_1 (IntKind.wrap .i64 (x5_1+1))
  else none
  else none
  else
    some ⟨[.bool true],[],f75_fresh⟩:=by kernel_rfl
noncomputable def f75 (run:Run) (n:Nat) (a0_1 a1_1:List AV):Option Res:=evalK G run n f75_info.keep 0 f75_info.body (retE G f75_info) (f75_info.start [.slice a0_1,.slice a1_1])
theorem f75_eq (run:Run) (n:Nat) (a0_1 a1_1:List AV):f75 run n a0_1 a1_1 =
  bif !(eqI (a0_1.length:Int) (a1_1.length:Int)) then
    some ⟨[.bool false],[],f75_fresh⟩
  else
    f75_l0 run n n a0_1 a1_1 0:=by kernel_rfl
theorem f75_run (ext:Run) (n:Nat) (a0_1 a1_1:List AV):runE G ext (n+1) 75 [.slice a0_1,.slice a1_1]=f75 (runE G ext n) n a0_1 a1_1:=runE_succ f75_at f75_in
noncomputable def f42 (run:Run) (n:Nat) (a0_1 a0_2:Int) (a0_3:List AV) (a1_1 a1_2:Int) (a1_3:List AV):Option Res:=evalK G run n f42_info.keep 0 f42_info.body (retE G f42_info) (f42_info.start [.agg [.int a0_1,.int a0_2,.slice a0_3],.agg [.int a1_1,.int a1_2,.slice a1_3]])
theorem f42_eq (run:Run) (n:Nat) (a0_1 a0_2:Int) (a0_3:List AV) (a1_1 a1_2:Int) (a1_3:List AV):f42 run n a0_1 a0_2 a0_3 a1_1 a1_2 a1_3 =
  bif eqI a0_1 a1_1 then
    bif eqI a0_2 a1_2 then
    (run 75 [.slice a0_3,.slice a1_3]).bind fun r1 =>
    nilV r1.outs (consV r1.vals fun v1 vs1 =>
    nilV vs1 (some ⟨[.bool v1.toBool],[],f42_fresh⟩))
  else
    some ⟨[.bool false],[],f42_fresh⟩
  else
    some ⟨[.bool false],[],f42_fresh⟩:=by kernel_rfl
theorem f42_run (ext:Run) (n:Nat) (a0_1 a0_2:Int) (a0_3:List AV) (a1_1 a1_2:Int) (a1_3:List AV):runE G ext (n+1) 42 [.agg [.int a0_1,.int a0_2,.slice a0_3],.agg [.int a1_1,.int a1_2,.slice a1_3]]=f42 (runE G ext n) n a0_1 a0_2 a0_3 a1_1 a1_2 a1_3:=runE_succ f42_at f42_in
noncomputable def f30 (run:Run) (n:Nat) (a0_1:Int) (a0_2 a0_3:List UInt8) (a0_4 a0_5 a0_6:Int) (a0_7:List AV) (a1_1:Int) (a1_2 a1_3:List UInt8) (a1_4 a1_5 a1_6:Int) (a1_7:List AV):Option Res:=evalK G run n f30_info.keep 0 f30_info.body (retE G f30_info) (f30_info.start [.agg [.agg [.int a0_1,.blob a0_2,.blob a0_3,.int a0_4],.agg [.int a0_5,.int a0_6,.slice a0_7]],.agg [.agg [.int a1_1,.blob a1_2,.blob a1_3,.int a1_4],.agg [.int a1_5,.int a1_6,.slice a1_7]]])
theorem f30_eq (run:Run) (n:Nat) (a0_1:Int) (a0_2 a0_3:List UInt8) (a0_4 a0_5 a0_6:Int) (a0_7:List AV) (a1_1:Int) (a1_2 a1_3:List UInt8) (a1_4 a1_5 a1_6:Int) (a1_7:List AV):f30 run n a0_1 a0_2 a0_3 a0_4 a0_5 a0_6 a0_7 a1_1 a1_2 a1_3 a1_4 a1_5 a1_6 a1_7 =
  bif (eqI a0_1 a1_1&&(eqS a0_2 a1_2&&(eqS a0_3 a1_3&&(eqI a0_4 a1_4&&true)))) then
    (run 42 [.agg [.int a0_5,.int a0_6,.slice a0_7],.agg [.int a1_5,.int a1_6,.slice a1_7]]).bind fun r1 =>
    nilV r1.outs (consV r1.vals fun v1 vs1 =>
    nilV vs1 (some ⟨[.bool v1.toBool],[],f30_fresh⟩))
  else
    some ⟨[.bool false],[],f30_fresh⟩:=by kernel_rfl
theorem f30_run (ext:Run) (n:Nat) (a0_1:Int) (a0_2 a0_3:List UInt8) (a0_4 a0_5 a0_6:Int) (a0_7:List AV) (a1_1:Int) (a1_2 a1_3:List UInt8) (a1_4 a1_5 a1_6:Int) (a1_7:List AV):runE G ext (n+1) 30 [.agg [.agg [.int a0_1,.blob a0_2,.blob a0_3,.int a0_4],.agg [.int a0_5,.int a0_6,.slice a0_7]],.agg [.agg [.int a1_1,.blob a1_2,.blob a1_3,.int a1_4],.agg [.int a1_5,.int a1_6,.slice a1_7]]]=f30 (runE G ext n) n a0_1 a0_2 a0_3 a0_4 a0_5 a0_6 a0_7 a1_1 a1_2 a1_3 a1_4 a1_5 a1_6 a1_7:=runE_succ f30_at f30_in
noncomputable def f13_l0 (run:Run) (n k0:Nat) (x0_1 x1_1:List AV) (x5_1:Int):Option Res :=
  iterK (evalK G run n f13_keep 0 (sub [1,1,0,1,0,0] f13_body)) f13_t0 f13_o0 (blockK 0 (seqK (evalK G run n f13_keep 0 (sub [1,1,1] f13_body) (retE G f13_info)) (retE G f13_info))) k0
    ⟨[.val (.slice (.struct [(.struct [(.int .u32),(.blob 32),(.blob 32),(.int .u64)]),(.struct [(.int .i64),(.int .i64),(.slice (.blob 32))])])) none (.slice x0_1),.val (.slice (.struct [(.struct [(.int .u32),(.blob 32),(.blob 32),(.int .u64)]),(.struct [(.int .i64),(.int .i64),(.slice (.blob 32))])])) none (.slice x1_1),qa,qa,qa,.val (.int .i64) none (.int x5_1),qa,qa,qa,qa,qa,qa,qa,qa,qa,qa,qa,qa,qa,qa,qa,qa,qa,qa,qa,qa,.any],[qz,qz,qz,qz,qz,qz,qz,qz,qz,qz,qz,qz,qz,qz,qz,qz,qz,qz,qz,qz,qz,qz,qz,qz,qz,qz,qz],List.replicate 27 0⟩
theorem f13_l0_eq (run:Run) (n k0:Nat) (x0_1 x1_1:List AV) (x5_1:Int):f13_l0 run n (k0+1) x0_1 x1_1 x5_1 =
  bif ltI x5_1 (x0_1.length:Int) then
    bif inR x5_1 x0_1.length then
    bif inR x5_1 x1_1.length then
    (run 30 [.agg [.agg [.int ((((nth x0_1 (Int.toNat x5_1)).fld 0).fld 0).toInt),.blob ((((nth x0_1 (Int.toNat x5_1)).fld 0).fld 1).toBlob),.blob ((((nth x0_1 (Int.toNat x5_1)).fld 0).fld 2).toBlob),.int ((((nth x0_1 (Int.toNat x5_1)).fld 0).fld 3).toInt)],.agg [.int ((((nth x0_1 (Int.toNat x5_1)).fld 1).fld 0).toInt),.int ((((nth x0_1 (Int.toNat x5_1)).fld 1).fld 1).toInt),.slice ((((nth x0_1 (Int.toNat x5_1)).fld 1).fld 2).toSlice)]],.agg [.agg [.int ((((nth x1_1 (Int.toNat x5_1)).fld 0).fld 0).toInt),.blob ((((nth x1_1 (Int.toNat x5_1)).fld 0).fld 1).toBlob),.blob ((((nth x1_1 (Int.toNat x5_1)).fld 0).fld 2).toBlob),.int ((((nth x1_1 (Int.toNat x5_1)).fld 0).fld 3).toInt)],.agg [.int ((((nth x1_1 (Int.toNat x5_1)).fld 1).fld 0).toInt),.int ((((nth x1_1 (Int.toNat x5_1)).fld 1).fld 1).toInt),.slice ((((nth x1_1 (Int.toNat x5_1)).fld 1).fld 2).toSlice)]]]).bind fun r1 =>
    nilV r1.outs (consV r1.vals fun v1 vs1 =>
    nilV vs1 (bif !v1.toBool then
    some ⟨[.bool false],[],f13_fresh⟩
  else
    f13_l0 run n k0 x0_1 x1_1 (IntKind.wrap .i64 (x5_1+1))))
  else none
  else none
  else
    some ⟨[.bool true],[],f13_fresh⟩:=by kernel_rfl
noncomputable def f13 (run:Run) (n:Nat) (a0_1 a1_1:List AV):Option Res:=evalK G run n f13_info.keep 0 f13_info.body (retE G f13_info) (f13_info.start [.slice a0_1,.slice a1_1])
theorem f13_eq (run:Run) (n:Nat) (a0_1 a1_1:List AV):f13 run n a0_1 a1_1 =
  bif !(eqI (a0_1.length:Int) (a1_1.length:Int)) then
    some ⟨[.bool false],[],f13_fresh⟩
  else
    f13_l0 run n n a0_1 a1_1 0:=by kernel_rfl
theorem f13_run (ext:Run) (n:Nat) (a0_1 a1_1:List AV):runE G ext (n+1) 13 [.slice a0_1,.slice a1_1]=f13 (runE G ext n) n a0_1 a1_1:=runE_succ f13_at f13_in
noncomputable def f21 (run:Run) (n:Nat) (a0_1:Int) (a0_2:List AV) (a0_3 a0_4:Int) (a0_5:List AV) (a0_6:Int) (a0_7:List UInt8) (a0_8 a0_9:Int) (a0_10:List AV) (a1_1:Int) (a1_2:List AV) (a1_3 a1_4:Int) (a1_5:List AV) (a1_6:Int) (a1_7:List UInt8) (a1_8 a1_9:Int) (a1_10:List AV):Option Res:=evalK G run n f21_info.keep 0 f21_info.body (retE G f21_info) (f21_info.start [.agg [.int a0_1,.slice a0_2,.agg [.int a0_3,.int a0_4,.slice a0_5],.int a0_6,.str a0_7,.agg [.int a0_8,.int a0_9,.slice a0_10]],.agg [.int a1_1,.slice a1_2,.agg [.int a1_3,.int a1_4,.slice a1_5],.int a1_6,.str a1_7,.agg [.int a1_8,.int a1_9,.slice a1_10]]])
theorem f21_eq (run:Run) (n:Nat) (a0_1:Int) (a0_2:List AV) (a0_3 a0_4:Int) (a0_5:List AV) (a0_6:Int) (a0_7:List UInt8) (a0_8 a0_9:Int) (a0_10:List AV) (a1_1:Int) (a1_2:List AV) (a1_3 a1_4:Int) (a1_5:List AV) (a1_6:Int) (a1_7:List UInt8) (a1_8 a1_9:Int) (a1_10:List AV):f21 run n a0_1 a0_2 a0_3 a0_4 a0_5 a0_6 a0_7 a0_8 a0_9 a0_10 a1_1 a1_2 a1_3 a1_4 a1_5 a1_6 a1_7 a1_8 a1_9 a1_10 =
  bif eqI a0_1 a1_1 then
    bif eqI a0_6 a1_6 then
    bif eqS a0_7 a1_7 then
    (run 13 [.slice a0_2,.slice a1_2]).bind fun r1 =>
    nilV r1.outs (consV r1.vals fun v1 vs1 =>
    nilV vs1 (bif v1.toBool then
    (run 42 [.agg [.int a0_3,.int a0_4,.slice a0_5],.agg [.int a1_3,.int a1_4,.slice a1_5]]).bind fun r2 =>
    nilV r2.outs (consV r2.vals fun v2 vs2 =>
    nilV vs2 (bif v2.toBool then
    (run 42 [.agg [.int a0_8,.int a0_9,.slice a0_10],.agg [.int a1_8,.int a1_9,.slice a1_10]]).bind fun r3 =>
    nilV r3.outs (consV r3.vals fun v3 vs3 =>
    nilV vs3 (some ⟨[.bool v3.toBool],[],f21_fresh⟩))
  else
    some ⟨[.bool false],[],f21_fresh⟩))
  else
    some ⟨[.bool false],[],f21_fresh⟩))
  else
    some ⟨[.bool false],[],f21_fresh⟩
  else
    some ⟨[.bool false],[],f21_fresh⟩
  else
    some ⟨[.bool false],[],f21_fresh⟩:=by kernel_rfl
theorem f21_run (ext:Run) (n:Nat) (a0_1:Int) (a0_2:List AV) (a0_3 a0_4:Int) (a0_5:List AV) (a0_6:Int) (a0_7:List UInt8) (a0_8 a0_9:Int) (a0_10:List AV) (a1_1:Int) (a1_2:List AV) (a1_3 a1_4:Int) (a1_5:List AV) (a1_6:Int) (a1_7:List UInt8) (a1_8 a1_9:Int) (a1_10:List AV):runE G ext (n+1) 21 [.agg [.int a0_1,.slice a0_2,.agg [.int a0_3,.int a0_4,.slice a0_5],.int a0_6,.str a0_7,.agg [.int a0_8,.int a0_9,.slice a0_10]],.agg [.int a1_1,.slice a1_2,.agg [.int a1_3,.int a1_4,.slice a1_5],.int a1_6,.str a1_7,.agg [.int a1_8,.int a1_9,.slice a1_10]]]=f21 (runE G ext n) n a0_1 a0_2 a0_3 a0_4 a0_5 a0_6 a0_7 a0_8 a0_9 a0_10 a1_1 a1_2 a1_3 a1_4 a1_5 a1_6 a1_7 a1_8 a1_9 a1_10:=runE_succ f21_at f21_in
noncomputable def f5 (run:Run) (n:Nat) (a0_1:Int) (a0_2 a0_3:List UInt8) (a0_4:Int) (a0_5:List UInt8) (a0_6 a0_7:Int) (a0_8 a0_9:Int) (a0_10 a0_11:Int) (a1_1 a2_1:List AV):Option Res:=evalK G run n f5_info.keep 0 f5_info.body (retE G f5_info) (f5_info.start [.agg [.agg [.int a0_1,.blob a0_2,.blob a0_3,.int a0_4],.blob a0_5,.int a0_6,.int a0_7,.int a0_8,.int a0_9,.int a0_10,.int a0_11],.slice a1_1,.agg a2_1])
theorem f5_eq (run:Run) (n:Nat) (a0_1:Int) (a0_2 a0_3:List UInt8) (a0_4:Int) (a0_5:List UInt8) (a0_6 a0_7:Int) (a0_8 a0_9:Int) (a0_10 a0_11:Int) (a1_1 a2_1:List AV):f5 run n a0_1 a0_2 a0_3 a0_4 a0_5 a0_6 a0_7 a0_8 a0_9 a0_10 a0_11 a1_1 a2_1 =
  (run 6 [.slice a1_1]).bind fun r1 =>
    nilV r1.outs (consV r1.vals fun v1 vs1 =>
    nilV vs1 (bif v1.toBool then
    (run 16 []).bind fun r2 =>
    nilV r2.outs (consV r2.vals fun v2 vs2 =>
    nilV vs2 (some ⟨[.bool v2.toBool],[],f5_fresh⟩))
  else
    (run 19 [.agg [.agg [.int a0_1,.blob a0_2,.blob a0_3,.int a0_4],.blob a0_5,.int a0_6,.int a0_7,.int a0_8,.int a0_9,.int a0_10,.int a0_11],.slice a1_1,.int ((AV.fld (.agg a2_1) 0).toInt),.int ((AV.fld (.agg a2_1) 1).toInt)]).bind fun r3 =>
    nilV r3.outs (consV r3.vals fun v3 vs3 =>
    consV vs3 fun v4 vs4 =>
    nilV vs4 ((run 20 [.agg [.agg [.int a0_1,.blob a0_2,.blob a0_3,.int a0_4],.blob a0_5,.int a0_6,.int a0_7,.int a0_8,.int a0_9,.int a0_10,.int a0_11],.slice a1_1,.int ((AV.fld (.agg a2_1) 0).toInt),.int ((AV.fld (.agg a2_1) 1).toInt)]).bind fun r4 =>
    nilV r4.outs (consV r4.vals fun v5 vs5 =>
    consV vs5 fun v6 vs6 =>
    nilV vs6 ((run 21 [.agg [.int ((v3.fld 0).toInt),.slice ((v3.fld 1).toSlice),.agg [.int (((v3.fld 2).fld 0).toInt),.int (((v3.fld 2).fld 1).toInt),.slice (((v3.fld 2).fld 2).toSlice)],.int ((v3.fld 3).toInt),.str ((v3.fld 4).toStr),.agg [.int (((v3.fld 5).fld 0).toInt),.int (((v3.fld 5).fld 1).toInt),.slice (((v3.fld 5).fld 2).toSlice)]],.agg [.int ((v5.fld 0).toInt),.slice ((v5.fld 1).toSlice),.agg [.int (((v5.fld 2).fld 0).toInt),.int (((v5.fld 2).fld 1).toInt),.slice (((v5.fld 2).fld 2).toSlice)],.int ((v5.fld 3).toInt),.str ((v5.fld 4).toStr),.agg [.int (((v5.fld 5).fld 0).toInt),.int (((v5.fld 5).fld 1).toInt),.slice (((v5.fld 5).fld 2).toSlice)]]]).bind fun r5 =>
    nilV r5.outs (consV r5.vals fun v7 vs7 =>
    nilV vs7 (bif v7.toBool then
    bif eqI v4.toInt v6.toInt then
    (run 16 []).bind fun r6 =>
    nilV r6.outs (consV r6.vals fun v8 vs8 =>
    nilV vs8 (some ⟨[.bool v8.toBool],[],f5_fresh⟩))
  else
    some ⟨[.bool false],[],f5_fresh⟩
  else
    some ⟨[.bool false],[],f5_fresh⟩)))))))):=by kernel_rfl
theorem f5_run (ext:Run) (n:Nat) (a0_1:Int) (a0_2 a0_3:List UInt8) (a0_4:Int) (a0_5:List UInt8) (a0_6 a0_7:Int) (a0_8 a0_9:Int) (a0_10 a0_11:Int) (a1_1 a2_1:List AV):runE G ext (n+1) 5 [.agg [.agg [.int a0_1,.blob a0_2,.blob a0_3,.int a0_4],.blob a0_5,.int a0_6,.int a0_7,.int a0_8,.int a0_9,.int a0_10,.int a0_11],.slice a1_1,.agg a2_1]=f5 (runE G ext n) n a0_1 a0_2 a0_3 a0_4 a0_5 a0_6 a0_7 a0_8 a0_9 a0_10 a0_11 a1_1 a2_1:=runE_succ f5_at f5_in
noncomputable def f67_l0 (run:Run) (n k0:Nat) (x1_1 x6_1:Int) (x7_1:Bool) (x10_1:List AV) (x11_1 x12_1:Int):Option Res :=
  iterK (evalK G run n f67_keep 0 (sub [1,1,0,1,0,0] f67_body)) f67_t0 f67_o0 (blockK 0 (seqK (evalK G run n f67_keep 0 (sub [1,1,1] f67_body) (retE G f67_info)) (retE G f67_info))) k0
    ⟨[qa,.val (.int .i64) none (.int x1_1),qa,qa,qa,qa,.val (.int .i64) none (.int x6_1),.val .bool none (.bool x7_1),qa,qa,.val (.slice (.int .i64)) none (.slice x10_1),.val (.int .i64) none (.int x11_1),.val (.int .i64) none (.int x12_1),qa,qa,qa,qa,qa,qa,qa,qa,qa,qa,qa,qa,qa,qa,qa,qa,qa,qa,.any],[qz,qz,qz,qz,qz,qz,qz,qz,qz,qz,qz,qz,qz,qz,qz,qz,qz,qz,qz,qz,qz,qz,qz,qz,qz,qz,qz,qz,qz,qz,qz,qz],List.replicate 32 0⟩
theorem f67_l0_eq (run:Run) (n k0:Nat) (x1_1 x6_1:Int) (x7_1:Bool) (x10_1:List AV) (x11_1 x12_1:Int):f67_l0 run n (k0+1) x1_1 x6_1 x7_1 x10_1 x11_1 x12_1 =
  bif ltI x12_1 x11_1 then
    bif inR x12_1 x10_1.length then
    bif leI x1_1 ((nth x10_1 (Int.toNat x12_1)).toInt) then
    bif !x7_1 then
    f67_l0 run n k0 x1_1 ((nth x10_1 (Int.toNat x12_1)).toInt) true x10_1 x11_1 (IntKind.wrap .i64 (x12_1+1))
  else
    bif ltI ((nth x10_1 (Int.toNat x12_1)).toInt) x6_1 then
    f67_l0 run n k0 x1_1 ((nth x10_1 (Int.toNat x12_1)).toInt) true x10_1 x11_1 (IntKind.wrap .i64 (x12_1+1))
  else
    f67_l0 run n k0 x1_1 x6_1 x7_1 x10_1 x11_1 (IntKind.wrap .i64 (x12_1+1))
  else
    f67_l0 run n k0 x1_1 x6_1 x7_1 x10_1 x11_1 (IntKind.wrap .i64 (x12_1+1))
  else none
  else
    some ⟨[.int x6_1,.bool x7_1],[],f67_fresh⟩:=by kernel_rfl
noncomputable def f67 (run:Run) (n:Nat) (a0_1:List AV) (a1_1:Int):Option Res:=evalK G run n f67_info.keep 0 f67_info.body (retE G f67_info) (f67_info.start [.slice a0_1,.int a1_1])
theorem f67_eq (run:Run) (n:Nat) (a0_1:List AV) (a1_1:Int):f67 run n a0_1 a1_1 =
  f67_l0 run n n a1_1 0 false a0_1 (a0_1.length:Int) 0:=by kernel_rfl
theorem f67_run (ext:Run) (n:Nat) (a0_1:List AV) (a1_1:Int):runE G ext (n+1) 67 [.slice a0_1,.int a1_1]=f67 (runE G ext n) n a0_1 a1_1:=runE_succ f67_at f67_in
noncomputable def f35_l0 (run:Run) (n k0:Nat) (x0_1:List AV) (x1_1 x2_1:Int) (x7_1:List AV):Option Res :=
  iterK (evalK G run n f35_keep 0 (sub [1,1,1,0,0,0] f35_body)) f35_t0 f35_o0 (blockK 0 (seqK (evalK G run n f35_keep 0 (sub [1,1,1,1] f35_body) (retE G f35_info)) (retE G f35_info))) k0
    ⟨[.val (.slice (.int .i64)) none (.slice x0_1),.val (.int .i64) none (.int x1_1),.val (.int .i64) none (.int x2_1),qa,qa,qa,qa,.val (.slice (.int .i64)) (some (7,0)) (.slice x7_1),qa,qa,qa,qa,qa,qa,qa,qa,qa,qa,qa,qa,qa,qa,qa,qa,qa,qa,qa,qa,qa,qa,qa,qa,qa,qa,qa,qa,qa,qa,qa,qa,qa,qa,qa,.any],[qz,qz,qz,qz,qz,qz,qz,qz,qz,qz,qz,qz,qz,qz,qz,qz,qz,qz,qz,qz,qz,qz,qz,qz,qz,qz,qz,qz,qz,qz,qz,qz,qz,qz,qz,qz,qz,qz,qz,qz,qz,qz,qz,qz],List.replicate 44 0⟩
theorem f35_l0_eq (run:Run) (n k0:Nat) (x0_1:List AV) (x1_1 x2_1:Int) (x7_1:List AV):f35_l0 run n (k0+1) x0_1 x1_1 x2_1 x7_1 =
  bif ltI x2_1 x1_1 then
    (run 68 [.slice x0_1,.int x1_1]).bind fun r1 =>
    bif r1.fresh then
    nilV r1.outs (consV r1.vals fun v1 vs1 =>
    nilV vs1 ((run 67 [.slice v1.toSlice,.int x2_1]).bind fun r2 =>
    nilV r2.outs (consV r2.vals fun v2 vs2 =>
    consV vs2 fun v3 vs3 =>
    nilV vs3 (bif !v3.toBool then
    some ⟨[.slice []],[],f35_fresh⟩
  else
    bif Nat.ble ((x7_1.length+1)*8) 140737488355328 then
    f35_l0 run n k0 x0_1 v2.toInt x2_1 (x7_1++[.int v2.toInt])
  else none))))
  else none
  else
    some ⟨[.slice x7_1],[],f35_fresh⟩:=by kernel_rfl
noncomputable def f35 (run:Run) (n:Nat) (a0_1:List AV) (a1_1 a2_1:Int):Option Res:=evalK G run n f35_info.keep 0 f35_info.body (retE G f35_info) (f35_info.start [.slice a0_1,.int a1_1,.int a2_1])
theorem f35_eq (run:Run) (n:Nat) (a0_1:List AV) (a1_1 a2_1:Int):f35 run n a0_1 a1_1 a2_1 =
  bif ltI a2_1 0 then
    some ⟨[.slice []],[],f35_fresh⟩
  else
    bif ltI a1_1 a2_1 then
    some ⟨[.slice []],[],f35_fresh⟩
  else
    bif leI (a0_1.length:Int) a1_1 then
    some ⟨[.slice []],[],f35_fresh⟩
  else
    f35_l0 run n n a0_1 a1_1 a2_1 [.int a1_1]:=by kernel_rfl
theorem f35_run (ext:Run) (n:Nat) (a0_1:List AV) (a1_1 a2_1:Int):runE G ext (n+1) 35 [.slice a0_1,.int a1_1,.int a2_1]=f35 (runE G ext n) n a0_1 a1_1 a2_1:=runE_succ f35_at f35_in
end Go.Proofs.YteiahdlklppghaaGreat.Ev

