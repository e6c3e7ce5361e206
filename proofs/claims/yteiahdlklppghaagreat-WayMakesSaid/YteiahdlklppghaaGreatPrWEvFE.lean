import Derived.Test.YteiahdlklppghaaGreatPrWEvFA
namespace Go.Proofs.YteiahdlklppghaaGreat.Ev
open Go Go.RowKit
set_option maxRecDepth 100000
noncomputable def f91_l4 (run:Run) (n _k0:Nat) (k2 k4:Nat) (x6_2:Int) (x7_1:List UInt8) (x8_1:Int) (o2_4:List UInt8) (o3_4:List AV) (o5_2:List UInt8):Option Res :=
  iterK (evalK G run n f91_keep 4 (sub [1,1,1,1,1,0,1,0,0,1,0,0,1,1,0,0] f91_body)) f91_t4 f91_o4 (blockK 4 (blockK 3 (seqK (evalK G run n f91_keep 2 (sub [1,1,1,1,1,0,1,0,0,1,1] f91_body) (seqK (fun t=>iterK (evalK G run n f91_keep 2 (sub [1,1,1,1,1,0,1,0,0] f91_body)) f91_t2 f91_o2 (blockK 2 (seqK (evalK G run n f91_keep 0 (sub [1,1,1,1,1,1] f91_body) (retE G f91_info)) (retE G f91_info))) k2 (t.clear f91_t2 f91_o2)) (blockK 2 (seqK (evalK G run n f91_keep 0 (sub [1,1,1,1,1,1] f91_body) (retE G f91_info)) (retE G f91_info))))) (seqK (fun t=>iterK (evalK G run n f91_keep 2 (sub [1,1,1,1,1,0,1,0,0] f91_body)) f91_t2 f91_o2 (blockK 2 (seqK (evalK G run n f91_keep 0 (sub [1,1,1,1,1,1] f91_body) (retE G f91_info)) (retE G f91_info))) k2 (t.clear f91_t2 f91_o2)) (blockK 2 (seqK (evalK G run n f91_keep 0 (sub [1,1,1,1,1,1] f91_body) (retE G f91_info)) (retE G f91_info))))))) k4
    ⟨[qa,qa,.ptr ⟨(.blob 32),2,1,[]⟩,.ptr ⟨(.arr 8 (.int .u32)),3,1,[]⟩,qa,.ptr ⟨(.blob 32),5,1,[]⟩,.val (.int .i64) none (.int x6_2),.val .str none (.str x7_1),.val (.int .i64) none (.int x8_1),qa,qa,qa,qa,qa,qa,qa,qa,qa,qa,qa,qa,qa,qa,qa,qa,qa,qa,qa,qa,qa,qa,qa,qa,qa,qa,qa,qa,qa,qa,qa,qa,qa,qa,qa,qa,qa,qa,qa,qa,qa,.any],[qz,qz,⟨1,some ⟨(.blob 32),.blob o2_4⟩⟩,⟨1,some ⟨(.arr 8 (.int .u32)),.agg o3_4⟩⟩,qz,⟨1,some ⟨(.blob 32),.blob o5_2⟩⟩,qz,qz,qz,qz,qz,qz,qz,qz,qz,qz,qz,qz,qz,qz,qz,qz,qz,qz,qz,qz,qz,qz,qz,qz,qz,qz,qz,qz,qz,qz,qz,qz,qz,qz,qz,qz,qz,qz,qz,qz,qz,qz,qz,qz,qz],List.replicate 51 0⟩
noncomputable def f91_l2 (run:Run) (n _k0 k2:Nat) (x6_1:Int) (o2_3:List UInt8) (o3_3:List AV) (o5_1:List UInt8):Option Res :=
  iterK (evalK G run n f91_keep 2 (sub [1,1,1,1,1,0,1,0,0] f91_body)) f91_t2 f91_o2 (blockK 2 (seqK (evalK G run n f91_keep 0 (sub [1,1,1,1,1,1] f91_body) (retE G f91_info)) (retE G f91_info))) k2
    ⟨[qa,qa,.ptr ⟨(.blob 32),2,1,[]⟩,.ptr ⟨(.arr 8 (.int .u32)),3,1,[]⟩,qa,.ptr ⟨(.blob 32),5,1,[]⟩,.val (.int .i64) none (.int x6_1),qa,qa,qa,qa,qa,qa,qa,qa,qa,qa,qa,qa,qa,qa,qa,qa,qa,qa,qa,qa,qa,qa,qa,qa,qa,qa,qa,qa,qa,qa,qa,qa,qa,qa,qa,qa,qa,qa,qa,qa,qa,qa,qa,.any],[qz,qz,⟨1,some ⟨(.blob 32),.blob o2_3⟩⟩,⟨1,some ⟨(.arr 8 (.int .u32)),.agg o3_3⟩⟩,qz,⟨1,some ⟨(.blob 32),.blob o5_1⟩⟩,qz,qz,qz,qz,qz,qz,qz,qz,qz,qz,qz,qz,qz,qz,qz,qz,qz,qz,qz,qz,qz,qz,qz,qz,qz,qz,qz,qz,qz,qz,qz,qz,qz,qz,qz,qz,qz,qz,qz,qz,qz,qz,qz,qz,qz],List.replicate 51 0⟩
noncomputable def f91_l0 (run:Run) (n k0:Nat) (x0_1:List UInt8) (x4_1:Int) (o2_1:List UInt8) (o3_1:List AV):Option Res :=
  iterK (evalK G run n f91_keep 0 (sub [1,1,1,0,1,0,0] f91_body)) f91_t0 f91_o0 (blockK 0 (seqK (evalK G run n f91_keep 0 (sub [1,1,1,1] f91_body) (retE G f91_info)) (retE G f91_info))) k0
    ⟨[.val .str none (.str x0_1),qa,.ptr ⟨(.blob 32),2,1,[]⟩,.ptr ⟨(.arr 8 (.int .u32)),3,1,[]⟩,.val (.int .i64) none (.int x4_1),qa,qa,qa,qa,qa,qa,qa,qa,qa,qa,qa,qa,qa,qa,qa,qa,qa,qa,qa,qa,qa,qa,qa,qa,qa,qa,qa,qa,qa,qa,qa,qa,qa,qa,qa,qa,qa,qa,qa,qa,qa,qa,qa,qa,qa,.any],[qz,qz,⟨1,some ⟨(.blob 32),.blob o2_1⟩⟩,⟨1,some ⟨(.arr 8 (.int .u32)),.agg o3_1⟩⟩,qz,qz,qz,qz,qz,qz,qz,qz,qz,qz,qz,qz,qz,qz,qz,qz,qz,qz,qz,qz,qz,qz,qz,qz,qz,qz,qz,qz,qz,qz,qz,qz,qz,qz,qz,qz,qz,qz,qz,qz,qz,qz,qz,qz,qz,qz,qz],List.replicate 51 0⟩
theorem f91_l4_eq (run:Run) (n k0:Nat) (k2 k4:Nat) (x6_2:Int) (x7_1:List UInt8) (x8_1:Int) (o2_4:List UInt8) (o3_4:List AV) (o5_2:List UInt8):f91_l4 run n k0 k2 (k4+1) x6_2 x7_1 x8_1 o2_4 o3_4 o5_2 =
  bif ltI x8_1 4 then
    bif inR x8_1 x7_1.length then
    bif inR (IntKind.wrap .i64 (IntKind.wrap .i64 (4*x6_2)+x8_1)) 32 then
    f91_l4 run n k0 k2 k4 x6_2 x7_1 (IntKind.wrap .i64 (x8_1+1)) o2_4 o3_4 (o5_2.set (Int.toNat (IntKind.wrap .i64 (IntKind.wrap .i64 (4*x6_2)+x8_1))) (UInt8.ofNat (Int.toNat ((x7_1.getD (Int.toNat x8_1) 0).toNat:Int))))
  else none
  else none
  else
    f91_l2 run n k0 k2 (IntKind.wrap .i64 (x6_2+1)) o2_4 o3_4 o5_2:=by kernel_rfl
theorem f91_l2_eq (run:Run) (n k0 k2:Nat) (x6_1:Int) (o2_3:List UInt8) (o3_3:List AV) (o5_1:List UInt8):f91_l2 run n k0 (k2+1) x6_1 o2_3 o3_3 o5_1 =
  bif ltI x6_1 8 then
    bif inR x6_1 8 then
    (run 121 [.int (IntKind.wrap .u64 ((AV.fld (.agg o3_3) (Int.toNat x6_1)).toInt)),.int 4]).bind fun r4 =>
    nilV r4.outs (consV r4.vals fun v4 vs4 =>
    nilV vs4 (f91_l4 run n k0 k2 n x6_1 v4.toStr 0 o2_3 o3_3 o5_1))
  else none
  else
    some ⟨[.blob o5_1],[],f91_fresh⟩:=by kernel_rfl
theorem f91_l0_eq (run:Run) (n k0:Nat) (x0_1:List UInt8) (x4_1:Int) (o2_1:List UInt8) (o3_1:List AV):f91_l0 run n (k0+1) x0_1 x4_1 o2_1 o3_1 =
  bif ltI x4_1 (x0_1.length:Int) then
    bif boundsOk x4_1 (IntKind.wrap .i64 (x4_1+64)) (x0_1.length:Int) (x0_1.length:Int) then
    (run 120 [.agg o3_1,.str (List.drop (Int.toNat x4_1) (List.take (Int.toNat (IntKind.wrap .i64 (x4_1+64))) x0_1))]).bind fun r3 =>
    nilV r3.outs (consV r3.vals fun v3 vs3 =>
    nilV vs3 (f91_l0 run n k0 x0_1 (IntKind.wrap .i64 (x4_1+64)) o2_1 v3.toAgg))
  else none
  else
    f91_l2 run n k0 n 0 o2_1 o3_1 (List.replicate 32 0):=by kernel_rfl
noncomputable def f91 (run:Run) (n:Nat) (a0_1:List UInt8):Option Res:=evalK G run n f91_info.keep 0 f91_info.body (retE G f91_info) (f91_info.start [.str a0_1])
theorem f91_eq (run:Run) (n:Nat) (a0_1:List UInt8):f91 run n a0_1 =
  (run 118 []).bind fun r1 =>
    nilV r1.outs (consV r1.vals fun v1 vs1 =>
    nilV vs1 ((run 119 [.int (IntKind.wrap .u64 (a0_1.length:Int))]).bind fun r2 =>
    nilV r2.outs (consV r2.vals fun v2 vs2 =>
    nilV vs2 (bif Nat.ble (a0_1.length+v2.toStr.length) maxLen then
    f91_l0 run n n (a0_1++v2.toStr) 0 (List.replicate 32 0) v1.toAgg
  else none)))):=by kernel_rfl
theorem f91_run (ext:Run) (n:Nat) (a0_1:List UInt8):runE G ext (n+1) 91 [.str a0_1]=f91 (runE G ext n) n a0_1:=runE_succ f91_at f91_in
noncomputable def f58 (run:Run) (n:Nat) (a0_1:Int) (a0_2 a0_3:List UInt8) (a0_4:Int):Option Res:=evalK G run n f58_info.keep 0 f58_info.body (retE G f58_info) (f58_info.start [.agg [.int a0_1,.blob a0_2,.blob a0_3,.int a0_4]])
theorem f58_eq (run:Run) (n:Nat) (a0_1:Int) (a0_2 a0_3:List UInt8) (a0_4:Int):f58 run n a0_1 a0_2 a0_3 a0_4 =
  (run 93 [.agg [.int a0_1,.blob a0_2,.blob a0_3,.int a0_4]]).bind fun r1 =>
    nilV r1.outs (consV r1.vals fun v1 vs1 =>
    nilV vs1 ((run 92 [.str v1.toStr]).bind fun r2 =>
    nilV r2.outs (consV r2.vals fun v2 vs2 =>
    nilV vs2 ((run 91 [.str v2.toStr]).bind fun r3 =>
    nilV r3.outs (consV r3.vals fun v3 vs3 =>
    nilV vs3 (some ⟨[.blob v3.toBlob],[],f58_fresh⟩)))))):=by kernel_rfl
theorem f58_run (ext:Run) (n:Nat) (a0_1:Int) (a0_2 a0_3:List UInt8) (a0_4:Int):runE G ext (n+1) 58 [.agg [.int a0_1,.blob a0_2,.blob a0_3,.int a0_4]]=f58 (runE G ext n) n a0_1 a0_2 a0_3 a0_4:=runE_succ f58_at f58_in
noncomputable def f29_l0 (run:Run) (n k0:Nat) (x0_1 x3_1:List AV) (x4_1:Int):Option Res :=
  iterK (evalK G run n f29_keep 0 (sub [1,1,0,1,0,0] f29_body)) f29_t0 f29_o0 (blockK 0 (seqK (evalK G run n f29_keep 0 (sub [1,1,1] f29_body) (retE G f29_info)) (retE G f29_info))) k0
    ⟨[.val (.slice (.struct [(.struct [(.int .u32),(.blob 32),(.blob 32),(.int .u64)]),(.slice .str)])) none (.slice x0_1),qa,qa,.val (.slice (.blob 32)) (some (3,0)) (.slice x3_1),.val (.int .i64) none (.int x4_1),qa,qa,qa,qa,qa,qa,qa,qa,qa,qa,qa,qa,qa,qa,qa,.any],[qz,qz,qz,qz,qz,qz,qz,qz,qz,qz,qz,qz,qz,qz,qz,qz,qz,qz,qz,qz,qz],List.replicate 21 0⟩
theorem f29_l0_eq (run:Run) (n k0:Nat) (x0_1 x3_1:List AV) (x4_1:Int):f29_l0 run n (k0+1) x0_1 x3_1 x4_1 =
  bif ltI x4_1 (x0_1.length:Int) then
    bif inR x4_1 x0_1.length then
    (run 58 [.agg [.int ((((nth x0_1 (Int.toNat x4_1)).fld 0).fld 0).toInt),.blob ((((nth x0_1 (Int.toNat x4_1)).fld 0).fld 1).toBlob),.blob ((((nth x0_1 (Int.toNat x4_1)).fld 0).fld 2).toBlob),.int ((((nth x0_1 (Int.toNat x4_1)).fld 0).fld 3).toInt)]]).bind fun r1 =>
    nilV r1.outs (consV r1.vals fun v1 vs1 =>
    nilV vs1 (bif Nat.ble ((x3_1.length+1)*32) 140737488355328 then
    f29_l0 run n k0 x0_1 (x3_1++[.blob v1.toBlob]) (IntKind.wrap .i64 (x4_1+1))
  else none))
  else none
  else
    some ⟨[.slice x3_1],[],f29_fresh⟩:=by kernel_rfl
noncomputable def f29 (run:Run) (n:Nat) (a0_1:List AV):Option Res:=evalK G run n f29_info.keep 0 f29_info.body (retE G f29_info) (f29_info.start [.slice a0_1])
theorem f29_eq (run:Run) (n:Nat) (a0_1:List AV):f29 run n a0_1 =
  f29_l0 run n n a0_1 [] 0:=by kernel_rfl
theorem f29_run (ext:Run) (n:Nat) (a0_1:List AV):runE G ext (n+1) 29 [.slice a0_1]=f29 (runE G ext n) n a0_1:=runE_succ f29_at f29_in
noncomputable def f88_l2 (run:Run) (n k0 k2:Nat) (x3_2:List AV) (x4_2 x5_1 x6_1:Int) (o1_2:List UInt8):Option Res :=
  iterK (evalK G run n f88_keep 2 (sub [1,1,0,1,0,0,1,0,0,1,1,0,0] f88_body)) f88_t2 f88_o2 (blockK 2 (blockK 1 (seqK (evalK G run n f88_keep 0 (sub [1,1,0,1,0,0,1,1] f88_body) (seqK (fun t=>iterK (evalK G run n f88_keep 0 (sub [1,1,0,1,0,0] f88_body)) f88_t0 f88_o0 (blockK 0 (seqK (evalK G run n f88_keep 0 (sub [1,1,1] f88_body) (retE G f88_info)) (retE G f88_info))) k0 (t.clear f88_t0 f88_o0)) (blockK 0 (seqK (evalK G run n f88_keep 0 (sub [1,1,1] f88_body) (retE G f88_info)) (retE G f88_info))))) (seqK (fun t=>iterK (evalK G run n f88_keep 0 (sub [1,1,0,1,0,0] f88_body)) f88_t0 f88_o0 (blockK 0 (seqK (evalK G run n f88_keep 0 (sub [1,1,1] f88_body) (retE G f88_info)) (retE G f88_info))) k0 (t.clear f88_t0 f88_o0)) (blockK 0 (seqK (evalK G run n f88_keep 0 (sub [1,1,1] f88_body) (retE G f88_info)) (retE G f88_info))))))) k2
    ⟨[qa,.ptr ⟨(.blob 32),1,1,[]⟩,qa,.val (.slice .bool) (some (3,0)) (.slice x3_2),.val (.int .i64) none (.int x4_2),.val (.int .i64) none (.int x5_1),.val (.int .i64) none (.int x6_1),qa,qa,qa,qa,qa,qa,qa,qa,qa,qa,qa,qa,qa,qa,qa,qa,qa,qa,qa,qa,.any],[qz,⟨1,some ⟨(.blob 32),.blob o1_2⟩⟩,qz,qz,qz,qz,qz,qz,qz,qz,qz,qz,qz,qz,qz,qz,qz,qz,qz,qz,qz,qz,qz,qz,qz,qz,qz,qz],List.replicate 28 0⟩
noncomputable def f88_l0 (run:Run) (n k0:Nat) (x3_1:List AV) (x4_1:Int) (o1_1:List UInt8):Option Res :=
  iterK (evalK G run n f88_keep 0 (sub [1,1,0,1,0,0] f88_body)) f88_t0 f88_o0 (blockK 0 (seqK (evalK G run n f88_keep 0 (sub [1,1,1] f88_body) (retE G f88_info)) (retE G f88_info))) k0
    ⟨[qa,.ptr ⟨(.blob 32),1,1,[]⟩,qa,.val (.slice .bool) (some (3,0)) (.slice x3_1),.val (.int .i64) none (.int x4_1),qa,qa,qa,qa,qa,qa,qa,qa,qa,qa,qa,qa,qa,qa,qa,qa,qa,qa,qa,qa,qa,qa,.any],[qz,⟨1,some ⟨(.blob 32),.blob o1_1⟩⟩,qz,qz,qz,qz,qz,qz,qz,qz,qz,qz,qz,qz,qz,qz,qz,qz,qz,qz,qz,qz,qz,qz,qz,qz,qz,qz],List.replicate 28 0⟩
theorem f88_l2_eq (run:Run) (n k0 k2:Nat) (x3_2:List AV) (x4_2 x5_1 x6_1:Int) (o1_2:List UInt8):f88_l2 run n k0 (k2+1) x3_2 x4_2 x5_1 x6_1 o1_2 =
  bif ltI x6_1 8 then
    bif Nat.ble ((x3_2.length+1)*1) 140737488355328 then
    f88_l2 run n k0 k2 (x3_2++[.bool (eqI (Int.tmod x5_1 2) 1)]) x4_2 (IntKind.wrap .i64 (Int.tdiv x5_1 2)) (IntKind.wrap .i64 (x6_1+1)) o1_2
  else none
  else
    f88_l0 run n k0 x3_2 (IntKind.wrap .i64 (x4_2-1)) o1_2:=by kernel_rfl
theorem f88_l0_eq (run:Run) (n k0:Nat) (x3_1:List AV) (x4_1:Int) (o1_1:List UInt8):f88_l0 run n (k0+1) x3_1 x4_1 o1_1 =
  bif leI 0 x4_1 then
    bif inR x4_1 32 then
    f88_l2 run n k0 n x3_1 x4_1 (IntKind.wrap .i64 (((o1_1).getD (Int.toNat x4_1) 0).toNat:Int)) 0 o1_1
  else none
  else
    some ⟨[.slice x3_1],[],f88_fresh⟩:=by kernel_rfl
noncomputable def f88 (run:Run) (n:Nat) (a0_1:List UInt8):Option Res:=evalK G run n f88_info.keep 0 f88_info.body (retE G f88_info) (f88_info.start [.blob a0_1])
theorem f88_eq (run:Run) (n:Nat) (a0_1:List UInt8):f88 run n a0_1 =
  f88_l0 run n n [] 31 a0_1:=by kernel_rfl
theorem f88_run (ext:Run) (n:Nat) (a0_1:List UInt8):runE G ext (n+1) 88 [.blob a0_1]=f88 (runE G ext n) n a0_1:=runE_succ f88_at f88_in
noncomputable def f90_l0 (run:Run) (n k0:Nat) (x0_1:List AV) (x1_1:Int) (m1:Nat) (x6_1:Int) (o9_1:List AV):Option Res :=
  iterK (evalK G run n f90_keep 0 (sub [1,1,0,1,0,0] f90_body)) f90_t0 f90_o0 (blockK 0 (seqK (evalK G run n f90_keep 0 (sub [1,1,1] f90_body) (retE G f90_info)) (retE G f90_info))) k0
    ⟨[.val (.slice .bool) none (.slice x0_1),.val (.int .i64) none (.int x1_1),qa,qa,qa,.ref ⟨(.arr m1 .bool),9,1,[]⟩ 0 m1,.val (.int .i64) none (.int x6_1),qa,qa,qa,qa,qa,qa,qa,qa,qa,qa,qa,qa,qa,qa,qa,qa,qa,qa,qa,qa,qa,qa,qa,qa,qa,qa,qa,qa,qa,qa,qa,qa,qa,.any],[qz,qz,qz,qz,qz,qz,qz,qz,qz,⟨1,some ⟨(.arr m1 .bool),.agg o9_1⟩⟩,qz,qz,qz,qz,qz,qz,qz,qz,qz,qz,qz,qz,qz,qz,qz,qz,qz,qz,qz,qz,qz,qz,qz,qz,qz,qz,qz,qz,qz,qz,qz],List.replicate 41 0⟩
theorem f90_l0_eq (run:Run) (n k0:Nat) (x0_1:List AV) (x1_1:Int) (m1:Nat) (x6_1:Int) (o9_1:List AV):f90_l0 run n (k0+1) x0_1 x1_1 m1 x6_1 o9_1 =
  bif ltI x6_1 (x0_1.length:Int) then
    bif leI x1_1 0 then
    bif inR x6_1 x0_1.length then
    bif inR x6_1 m1 then
    f90_l0 run n k0 x0_1 x1_1 m1 (IntKind.wrap .i64 (x6_1+1)) (o9_1.set (0+(Int.toNat x6_1)) (.bool ((nth x0_1 (Int.toNat x6_1)).toBool)))
  else none
  else none
  else
    bif ltI x1_1 (IntKind.wrap .i64 ((x0_1.length:Int)-x6_1)) then
    bif inR (IntKind.wrap .i64 (x6_1+x1_1)) x0_1.length then
    bif inR x6_1 m1 then
    f90_l0 run n k0 x0_1 x1_1 m1 (IntKind.wrap .i64 (x6_1+1)) (o9_1.set (0+(Int.toNat x6_1)) (.bool ((nth x0_1 (Int.toNat (IntKind.wrap .i64 (x6_1+x1_1)))).toBool)))
  else none
  else none
  else
    f90_l0 run n k0 x0_1 x1_1 m1 (IntKind.wrap .i64 (x6_1+1)) o9_1
  else
    some ⟨[.slice (List.drop 0 (List.take m1 o9_1))],[],f90_fresh⟩:=by kernel_rfl
noncomputable def f90 (run:Run) (n:Nat) (a0_1:List AV) (a1_1:Int):Option Res:=evalK G run n f90_info.keep 0 f90_info.body (retE G f90_info) (f90_info.start [.slice a0_1,.int a1_1])
theorem f90_eq (run:Run) (n:Nat) (a0_1:List AV) (a1_1:Int):f90 run n a0_1 a1_1 =
  bif eqI (a0_1.length:Int) (a0_1.length:Int)&&leI 0 (a0_1.length:Int)&&Nat.ble (Int.toNat (a0_1.length:Int)*1) 140737488355328 then
    f90_l0 run n n a0_1 a1_1 (Int.toNat (a0_1.length:Int)) 0 (List.replicate (Int.toNat (a0_1.length:Int)) (.bool false))
  else none:=by kernel_rfl
theorem f90_run (ext:Run) (n:Nat) (a0_1:List AV) (a1_1:Int):runE G ext (n+1) 90 [.slice a0_1,.int a1_1]=f90 (runE G ext n) n a0_1 a1_1:=runE_succ f90_at f90_in
noncomputable def f89_l0 (run:Run) (n k0:Nat) (x0_1 x1_1:List AV) (x5_1:Int):Option Res :=
  iterK (evalK G run n f89_keep 0 (sub [1,0,1,0,0] f89_body)) f89_t0 f89_o0 (blockK 0 (seqK (evalK G run n f89_keep 0 (sub [1,1] f89_body) (retE G f89_info)) (retE G f89_info))) k0
    ⟨[.val (.slice .bool) none (.slice x0_1),.val (.slice .bool) none (.slice x1_1),qa,qa,qa,.val (.int .i64) none (.int x5_1),qa,qa,qa,qa,qa,qa,qa,qa,qa,qa,qa,qa,qa,qa,qa,qa,qa,qa,qa,.any],[qz,qz,qz,qz,qz,qz,qz,qz,qz,qz,qz,qz,qz,qz,qz,qz,qz,qz,qz,qz,qz,qz,qz,qz,qz,qz],List.replicate 26 0⟩
theorem f89_l0_eq (run:Run) (n k0:Nat) (x0_1 x1_1:List AV) (x5_1:Int):f89_l0 run n (k0+1) x0_1 x1_1 x5_1 =
  bif leI 0 x5_1 then
    bif inR x5_1 x0_1.length then
    bif inR x5_1 x1_1.length then
    bif !(eqO ((nth x0_1 (Int.toNat x5_1)).toBool) ((nth x1_1 (Int.toNat x5_1)).toBool)) then
    bif inR x5_1 x0_1.length then
    bif (nth x0_1 (Int.toNat x5_1)).toBool then
    some ⟨[.int 1],[],f89_fresh⟩
  else
    some ⟨[.int (-1)],[],f89_fresh⟩
  else none
  else
    f89_l0 run n k0 x0_1 x1_1 (IntKind.wrap .i64 (x5_1-1))
  else none
  else none
  else
    some ⟨[.int 0],[],f89_fresh⟩:=by kernel_rfl
noncomputable def f89 (run:Run) (n:Nat) (a0_1 a1_1:List AV):Option Res:=evalK G run n f89_info.keep 0 f89_info.body (retE G f89_info) (f89_info.start [.slice a0_1,.slice a1_1])
theorem f89_eq (run:Run) (n:Nat) (a0_1 a1_1:List AV):f89 run n a0_1 a1_1 =
  f89_l0 run n n a0_1 a1_1 (IntKind.wrap .i64 ((a0_1.length:Int)-1)):=by kernel_rfl
theorem f89_run (ext:Run) (n:Nat) (a0_1 a1_1:List AV):runE G ext (n+1) 89 [.slice a0_1,.slice a1_1]=f89 (runE G ext n) n a0_1 a1_1:=runE_succ f89_at f89_in
noncomputable def f57_l0 (run:Run) (n k0:Nat) (x5_1 x6_1:List AV) (x7_1:Int):Option Res :=
  iterK (evalK G run n f57_keep 0 (sub [1,1,1,1,0,0,0] f57_body)) f57_t0 f57_o0 (blockK 0 (seqK (evalK G run n f57_keep 0 (sub [1,1,1,1,1] f57_body) (retE G f57_info)) (retE G f57_info))) k0
    ⟨[qa,qa,qa,qa,qa,.val (.slice .bool) (some (5,0)) (.slice x5_1),.val (.slice .bool) (some (6,0)) (.slice x6_1),.val (.int .i64) none (.int x7_1),qa,qa,qa,qa,qa,qa,qa,qa,qa,qa,qa,qa,qa,qa,qa,qa,qa,.any],[qz,qz,qz,qz,qz,qz,qz,qz,qz,qz,qz,qz,qz,qz,qz,qz,qz,qz,qz,qz,qz,qz,qz,qz,qz,qz],List.replicate 26 0⟩
theorem f57_l0_eq (run:Run) (n k0:Nat) (x5_1 x6_1:List AV) (x7_1:Int):f57_l0 run n (k0+1) x5_1 x6_1 x7_1 =
  bif ltI x7_1 256 then
    (run 90 [.slice x6_1,.int x7_1]).bind fun r3 =>
    nilV r3.outs (consV r3.vals fun v3 vs3 =>
    nilV vs3 ((run 89 [.slice x5_1,.slice v3.toSlice]).bind fun r4 =>
    nilV r4.outs (consV r4.vals fun v4 vs4 =>
    nilV vs4 (bif leI v4.toInt 0 then
    f57_l0 run n k0 x5_1 x6_1 (IntKind.wrap .i64 (x7_1+1))
  else
    some ⟨[.int (IntKind.wrap .i64 (x7_1-1))],[],f57_fresh⟩))))
  else
    some ⟨[.int (IntKind.wrap .i64 (x7_1-1))],[],f57_fresh⟩:=by kernel_rfl
noncomputable def f57 (run:Run) (n:Nat) (a0_1 a1_1:List UInt8):Option Res:=evalK G run n f57_info.keep 0 f57_info.body (retE G f57_info) (f57_info.start [.blob a0_1,.blob a1_1])
theorem f57_eq (run:Run) (n:Nat) (a0_1 a1_1:List UInt8):f57 run n a0_1 a1_1 =
  (run 88 [.blob a0_1]).bind fun r1 =>
    bif r1.fresh then
    nilV r1.outs (consV r1.vals fun v1 vs1 =>
    nilV vs1 ((run 88 [.blob a1_1]).bind fun r2 =>
    bif r2.fresh then
    nilV r2.outs (consV r2.vals fun v2 vs2 =>
    nilV vs2 (f57_l0 run n n v1.toSlice v2.toSlice 0))
  else none))
  else none:=by kernel_rfl
theorem f57_run (ext:Run) (n:Nat) (a0_1 a1_1:List UInt8):runE G ext (n+1) 57 [.blob a0_1,.blob a1_1]=f57 (runE G ext n) n a0_1 a1_1:=runE_succ f57_at f57_in
noncomputable def f28_l0 (run:Run) (n k0:Nat) (x1_1 x5_1:List AV) (x6_1:Int) (o2_1:List UInt8):Option Res :=
  iterK (evalK G run n f28_keep 0 (sub [1,1,0,1,0,0] f28_body)) f28_t0 f28_o0 (blockK 0 (seqK (evalK G run n f28_keep 0 (sub [1,1,1] f28_body) (retE G f28_info)) (retE G f28_info))) k0
    ⟨[qa,.val (.slice (.blob 32)) none (.slice x1_1),.ptr ⟨(.blob 32),2,1,[]⟩,qa,qa,.val (.slice (.int .i64)) (some (5,0)) (.slice x5_1),.val (.int .i64) none (.int x6_1),qa,qa,qa,qa,qa,qa,qa,qa,qa,qa,qa,qa,qa,qa,qa,qa,qa,qa,qa,qa,.any],[qz,qz,⟨1,some ⟨(.blob 32),.blob o2_1⟩⟩,qz,qz,qz,qz,qz,qz,qz,qz,qz,qz,qz,qz,qz,qz,qz,qz,qz,qz,qz,qz,qz,qz,qz,qz,qz],List.replicate 28 0⟩
theorem f28_l0_eq (run:Run) (n k0:Nat) (x1_1 x5_1:List AV) (x6_1:Int) (o2_1:List UInt8):f28_l0 run n (k0+1) x1_1 x5_1 x6_1 o2_1 =
  bif ltI x6_1 (x1_1.length:Int) then
    bif eqI x6_1 0 then
    bif Nat.ble ((x5_1.length+1)*8) 140737488355328 then
    f28_l0 run n k0 x1_1 (x5_1++[.int 256]) (IntKind.wrap .i64 (x6_1+1)) o2_1
  else none
  else
    bif inR x6_1 x1_1.length then
    (run 57 [.blob ((nth x1_1 (Int.toNat x6_1)).toBlob),.blob o2_1]).bind fun r1 =>
    nilV r1.outs (consV r1.vals fun v1 vs1 =>
    nilV vs1 (bif Nat.ble ((x5_1.length+1)*8) 140737488355328 then
    f28_l0 run n k0 x1_1 (x5_1++[.int v1.toInt]) (IntKind.wrap .i64 (x6_1+1)) o2_1
  else none))
  else none
  else
    some ⟨[.slice x5_1],[],f28_fresh⟩:=by kernel_rfl
noncomputable def f28 (run:Run) (n:Nat) (a0_1:List UInt8) (a1_1:List AV):Option Res:=evalK G run n f28_info.keep 0 f28_info.body (retE G f28_info) (f28_info.start [.blob a0_1,.slice a1_1])
theorem f28_eq (run:Run) (n:Nat) (a0_1:List UInt8) (a1_1:List AV):f28 run n a0_1 a1_1 =
  f28_l0 run n n a1_1 [] 0 a0_1:=by kernel_rfl
theorem f28_run (ext:Run) (n:Nat) (a0_1:List UInt8) (a1_1:List AV):runE G ext (n+1) 28 [.blob a0_1,.slice a1_1]=f28 (runE G ext n) n a0_1 a1_1:=runE_succ f28_at f28_in
noncomputable def f80_l0 (run:Run) (n k0:Nat) (x0_1:List AV) (x2_1 x7_1:Int) (x8_1:List AV) (x9_1:Int) (o4_1:List UInt8):Option Res :=
  iterK (evalK G run n f80_keep 0 (sub [1,1,1,1,1,1,1,0,1,0,0] f80_body)) f80_t0 f80_o0 (blockK 0 (seqK (evalK G run n f80_keep 0 (sub [1,1,1,1,1,1,1,1] f80_body) (retE G f80_info)) (retE G f80_info))) k0
    ⟨[.val (.slice (.blob 32)) none (.slice x0_1),qa,.val (.int .i64) none (.int x2_1),qa,.ptr ⟨(.blob 32),4,1,[]⟩,qa,qa,.val (.int .i64) none (.int x7_1),.val (.slice (.blob 32)) (some (8,0)) (.slice x8_1),.val (.int .i64) none (.int x9_1),qa,qa,qa,qa,qa,qa,qa,qa,qa,qa,qa,qa,qa,qa,qa,qa,qa,qa,qa,qa,qa,qa,qa,qa,qa,qa,qa,qa,qa,qa,qa,qa,qa,qa,qa,qa,qa,qa,qa,qa,qa,qa,qa,qa,qa,qa,qa,qa,qa,qa,qa,qa,qa,.any],[qz,qz,qz,qz,⟨1,some ⟨(.blob 32),.blob o4_1⟩⟩,qz,qz,qz,qz,qz,qz,qz,qz,qz,qz,qz,qz,qz,qz,qz,qz,qz,qz,qz,qz,qz,qz,qz,qz,qz,qz,qz,qz,qz,qz,qz,qz,qz,qz,qz,qz,qz,qz,qz,qz,qz,qz,qz,qz,qz,qz,qz,qz,qz,qz,qz,qz,qz,qz,qz,qz,qz,qz,qz],List.replicate 64 0⟩
theorem f80_l0_eq (run:Run) (n k0:Nat) (x0_1:List AV) (x2_1 x7_1:Int) (x8_1:List AV) (x9_1:Int) (o4_1:List UInt8):f80_l0 run n (k0+1) x0_1 x2_1 x7_1 x8_1 x9_1 o4_1 =
  bif ltI x9_1 x7_1 then
    bif leI x9_1 x2_1 then
    bif ltI x9_1 (IntKind.wrap .i64 (x7_1-1)) then
    bif Nat.ble ((x8_1.length+1)*32) 140737488355328 then
    f80_l0 run n k0 x0_1 x2_1 x7_1 (x8_1++[.blob o4_1]) (IntKind.wrap .i64 (x9_1+1)) o4_1
  else none
  else
    bif ltI x9_1 (x0_1.length:Int) then
    bif inR x9_1 x0_1.length then
    bif Nat.ble ((x8_1.length+1)*32) 140737488355328 then
    f80_l0 run n k0 x0_1 x2_1 x7_1 (x8_1++[.blob ((nth x0_1 (Int.toNat x9_1)).toBlob)]) (IntKind.wrap .i64 (x9_1+1)) o4_1
  else none
  else none
  else
    bif inR (IntKind.wrap .i64 ((x0_1.length:Int)-1)) x0_1.length then
    bif Nat.ble ((x8_1.length+1)*32) 140737488355328 then
    f80_l0 run n k0 x0_1 x2_1 x7_1 (x8_1++[.blob ((nth x0_1 (Int.toNat (IntKind.wrap .i64 ((x0_1.length:Int)-1)))).toBlob)]) (IntKind.wrap .i64 (x9_1+1)) o4_1
  else none
  else none
  else
    bif ltI x9_1 (x0_1.length:Int) then
    bif inR x9_1 x0_1.length then
    bif Nat.ble ((x8_1.length+1)*32) 140737488355328 then
    f80_l0 run n k0 x0_1 x2_1 x7_1 (x8_1++[.blob ((nth x0_1 (Int.toNat x9_1)).toBlob)]) (IntKind.wrap .i64 (x9_1+1)) o4_1
  else none
  else none
  else
    bif inR (IntKind.wrap .i64 ((x0_1.length:Int)-1)) x0_1.length then
    bif Nat.ble ((x8_1.length+1)*32) 140737488355328 then
    f80_l0 run n k0 x0_1 x2_1 x7_1 (x8_1++[.blob ((nth x0_1 (Int.toNat (IntKind.wrap .i64 ((x0_1.length:Int)-1)))).toBlob)]) (IntKind.wrap .i64 (x9_1+1)) o4_1
  else none
  else none
  else
    some ⟨[.slice x8_1],[],f80_fresh⟩:=by kernel_rfl
noncomputable def f80 (run:Run) (n:Nat) (a0_1:List AV) (a1_1:List UInt8) (a2_1:Int):Option Res:=evalK G run n f80_info.keep 0 f80_info.body (retE G f80_info) (f80_info.start [.slice a0_1,.blob a1_1,.int a2_1])
theorem f80_eq (run:Run) (n:Nat) (a0_1:List AV) (a1_1:List UInt8) (a2_1:Int):f80 run n a0_1 a1_1 a2_1 =
  bif eqI (a0_1.length:Int) 0 then
    some ⟨[.slice []],[],f80_fresh⟩
  else
    bif ltI a2_1 0 then
    bif ltI 2 (a0_1.length:Int) then
    f80_l0 run n n a0_1 0 (a0_1.length:Int) [] 0 a1_1
  else
    f80_l0 run n n a0_1 0 2 [] 0 a1_1
  else
    bif ltI 255 a2_1 then
    bif ltI 257 (a0_1.length:Int) then
    f80_l0 run n n a0_1 255 (a0_1.length:Int) [] 0 a1_1
  else
    f80_l0 run n n a0_1 255 257 [] 0 a1_1
  else
    bif ltI (IntKind.wrap .i64 (a2_1+2)) (a0_1.length:Int) then
    f80_l0 run n n a0_1 a2_1 (a0_1.length:Int) [] 0 a1_1
  else
    f80_l0 run n n a0_1 a2_1 (IntKind.wrap .i64 (a2_1+2)) [] 0 a1_1:=by kernel_rfl
theorem f80_run (ext:Run) (n:Nat) (a0_1:List AV) (a1_1:List UInt8) (a2_1:Int):runE G ext (n+1) 80 [.slice a0_1,.blob a1_1,.int a2_1]=f80 (runE G ext n) n a0_1 a1_1 a2_1:=runE_succ f80_at f80_in
noncomputable def f49_l0 (run:Run) (n k0:Nat) (x0_1 x1_1:List AV) (x2_1:Int) (x7_1:List AV) (x8_1:Int):Option Res :=
  iterK (evalK G run n f49_keep 0 (sub [1,1,1,0,1,0,0] f49_body)) f49_t0 f49_o0 (blockK 0 (seqK (evalK G run n f49_keep 0 (sub [1,1,1,1] f49_body) (retE G f49_info)) (retE G f49_info))) k0
    ⟨[.val (.slice (.blob 32)) none (.slice x0_1),.val (.slice (.int .i64)) none (.slice x1_1),.val (.int .i64) none (.int x2_1),qa,qa,qa,qa,.val (.slice (.blob 32)) (some (7,0)) (.slice x7_1),.val (.int .i64) none (.int x8_1),qa,qa,qa,qa,qa,qa,qa,qa,qa,qa,qa,qa,qa,qa,qa,qa,qa,qa,qa,qa,qa,.any],[qz,qz,qz,qz,qz,qz,qz,qz,qz,qz,qz,qz,qz,qz,qz,qz,qz,qz,qz,qz,qz,qz,qz,qz,qz,qz,qz,qz,qz,qz,qz],List.replicate 31 0⟩
theorem f49_l0_eq (run:Run) (n k0:Nat) (x0_1 x1_1:List AV) (x2_1:Int) (x7_1:List AV) (x8_1:Int):f49_l0 run n (k0+1) x0_1 x1_1 x2_1 x7_1 x8_1 =
  bif ltI x8_1 x2_1 then
    bif inR x8_1 x0_1.length then
    bif inR x8_1 x1_1.length then
    (run 80 [.slice x7_1,.blob ((nth x0_1 (Int.toNat x8_1)).toBlob),.int ((nth x1_1 (Int.toNat x8_1)).toInt)]).bind fun r1 =>
    bif r1.fresh then
    nilV r1.outs (consV r1.vals fun v1 vs1 =>
    nilV vs1 (f49_l0 run n k0 x0_1 x1_1 x2_1 v1.toSlice (IntKind.wrap .i64 (x8_1+1))))
  else none
  else none
  else none
  else
    some ⟨[.slice x7_1],[],f49_fresh⟩:=by kernel_rfl
noncomputable def f49 (run:Run) (n:Nat) (a0_1 a1_1:List AV) (a2_1:Int):Option Res:=evalK G run n f49_info.keep 0 f49_info.body (retE G f49_info) (f49_info.start [.slice a0_1,.slice a1_1,.int a2_1])
theorem f49_eq (run:Run) (n:Nat) (a0_1 a1_1:List AV) (a2_1:Int):f49 run n a0_1 a1_1 a2_1 =
  bif ltI a2_1 1 then
    some ⟨[.slice []],[],f49_fresh⟩
  else
    bif inR 0 a0_1.length then
    f49_l0 run n n a0_1 a1_1 a2_1 [.blob ((nth a0_1 0).toBlob)] 1
  else none:=by kernel_rfl
theorem f49_run (ext:Run) (n:Nat) (a0_1 a1_1:List AV) (a2_1:Int):runE G ext (n+1) 49 [.slice a0_1,.slice a1_1,.int a2_1]=f49 (runE G ext n) n a0_1 a1_1 a2_1:=runE_succ f49_at f49_in
noncomputable def f73_l0 (run:Run) (n k0:Nat) (x0_1:List AV) (x3_1:Int):Option Res :=
  iterK (evalK G run n f73_keep 0 (sub [1,1,0,1,0,0] f73_body)) f73_t0 f73_o0 (blockK 0 (seqK (evalK G run n f73_keep 0 (sub [1,1,1] f73_body) (retE G f73_info)) (retE G f73_info))) k0
    ⟨[.val (.slice .str) none (.slice x0_1),qa,qa,.val (.int .i64) none (.int x3_1),qa,qa,qa,qa,qa,qa,qa,qa,qa,qa,qa,qa,qa,qa,.any],[qz,qz,qz,qz,qz,qz,qz,qz,qz,qz,qz,qz,qz,qz,qz,qz,qz,qz,qz],List.replicate 19 0⟩
theorem f73_l0_eq (run:Run) (n k0:Nat) (x0_1:List AV) (x3_1:Int):f73_l0 run n (k0+1) x0_1 x3_1 =
  bif ltI x3_1 (x0_1.length:Int) then
    bif inR x3_1 x0_1.length then
    bif ltI 4096 (((nth x0_1 (Int.toNat x3_1)).toStr).length:Int) then
    some ⟨[.int 4],[],f73_fresh⟩
  else
    f73_l0 run n k0 x0_1 (IntKind.wrap .i64 (x3_1+1))
  else none
  else
    some ⟨[.int 0],[],f73_fresh⟩:=by kernel_rfl
noncomputable def f73 (run:Run) (n:Nat) (a0_1:List AV):Option Res:=evalK G run n f73_info.keep 0 f73_info.body (retE G f73_info) (f73_info.start [.slice a0_1])
theorem f73_eq (run:Run) (n:Nat) (a0_1:List AV):f73 run n a0_1 =
  bif ltI 1024 (a0_1.length:Int) then
    some ⟨[.int 4],[],f73_fresh⟩
  else
    f73_l0 run n n a0_1 0:=by kernel_rfl
theorem f73_run (ext:Run) (n:Nat) (a0_1:List AV):runE G ext (n+1) 73 [.slice a0_1]=f73 (runE G ext n) n a0_1:=runE_succ f73_at f73_in
noncomputable def f79 (run:Run) (n:Nat) (a0_1:List UInt8):Option Res:=evalK G run n f79_info.keep 0 f79_info.body (retE G f79_info) (f79_info.start [.blob a0_1])
theorem f79_eq (run:Run) (n:Nat) (a0_1:List UInt8):f79 run n a0_1 =
  (run 109 [.blob a0_1]).bind fun r1 =>
    nilV r1.outs (consV r1.vals fun v1 vs1 =>
    nilV vs1 (bif Nat.ble (1+v1.toStr.length) maxLen then
    some ⟨[.str ([76]++v1.toStr)],[],f79_fresh⟩
  else none)):=by kernel_rfl
theorem f79_run (ext:Run) (n:Nat) (a0_1:List UInt8):runE G ext (n+1) 79 [.blob a0_1]=f79 (runE G ext n) n a0_1:=runE_succ f79_at f79_in
noncomputable def f48_l0 (run:Run) (n k0:Nat) (x0_1 x3_1:List AV) (x4_1:Int):Option Res :=
  iterK (evalK G run n f48_keep 0 (sub [1,1,0,1,0,0] f48_body)) f48_t0 f48_o0 (blockK 0 (seqK (evalK G run n f48_keep 0 (sub [1,1,1] f48_body) (retE G f48_info)) (retE G f48_info))) k0
    ⟨[.val (.slice (.blob 32)) none (.slice x0_1),qa,qa,.val (.slice .str) (some (3,0)) (.slice x3_1),.val (.int .i64) none (.int x4_1),qa,qa,qa,qa,qa,qa,qa,qa,qa,qa,qa,qa,qa,qa,.any],[qz,qz,qz,qz,qz,qz,qz,qz,qz,qz,qz,qz,qz,qz,qz,qz,qz,qz,qz,qz],List.replicate 20 0⟩
theorem f48_l0_eq (run:Run) (n k0:Nat) (x0_1 x3_1:List AV) (x4_1:Int):f48_l0 run n (k0+1) x0_1 x3_1 x4_1 =
  bif ltI x4_1 (x0_1.length:Int) then
    bif inR x4_1 x0_1.length then
    (run 79 [.blob ((nth x0_1 (Int.toNat x4_1)).toBlob)]).bind fun r1 =>
    nilV r1.outs (consV r1.vals fun v1 vs1 =>
    nilV vs1 (bif Nat.ble ((x3_1.length+1)*16) 140737488355328 then
    f48_l0 run n k0 x0_1 (x3_1++[.str v1.toStr]) (IntKind.wrap .i64 (x4_1+1))
  else none))
  else none
  else
    some ⟨[.slice x3_1],[],f48_fresh⟩:=by kernel_rfl
noncomputable def f48 (run:Run) (n:Nat) (a0_1:List AV):Option Res:=evalK G run n f48_info.keep 0 f48_info.body (retE G f48_info) (f48_info.start [.slice a0_1])
theorem f48_eq (run:Run) (n:Nat) (a0_1:List AV):f48 run n a0_1 =
  f48_l0 run n n a0_1 [] 0:=by kernel_rfl
theorem f48_run (ext:Run) (n:Nat) (a0_1:List AV):runE G ext (n+1) 48 [.slice a0_1]=f48 (runE G ext n) n a0_1:=runE_succ f48_at f48_in
noncomputable def f130 (run:Run) (n:Nat) (a0_1:List UInt8):Option Res:=evalK G run n f130_info.keep 0 f130_info.body (retE G f130_info) (f130_info.start [.str a0_1])
theorem f130_eq (run:Run) (n:Nat) (a0_1:List UInt8):f130 run n a0_1 =
  (run 122 [.int 0]).bind fun r1 =>
    nilV r1.outs (consV r1.vals fun v1 vs1 =>
    nilV vs1 (bif Nat.ble (v1.toStr.length+a0_1.length) maxLen then
    some ⟨[.str (v1.toStr++a0_1)],[],f130_fresh⟩
  else none)):=by kernel_rfl
theorem f130_run (ext:Run) (n:Nat) (a0_1:List UInt8):runE G ext (n+1) 130 [.str a0_1]=f130 (runE G ext n) n a0_1:=runE_succ f130_at f130_in
noncomputable def f108 (run:Run) (n:Nat) (a0_1:List UInt8):Option Res:=evalK G run n f108_info.keep 0 f108_info.body (retE G f108_info) (f108_info.start [.str a0_1])
theorem f108_eq (run:Run) (n:Nat) (a0_1:List UInt8):f108 run n a0_1 =
  (run 130 [.str a0_1]).bind fun r1 =>
    nilV r1.outs (consV r1.vals fun v1 vs1 =>
    nilV vs1 ((run 91 [.str v1.toStr]).bind fun r2 =>
    nilV r2.outs (consV r2.vals fun v2 vs2 =>
    nilV vs2 (some ⟨[.blob v2.toBlob],[],f108_fresh⟩)))):=by kernel_rfl
theorem f108_run (ext:Run) (n:Nat) (a0_1:List UInt8):runE G ext (n+1) 108 [.str a0_1]=f108 (runE G ext n) n a0_1:=runE_succ f108_at f108_in
noncomputable def f78_l0 (run:Run) (n k0:Nat) (x0_1 x3_1:List AV) (x4_1:Int):Option Res :=
  iterK (evalK G run n f78_keep 0 (sub [1,1,0,1,0,0] f78_body)) f78_t0 f78_o0 (blockK 0 (seqK (evalK G run n f78_keep 0 (sub [1,1,1] f78_body) (retE G f78_info)) (retE G f78_info))) k0
    ⟨[.val (.slice .str) none (.slice x0_1),qa,qa,.val (.slice (.blob 32)) (some (3,0)) (.slice x3_1),.val (.int .i64) none (.int x4_1),qa,qa,qa,qa,qa,qa,qa,qa,qa,qa,qa,qa,qa,qa,.any],[qz,qz,qz,qz,qz,qz,qz,qz,qz,qz,qz,qz,qz,qz,qz,qz,qz,qz,qz,qz],List.replicate 20 0⟩
theorem f78_l0_eq (run:Run) (n k0:Nat) (x0_1 x3_1:List AV) (x4_1:Int):f78_l0 run n (k0+1) x0_1 x3_1 x4_1 =
  bif ltI x4_1 (x0_1.length:Int) then
    bif inR x4_1 x0_1.length then
    (run 108 [.str ((nth x0_1 (Int.toNat x4_1)).toStr)]).bind fun r1 =>
    nilV r1.outs (consV r1.vals fun v1 vs1 =>
    nilV vs1 (bif Nat.ble ((x3_1.length+1)*32) 140737488355328 then
    f78_l0 run n k0 x0_1 (x3_1++[.blob v1.toBlob]) (IntKind.wrap .i64 (x4_1+1))
  else none))
  else none
  else
    some ⟨[.slice x3_1],[],f78_fresh⟩:=by kernel_rfl
noncomputable def f78 (run:Run) (n:Nat) (a0_1:List AV):Option Res:=evalK G run n f78_info.keep 0 f78_info.body (retE G f78_info) (f78_info.start [.slice a0_1])
theorem f78_eq (run:Run) (n:Nat) (a0_1:List AV):f78 run n a0_1 =
  f78_l0 run n n a0_1 [] 0:=by kernel_rfl
theorem f78_run (ext:Run) (n:Nat) (a0_1:List AV):runE G ext (n+1) 78 [.slice a0_1]=f78 (runE G ext n) n a0_1:=runE_succ f78_at f78_in
noncomputable def f106_l0 (run:Run) (n k0:Nat) (x0_1 x3_1 x4_1:Int):Option Res :=
  iterK (evalK G run n f106_keep 0 (sub [1,1,0,1,0,0] f106_body)) f106_t0 f106_o0 (blockK 0 (seqK (evalK G run n f106_keep 0 (sub [1,1,1] f106_body) (retE G f106_info)) (retE G f106_info))) k0
    ⟨[.val (.int .i64) none (.int x0_1),qa,qa,.val (.int .i64) none (.int x3_1),.val (.int .i64) none (.int x4_1),qa,qa,qa,qa,qa,qa,qa,qa,qa,qa,.any],[qz,qz,qz,qz,qz,qz,qz,qz,qz,qz,qz,qz,qz,qz,qz,qz],List.replicate 16 0⟩
theorem f106_l0_eq (run:Run) (n k0:Nat) (x0_1 x3_1 x4_1:Int):f106_l0 run n (k0+1) x0_1 x3_1 x4_1 =
  bif ltI x4_1 x0_1 then
    bif ltI 0 x4_1 then
    f106_l0 run n k0 x0_1 x4_1 (IntKind.wrap .i64 (x4_1*2))
  else
    some ⟨[.int x3_1],[],f106_fresh⟩
  else
    some ⟨[.int x3_1],[],f106_fresh⟩:=by kernel_rfl
noncomputable def f106 (run:Run) (n:Nat) (a0_1:Int):Option Res:=evalK G run n f106_info.keep 0 f106_info.body (retE G f106_info) (f106_info.start [.int a0_1])
theorem f106_eq (run:Run) (n:Nat) (a0_1:Int):f106 run n a0_1 =
  f106_l0 run n n a0_1 0 1:=by kernel_rfl
theorem f106_run (ext:Run) (n:Nat) (a0_1:Int):runE G ext (n+1) 106 [.int a0_1]=f106 (runE G ext n) n a0_1:=runE_succ f106_at f106_in
noncomputable def f151 (run:Run) (n:Nat) (a0_1 a1_1:List UInt8):Option Res:=evalK G run n f151_info.keep 0 f151_info.body (retE G f151_info) (f151_info.start [.blob a0_1,.blob a1_1])
theorem f151_eq (run:Run) (n:Nat) (a0_1 a1_1:List UInt8):f151 run n a0_1 a1_1 =
  (run 122 [.int 1]).bind fun r1 =>
    nilV r1.outs (consV r1.vals fun v1 vs1 =>
    nilV vs1 ((run 109 [.blob a0_1]).bind fun r2 =>
    nilV r2.outs (consV r2.vals fun v2 vs2 =>
    nilV vs2 (bif Nat.ble (v1.toStr.length+v2.toStr.length) maxLen then
    (run 109 [.blob a1_1]).bind fun r3 =>
    nilV r3.outs (consV r3.vals fun v3 vs3 =>
    nilV vs3 (bif Nat.ble ((v1.toStr++v2.toStr).length+v3.toStr.length) maxLen then
    some ⟨[.str ((v1.toStr++v2.toStr)++v3.toStr)],[],f151_fresh⟩
  else none))
  else none)))):=by kernel_rfl
theorem f151_run (ext:Run) (n:Nat) (a0_1 a1_1:List UInt8):runE G ext (n+1) 151 [.blob a0_1,.blob a1_1]=f151 (runE G ext n) n a0_1 a1_1:=runE_succ f151_at f151_in
noncomputable def f129 (run:Run) (n:Nat) (a0_1 a1_1:List UInt8):Option Res:=evalK G run n f129_info.keep 0 f129_info.body (retE G f129_info) (f129_info.start [.blob a0_1,.blob a1_1])
theorem f129_eq (run:Run) (n:Nat) (a0_1 a1_1:List UInt8):f129 run n a0_1 a1_1 =
  (run 151 [.blob a0_1,.blob a1_1]).bind fun r1 =>
    nilV r1.outs (consV r1.vals fun v1 vs1 =>
    nilV vs1 ((run 91 [.str v1.toStr]).bind fun r2 =>
    nilV r2.outs (consV r2.vals fun v2 vs2 =>
    nilV vs2 (some ⟨[.blob v2.toBlob],[],f129_fresh⟩)))):=by kernel_rfl
theorem f129_run (ext:Run) (n:Nat) (a0_1 a1_1:List UInt8):runE G ext (n+1) 129 [.blob a0_1,.blob a1_1]=f129 (runE G ext n) n a0_1 a1_1:=runE_succ f129_at f129_in
noncomputable def f107 (run:Run) (n:Nat) (a0_1:List AV):Option Res:=evalK G run n f107_info.keep 0 f107_info.body (retE G f107_info) (f107_info.start [.slice a0_1])
theorem f107_eq (run:Run) (n:Nat) (a0_1:List AV):f107 run n a0_1 =
  bif eqI (a0_1.length:Int) 0 then
    some ⟨[.blob [0,0,0,0,0,0,0,0,0,0,0,0,0,0,0,0,0,0,0,0,0,0,0,0,0,0,0,0,0,0,0,0]],[],f107_fresh⟩
  else
    bif eqI (a0_1.length:Int) 1 then
    bif inR 0 a0_1.length then
    some ⟨[.blob ((nth a0_1 0).toBlob)],[],f107_fresh⟩
  else none
  else
    (run 106 [.int (a0_1.length:Int)]).bind fun r1 =>
    nilV r1.outs (consV r1.vals fun v1 vs1 =>
    nilV vs1 (bif boundsOk 0 v1.toInt (a0_1.length:Int) (a0_1.length:Int)&&true then
    (run 107 [.slice (List.drop 0 (List.take (Int.toNat v1.toInt) a0_1))]).bind fun r2 =>
    nilV r2.outs (consV r2.vals fun v2 vs2 =>
    nilV vs2 (bif boundsOk v1.toInt (a0_1.length:Int) (a0_1.length:Int) (a0_1.length:Int)&&true then
    (run 107 [.slice (List.drop (Int.toNat v1.toInt) (List.take (Int.toNat (a0_1.length:Int)) a0_1))]).bind fun r3 =>
    nilV r3.outs (consV r3.vals fun v3 vs3 =>
    nilV vs3 ((run 129 [.blob v2.toBlob,.blob v3.toBlob]).bind fun r4 =>
    nilV r4.outs (consV r4.vals fun v4 vs4 =>
    nilV vs4 (some ⟨[.blob v4.toBlob],[],f107_fresh⟩))))
  else none))
  else none)):=by kernel_rfl
theorem f107_run (ext:Run) (n:Nat) (a0_1:List AV):runE G ext (n+1) 107 [.slice a0_1]=f107 (runE G ext n) n a0_1:=runE_succ f107_at f107_in
noncomputable def f165 (run:Run) (n:Nat) (a0_1:Int) (a1_1:List UInt8):Option Res:=evalK G run n f165_info.keep 0 f165_info.body (retE G f165_info) (f165_info.start [.int a0_1,.blob a1_1])
theorem f165_eq (run:Run) (n:Nat) (a0_1:Int) (a1_1:List UInt8):f165 run n a0_1 a1_1 =
  (run 122 [.int 2]).bind fun r1 =>
    nilV r1.outs (consV r1.vals fun v1 vs1 =>
    nilV vs1 ((run 121 [.int a0_1,.int 8]).bind fun r2 =>
    nilV r2.outs (consV r2.vals fun v2 vs2 =>
    nilV vs2 (bif Nat.ble (v1.toStr.length+v2.toStr.length) maxLen then
    (run 109 [.blob a1_1]).bind fun r3 =>
    nilV r3.outs (consV r3.vals fun v3 vs3 =>
    nilV vs3 (bif Nat.ble ((v1.toStr++v2.toStr).length+v3.toStr.length) maxLen then
    some ⟨[.str ((v1.toStr++v2.toStr)++v3.toStr)],[],f165_fresh⟩
  else none))
  else none)))):=by kernel_rfl
theorem f165_run (ext:Run) (n:Nat) (a0_1:Int) (a1_1:List UInt8):runE G ext (n+1) 165 [.int a0_1,.blob a1_1]=f165 (runE G ext n) n a0_1 a1_1:=runE_succ f165_at f165_in
noncomputable def f147 (run:Run) (n:Nat) (a0_1:Int) (a1_1:List UInt8):Option Res:=evalK G run n f147_info.keep 0 f147_info.body (retE G f147_info) (f147_info.start [.int a0_1,.blob a1_1])
theorem f147_eq (run:Run) (n:Nat) (a0_1:Int) (a1_1:List UInt8):f147 run n a0_1 a1_1 =
  (run 165 [.int a0_1,.blob a1_1]).bind fun r1 =>
    nilV r1.outs (consV r1.vals fun v1 vs1 =>
    nilV vs1 ((run 91 [.str v1.toStr]).bind fun r2 =>
    nilV r2.outs (consV r2.vals fun v2 vs2 =>
    nilV vs2 (some ⟨[.blob v2.toBlob],[],f147_fresh⟩)))):=by kernel_rfl
theorem f147_run (ext:Run) (n:Nat) (a0_1:Int) (a1_1:List UInt8):runE G ext (n+1) 147 [.int a0_1,.blob a1_1]=f147 (runE G ext n) n a0_1 a1_1:=runE_succ f147_at f147_in
noncomputable def f124 (run:Run) (n:Nat) (a0_1:List AV):Option Res:=evalK G run n f124_info.keep 0 f124_info.body (retE G f124_info) (f124_info.start [.slice a0_1])
theorem f124_eq (run:Run) (n:Nat) (a0_1:List AV):f124 run n a0_1 =
  (run 78 [.slice a0_1]).bind fun r1 =>
    bif r1.fresh then
    nilV r1.outs (consV r1.vals fun v1 vs1 =>
    nilV vs1 ((run 107 [.slice v1.toSlice]).bind fun r2 =>
    nilV r2.outs (consV r2.vals fun v2 vs2 =>
    nilV vs2 ((run 147 [.int (IntKind.wrap .u64 (a0_1.length:Int)),.blob v2.toBlob]).bind fun r3 =>
    nilV r3.outs (consV r3.vals fun v3 vs3 =>
    nilV vs3 (some ⟨[.blob v3.toBlob],[],f124_fresh⟩))))))
  else none:=by kernel_rfl
theorem f124_run (ext:Run) (n:Nat) (a0_1:List AV):runE G ext (n+1) 124 [.slice a0_1]=f124 (runE G ext n) n a0_1:=runE_succ f124_at f124_in
noncomputable def f98 (run:Run) (n:Nat) (a0_1:List AV):Option Res:=evalK G run n f98_info.keep 0 f98_info.body (retE G f98_info) (f98_info.start [.slice a0_1])
theorem f98_eq (run:Run) (n:Nat) (a0_1:List AV):f98 run n a0_1 =
  (run 48 [.slice a0_1]).bind fun r1 =>
    bif r1.fresh then
    nilV r1.outs (consV r1.vals fun v1 vs1 =>
    nilV vs1 ((run 124 [.slice v1.toSlice]).bind fun r2 =>
    nilV r2.outs (consV r2.vals fun v2 vs2 =>
    nilV vs2 (some ⟨[.blob v2.toBlob],[],f98_fresh⟩))))
  else none:=by kernel_rfl
theorem f98_run (ext:Run) (n:Nat) (a0_1:List AV):runE G ext (n+1) 98 [.slice a0_1]=f98 (runE G ext n) n a0_1:=runE_succ f98_at f98_in
noncomputable def f74_l0 (run:Run) (n k0:Nat) (x0_1 x3_1:List AV) (x4_1:Int):Option Res :=
  iterK (evalK G run n f74_keep 0 (sub [1,1,0,1,0,0] f74_body)) f74_t0 f74_o0 (blockK 0 (seqK (evalK G run n f74_keep 0 (sub [1,1,1] f74_body) (retE G f74_info)) (retE G f74_info))) k0
    ⟨[.val (.slice .str) none (.slice x0_1),qa,qa,.val (.slice .str) (some (3,0)) (.slice x3_1),.val (.int .i64) none (.int x4_1),qa,qa,qa,qa,qa,qa,qa,qa,qa,qa,qa,qa,qa,qa,.any],[qz,qz,qz,qz,qz,qz,qz,qz,qz,qz,qz,qz,qz,qz,qz,qz,qz,qz,qz,qz],List.replicate 20 0⟩
theorem f74_l0_eq (run:Run) (n k0:Nat) (x0_1 x3_1:List AV) (x4_1:Int):f74_l0 run n (k0+1) x0_1 x3_1 x4_1 =
  bif ltI x4_1 (x0_1.length:Int) then
    bif inR x4_1 x0_1.length then
    bif Nat.ble (1+((nth x0_1 (Int.toNat x4_1)).toStr).length) maxLen then
    bif Nat.ble ((x3_1.length+1)*16) 140737488355328 then
    f74_l0 run n k0 x0_1 (x3_1++[.str ([84]++((nth x0_1 (Int.toNat x4_1)).toStr))]) (IntKind.wrap .i64 (x4_1+1))
  else none
  else none
  else none
  else
    some ⟨[.slice x3_1],[],f74_fresh⟩:=by kernel_rfl
noncomputable def f74 (run:Run) (n:Nat) (a0_1:List AV):Option Res:=evalK G run n f74_info.keep 0 f74_info.body (retE G f74_info) (f74_info.start [.slice a0_1])
theorem f74_eq (run:Run) (n:Nat) (a0_1:List AV):f74 run n a0_1 =
  f74_l0 run n n a0_1 [] 0:=by kernel_rfl
theorem f74_run (ext:Run) (n:Nat) (a0_1:List AV):runE G ext (n+1) 74 [.slice a0_1]=f74 (runE G ext n) n a0_1:=runE_succ f74_at f74_in
noncomputable def f99 (run:Run) (n:Nat) (a0_1:List AV):Option Res:=evalK G run n f99_info.keep 0 f99_info.body (retE G f99_info) (f99_info.start [.slice a0_1])
theorem f99_eq (run:Run) (n:Nat) (a0_1:List AV):f99 run n a0_1 =
  (run 74 [.slice a0_1]).bind fun r1 =>
    bif r1.fresh then
    nilV r1.outs (consV r1.vals fun v1 vs1 =>
    nilV vs1 ((run 124 [.slice v1.toSlice]).bind fun r2 =>
    nilV r2.outs (consV r2.vals fun v2 vs2 =>
    nilV vs2 (some ⟨[.blob v2.toBlob],[],f99_fresh⟩))))
  else none:=by kernel_rfl
theorem f99_run (ext:Run) (n:Nat) (a0_1:List AV):runE G ext (n+1) 99 [.slice a0_1]=f99 (runE G ext n) n a0_1:=runE_succ f99_at f99_in
noncomputable def f64 (run:Run) (n:Nat) (a0_1:Int) (a0_2 a0_3:List UInt8) (a0_4:Int) (a0_5:List AV) (a1_1:Int) (a2_1:List AV):Option Res:=evalK G run n f64_info.keep 0 f64_info.body (retE G f64_info) (f64_info.start [.agg [.agg [.int a0_1,.blob a0_2,.blob a0_3,.int a0_4],.slice a0_5],.int a1_1,.slice a2_1])
theorem f64_eq (run:Run) (n:Nat) (a0_1:Int) (a0_2 a0_3:List UInt8) (a0_4:Int) (a0_5:List AV) (a1_1:Int) (a2_1:List AV):f64 run n a0_1 a0_2 a0_3 a0_4 a0_5 a1_1 a2_1 =
  bif !(eqI a0_1 a1_1) then
    some ⟨[.int 8],[],f64_fresh⟩
  else
    (run 73 [.slice a0_5]).bind fun r1 =>
    nilV r1.outs (consV r1.vals fun v1 vs1 =>
    nilV vs1 (bif !(eqI v1.toInt 0) then
    some ⟨[.int v1.toInt],[],f64_fresh⟩
  else
    (run 98 [.slice a2_1]).bind fun r2 =>
    nilV r2.outs (consV r2.vals fun v2 vs2 =>
    nilV vs2 (bif !(eqS a0_2 v2.toBlob) then
    some ⟨[.int 12],[],f64_fresh⟩
  else
    (run 99 [.slice a0_5]).bind fun r3 =>
    nilV r3.outs (consV r3.vals fun v3 vs3 =>
    nilV vs3 (bif !(eqS a0_3 v3.toBlob) then
    some ⟨[.int 12],[],f64_fresh⟩
  else
    some ⟨[.int 0],[],f64_fresh⟩)))))):=by kernel_rfl
theorem f64_run (ext:Run) (n:Nat) (a0_1:Int) (a0_2 a0_3:List UInt8) (a0_4:Int) (a0_5:List AV) (a1_1:Int) (a2_1:List AV):runE G ext (n+1) 64 [.agg [.agg [.int a0_1,.blob a0_2,.blob a0_3,.int a0_4],.slice a0_5],.int a1_1,.slice a2_1]=f64 (runE G ext n) n a0_1 a0_2 a0_3 a0_4 a0_5 a1_1 a2_1:=runE_succ f64_at f64_in
noncomputable def f65 (run:Run) (n:Nat) (a0_1 a1_1:List UInt8):Option Res:=evalK G run n f65_info.keep 0 f65_info.body (retE G f65_info) (f65_info.start [.blob a0_1,.blob a1_1])
theorem f65_eq (run:Run) (n:Nat) (a0_1 a1_1:List UInt8):f65 run n a0_1 a1_1 =
  (run 88 [.blob a0_1]).bind fun r1 =>
    bif r1.fresh then
    nilV r1.outs (consV r1.vals fun v1 vs1 =>
    nilV vs1 ((run 88 [.blob a1_1]).bind fun r2 =>
    bif r2.fresh then
    nilV r2.outs (consV r2.vals fun v2 vs2 =>
    nilV vs2 ((run 89 [.slice v1.toSlice,.slice v2.toSlice]).bind fun r3 =>
    nilV r3.outs (consV r3.vals fun v3 vs3 =>
    nilV vs3 (some ⟨[.bool (leI v3.toInt 0)],[],f65_fresh⟩))))
  else none))
  else none:=by kernel_rfl
theorem f65_run (ext:Run) (n:Nat) (a0_1 a1_1:List UInt8):runE G ext (n+1) 65 [.blob a0_1,.blob a1_1]=f65 (runE G ext n) n a0_1 a1_1:=runE_succ f65_at f65_in
noncomputable def f33_l0 (run:Run) (n k0:Nat) (x1_1 x5_1 x6_1:List AV) (x7_1 o2_1:Int) (o2_2 o2_3:List UInt8) (o2_4:Int) (o2_5:List UInt8) (o2_6 o2_7:Int) (o2_8 o2_9:Int) (o2_10 o2_11:Int) (o4_1 o4_2:Int):Option Res :=
  iterK (evalK G run n f33_keep 0 (sub [1,1,1,1,1,0,1,0,0] f33_body)) f33_t0 f33_o0 (blockK 0 (seqK (evalK G run n f33_keep 0 (sub [1,1,1,1,1,1] f33_body) (retE G f33_info)) (retE G f33_info))) k0
    ⟨[qa,.val (.slice (.struct [(.struct [(.int .u32),(.blob 32),(.blob 32),(.int .u64)]),(.slice .str)])) none (.slice x1_1),.ptr ⟨(.struct [(.struct [(.int .u32),(.blob 32),(.blob 32),(.int .u64)]),(.blob 32),(.int .i64),(.int .i64),(.int .i64),(.int .i64),(.int .i64),(.int .i64)]),2,1,[]⟩,qa,.ptr ⟨(.struct [(.int .i64),(.int .i64)]),4,1,[]⟩,.val (.slice (.blob 32)) (some (5,0)) (.slice x5_1),.val (.slice (.int .i64)) (some (6,0)) (.slice x6_1),.val (.int .i64) none (.int x7_1),qa,qa,qa,qa,qa,qa,qa,qa,qa,qa,qa,qa,qa,qa,qa,qa,qa,qa,qa,qa,qa,qa,qa,qa,qa,qa,qa,qa,qa,qa,qa,qa,qa,qa,qa,qa,qa,qa,qa,qa,qa,qa,qa,qa,qa,qa,qa,qa,qa,qa,qa,qa,qa,qa,qa,qa,qa,qa,qa,.any],[qz,qz,⟨1,some ⟨(.struct [(.struct [(.int .u32),(.blob 32),(.blob 32),(.int .u64)]),(.blob 32),(.int .i64),(.int .i64),(.int .i64),(.int .i64),(.int .i64),(.int .i64)]),.agg [.agg [.int o2_1,.blob o2_2,.blob o2_3,.int o2_4],.blob o2_5,.int o2_6,.int o2_7,.int o2_8,.int o2_9,.int o2_10,.int o2_11]⟩⟩,qz,⟨1,some ⟨(.struct [(.int .i64),(.int .i64)]),.agg [.int o4_1,.int o4_2]⟩⟩,qz,qz,qz,qz,qz,qz,qz,qz,qz,qz,qz,qz,qz,qz,qz,qz,qz,qz,qz,qz,qz,qz,qz,qz,qz,qz,qz,qz,qz,qz,qz,qz,qz,qz,qz,qz,qz,qz,qz,qz,qz,qz,qz,qz,qz,qz,qz,qz,qz,qz,qz,qz,qz,qz,qz,qz,qz,qz,qz,qz,qz,qz,qz],List.replicate 68 0⟩
theorem f33_l0_eq (run:Run) (n k0:Nat) (x1_1 x5_1 x6_1:List AV) (x7_1 o2_1:Int) (o2_2 o2_3:List UInt8) (o2_4:Int) (o2_5:List UInt8) (o2_6 o2_7:Int) (o2_8 o2_9:Int) (o2_10 o2_11:Int) (o4_1 o4_2:Int):f33_l0 run n (k0+1) x1_1 x5_1 x6_1 x7_1 o2_1 o2_2 o2_3 o2_4 o2_5 o2_6 o2_7 o2_8 o2_9 o2_10 o2_11 o4_1 o4_2 =
  bif ltI x7_1 (x1_1.length:Int) then
    bif eqI x7_1 0 then
    bif inR 0 x1_1.length then
    bif !(eqI ((((nth x1_1 0).fld 0).fld 0).toInt) o2_1&&(eqS ((((nth x1_1 0).fld 0).fld 1).toBlob) o2_2&&(eqS ((((nth x1_1 0).fld 0).fld 2).toBlob) o2_3&&(eqI ((((nth x1_1 0).fld 0).fld 3).toInt) o2_4&&true)))) then
    some ⟨[.agg [.int 7,.int 0]],[],f33_fresh⟩
  else
    bif inR x7_1 x1_1.length then
    (run 49 [.slice x5_1,.slice x6_1,.int x7_1]).bind fun r3 =>
    bif r3.fresh then
    nilV r3.outs (consV r3.vals fun v3 vs3 =>
    nilV vs3 ((run 64 [.agg [.agg [.int ((((nth x1_1 (Int.toNat x7_1)).fld 0).fld 0).toInt),.blob ((((nth x1_1 (Int.toNat x7_1)).fld 0).fld 1).toBlob),.blob ((((nth x1_1 (Int.toNat x7_1)).fld 0).fld 2).toBlob),.int ((((nth x1_1 (Int.toNat x7_1)).fld 0).fld 3).toInt)],.slice (((nth x1_1 (Int.toNat x7_1)).fld 1).toSlice)],.int (IntKind.wrap .u32 x7_1),.slice v3.toSlice]).bind fun r4 =>
    nilV r4.outs (consV r4.vals fun v4 vs4 =>
    nilV vs4 (bif !(eqI v4.toInt 0) then
    some ⟨[.agg [.int v4.toInt,.int x7_1]],[],f33_fresh⟩
  else
    bif inR x7_1 x5_1.length then
    (run 65 [.blob ((nth x5_1 (Int.toNat x7_1)).toBlob),.blob o2_5]).bind fun r5 =>
    nilV r5.outs (consV r5.vals fun v5 vs5 =>
    nilV vs5 (bif !v5.toBool then
    some ⟨[.agg [.int 9,.int x7_1]],[],f33_fresh⟩
  else
    f33_l0 run n k0 x1_1 x5_1 x6_1 (IntKind.wrap .i64 (x7_1+1)) o2_1 o2_2 o2_3 o2_4 o2_5 o2_6 o2_7 o2_8 o2_9 o2_10 o2_11 o4_1 o4_2))
  else none))))
  else none
  else none
  else none
  else
    bif inR x7_1 x1_1.length then
    (run 49 [.slice x5_1,.slice x6_1,.int x7_1]).bind fun r6 =>
    bif r6.fresh then
    nilV r6.outs (consV r6.vals fun v6 vs6 =>
    nilV vs6 ((run 64 [.agg [.agg [.int ((((nth x1_1 (Int.toNat x7_1)).fld 0).fld 0).toInt),.blob ((((nth x1_1 (Int.toNat x7_1)).fld 0).fld 1).toBlob),.blob ((((nth x1_1 (Int.toNat x7_1)).fld 0).fld 2).toBlob),.int ((((nth x1_1 (Int.toNat x7_1)).fld 0).fld 3).toInt)],.slice (((nth x1_1 (Int.toNat x7_1)).fld 1).toSlice)],.int (IntKind.wrap .u32 x7_1),.slice v6.toSlice]).bind fun r7 =>
    nilV r7.outs (consV r7.vals fun v7 vs7 =>
    nilV vs7 (bif !(eqI v7.toInt 0) then
    some ⟨[.agg [.int v7.toInt,.int x7_1]],[],f33_fresh⟩
  else
    bif inR x7_1 x5_1.length then
    (run 65 [.blob ((nth x5_1 (Int.toNat x7_1)).toBlob),.blob o2_5]).bind fun r8 =>
    nilV r8.outs (consV r8.vals fun v8 vs8 =>
    nilV vs8 (bif !v8.toBool then
    some ⟨[.agg [.int 9,.int x7_1]],[],f33_fresh⟩
  else
    f33_l0 run n k0 x1_1 x5_1 x6_1 (IntKind.wrap .i64 (x7_1+1)) o2_1 o2_2 o2_3 o2_4 o2_5 o2_6 o2_7 o2_8 o2_9 o2_10 o2_11 o4_1 o4_2))
  else none))))
  else none
  else none
  else
    some ⟨[.agg [.int 0,.int 0]],[],f33_fresh⟩:=by kernel_rfl
noncomputable def f33 (run:Run) (n:Nat) (a0_1:Int) (a0_2 a0_3:List UInt8) (a0_4:Int) (a0_5:List UInt8) (a0_6 a0_7:Int) (a0_8 a0_9:Int) (a0_10 a0_11:Int) (a1_1:List AV):Option Res:=evalK G run n f33_info.keep 0 f33_info.body (retE G f33_info) (f33_info.start [.agg [.agg [.int a0_1,.blob a0_2,.blob a0_3,.int a0_4],.blob a0_5,.int a0_6,.int a0_7,.int a0_8,.int a0_9,.int a0_10,.int a0_11],.slice a1_1])
theorem f33_eq (run:Run) (n:Nat) (a0_1:Int) (a0_2 a0_3:List UInt8) (a0_4:Int) (a0_5:List UInt8) (a0_6 a0_7:Int) (a0_8 a0_9:Int) (a0_10 a0_11:Int) (a1_1:List AV):f33 run n a0_1 a0_2 a0_3 a0_4 a0_5 a0_6 a0_7 a0_8 a0_9 a0_10 a0_11 a1_1 =
  bif eqI (a1_1.length:Int) 0 then
    some ⟨[.agg [.int 6,.int 0]],[],f33_fresh⟩
  else
    bif ltI 1024 (a1_1.length:Int) then
    some ⟨[.agg [.int 4,.int 1024]],[],f33_fresh⟩
  else
    (run 29 [.slice a1_1]).bind fun r1 =>
    bif r1.fresh then
    nilV r1.outs (consV r1.vals fun v1 vs1 =>
    nilV vs1 ((run 28 [.blob a0_5,.slice v1.toSlice]).bind fun r2 =>
    bif r2.fresh then
    nilV r2.outs (consV r2.vals fun v2 vs2 =>
    nilV vs2 (f33_l0 run n n a1_1 v1.toSlice v2.toSlice 0 a0_1 a0_2 a0_3 a0_4 a0_5 a0_6 a0_7 a0_8 a0_9 a0_10 a0_11 0 0))
  else none))
  else none:=by kernel_rfl
theorem f33_run (ext:Run) (n:Nat) (a0_1:Int) (a0_2 a0_3:List UInt8) (a0_4:Int) (a0_5:List UInt8) (a0_6 a0_7:Int) (a0_8 a0_9:Int) (a0_10 a0_11:Int) (a1_1:List AV):runE G ext (n+1) 33 [.agg [.agg [.int a0_1,.blob a0_2,.blob a0_3,.int a0_4],.blob a0_5,.int a0_6,.int a0_7,.int a0_8,.int a0_9,.int a0_10,.int a0_11],.slice a1_1]=f33 (runE G ext n) n a0_1 a0_2 a0_3 a0_4 a0_5 a0_6 a0_7 a0_8 a0_9 a0_10 a0_11 a1_1:=runE_succ f33_at f33_in
noncomputable def f66 (run:Run) (n:Nat) (a0_1 a1_1:Int):Option Res:=evalK G run n f66_info.keep 0 f66_info.body (retE G f66_info) (f66_info.start [.int a0_1,.int a1_1])
theorem f66_eq (run:Run) (n:Nat) (a0_1 a1_1:Int):f66 run n a0_1 a1_1 =
  bif ltI 0 a0_1 then
    bif ltI a0_1 a1_1 then
    some ⟨[.bool (leI a1_1 65536)],[],f66_fresh⟩
  else
    some ⟨[.bool false],[],f66_fresh⟩
  else
    some ⟨[.bool false],[],f66_fresh⟩:=by kernel_rfl
theorem f66_run (ext:Run) (n:Nat) (a0_1 a1_1:Int):runE G ext (n+1) 66 [.int a0_1,.int a1_1]=f66 (runE G ext n) n a0_1 a1_1:=runE_succ f66_at f66_in
noncomputable def f34 (run:Run) (n:Nat) (a0_1 a1_1:Int) (a2_1 a3_1:Int):Option Res:=evalK G run n f34_info.keep 0 f34_info.body (retE G f34_info) (f34_info.start [.int a0_1,.int a1_1,.int a2_1,.int a3_1])
theorem f34_eq (run:Run) (n:Nat) (a0_1 a1_1:Int) (a2_1 a3_1:Int):f34 run n a0_1 a1_1 a2_1 a3_1 =
  bif leI 1 a0_1 then
    bif leI a0_1 1024 then
    bif leI 1 a1_1 then
    bif leI a1_1 1024 then
    (run 66 [.int a2_1,.int a3_1]).bind fun r1 =>
    nilV r1.outs (consV r1.vals fun v1 vs1 =>
    nilV vs1 (some ⟨[.bool v1.toBool],[],f34_fresh⟩))
  else
    some ⟨[.bool false],[],f34_fresh⟩
  else
    some ⟨[.bool false],[],f34_fresh⟩
  else
    some ⟨[.bool false],[],f34_fresh⟩
  else
    some ⟨[.bool false],[],f34_fresh⟩:=by kernel_rfl
theorem f34_run (ext:Run) (n:Nat) (a0_1 a1_1:Int) (a2_1 a3_1:Int):runE G ext (n+1) 34 [.int a0_1,.int a1_1,.int a2_1,.int a3_1]=f34 (runE G ext n) n a0_1 a1_1 a2_1 a3_1:=runE_succ f34_at f34_in
noncomputable def f15 (run:Run) (n:Nat) (a0_1:Int) (a0_2 a0_3:List UInt8) (a0_4:Int) (a0_5:List UInt8) (a0_6 a0_7:Int) (a0_8 a0_9:Int) (a0_10 a0_11:Int) (a1_1:List AV):Option Res:=evalK G run n f15_info.keep 0 f15_info.body (retE G f15_info) (f15_info.start [.agg [.agg [.int a0_1,.blob a0_2,.blob a0_3,.int a0_4],.blob a0_5,.int a0_6,.int a0_7,.int a0_8,.int a0_9,.int a0_10,.int a0_11],.slice a1_1])
theorem f15_eq (run:Run) (n:Nat) (a0_1:Int) (a0_2 a0_3:List UInt8) (a0_4:Int) (a0_5:List UInt8) (a0_6 a0_7:Int) (a0_8 a0_9:Int) (a0_10 a0_11:Int) (a1_1:List AV):f15 run n a0_1 a0_2 a0_3 a0_4 a0_5 a0_6 a0_7 a0_8 a0_9 a0_10 a0_11 a1_1 =
  (run 33 [.agg [.agg [.int a0_1,.blob a0_2,.blob a0_3,.int a0_4],.blob a0_5,.int a0_6,.int a0_7,.int a0_8,.int a0_9,.int a0_10,.int a0_11],.slice a1_1]).bind fun r1 =>
    nilV r1.outs (consV r1.vals fun v1 vs1 =>
    nilV vs1 (bif !(eqI ((v1.fld 0).toInt) 0) then
    some ⟨[.int ((v1.fld 0).toInt)],[],f15_fresh⟩
  else
    (run 34 [.int a0_6,.int a0_7,.int a0_8,.int a0_9]).bind fun r2 =>
    nilV r2.outs (consV r2.vals fun v2 vs2 =>
    nilV vs2 (bif !v2.toBool then
    some ⟨[.int 13],[],f15_fresh⟩
  else
    bif leI (a1_1.length:Int) a0_7 then
    some ⟨[.int 11],[],f15_fresh⟩
  else
    some ⟨[.int 0],[],f15_fresh⟩)))):=by kernel_rfl
theorem f15_run (ext:Run) (n:Nat) (a0_1:Int) (a0_2 a0_3:List UInt8) (a0_4:Int) (a0_5:List UInt8) (a0_6 a0_7:Int) (a0_8 a0_9:Int) (a0_10 a0_11:Int) (a1_1:List AV):runE G ext (n+1) 15 [.agg [.agg [.int a0_1,.blob a0_2,.blob a0_3,.int a0_4],.blob a0_5,.int a0_6,.int a0_7,.int a0_8,.int a0_9,.int a0_10,.int a0_11],.slice a1_1]=f15 (runE G ext n) n a0_1 a0_2 a0_3 a0_4 a0_5 a0_6 a0_7 a0_8 a0_9 a0_10 a0_11 a1_1:=runE_succ f15_at f15_in
noncomputable def f77 (run:Run) (n:Nat) (a0_1:List AV) (a1_1:Int):Option Res:=evalK G run n f77_info.keep 0 f77_info.body (retE G f77_info) (f77_info.start [.slice a0_1,.int a1_1])
theorem f77_eq (run:Run) (n:Nat) (a0_1:List AV) (a1_1:Int):f77 run n a0_1 a1_1 =
  bif eqI (a0_1.length:Int) 1 then
    some ⟨[.slice []],[],f77_fresh⟩
  else
    (run 106 [.int (a0_1.length:Int)]).bind fun r1 =>
    nilV r1.outs (consV r1.vals fun v1 vs1 =>
    nilV vs1 (bif ltI a1_1 v1.toInt then
    bif boundsOk 0 v1.toInt (a0_1.length:Int) (a0_1.length:Int)&&true then
    (run 77 [.slice (List.drop 0 (List.take (Int.toNat v1.toInt) a0_1)),.int a1_1]).bind fun r2 =>
    bif r2.fresh then
    nilV r2.outs (consV r2.vals fun v2 vs2 =>
    nilV vs2 (bif boundsOk v1.toInt (a0_1.length:Int) (a0_1.length:Int) (a0_1.length:Int)&&true then
    (run 107 [.slice (List.drop (Int.toNat v1.toInt) (List.take (Int.toNat (a0_1.length:Int)) a0_1))]).bind fun r3 =>
    nilV r3.outs (consV r3.vals fun v3 vs3 =>
    nilV vs3 (bif Nat.ble ((v2.toSlice.length+1)*32) 140737488355328 then
    some ⟨[.slice (v2.toSlice++[.blob v3.toBlob])],[],f77_fresh⟩
  else none))
  else none))
  else none
  else none
  else
    bif boundsOk v1.toInt (a0_1.length:Int) (a0_1.length:Int) (a0_1.length:Int)&&true then
    (run 77 [.slice (List.drop (Int.toNat v1.toInt) (List.take (Int.toNat (a0_1.length:Int)) a0_1)),.int (IntKind.wrap .i64 (a1_1-v1.toInt))]).bind fun r4 =>
    bif r4.fresh then
    nilV r4.outs (consV r4.vals fun v4 vs4 =>
    nilV vs4 (bif boundsOk 0 v1.toInt (a0_1.length:Int) (a0_1.length:Int)&&true then
    (run 107 [.slice (List.drop 0 (List.take (Int.toNat v1.toInt) a0_1))]).bind fun r5 =>
    nilV r5.outs (consV r5.vals fun v5 vs5 =>
    nilV vs5 (bif Nat.ble ((v4.toSlice.length+1)*32) 140737488355328 then
    some ⟨[.slice (v4.toSlice++[.blob v5.toBlob])],[],f77_fresh⟩
  else none))
  else none))
  else none
  else none)):=by kernel_rfl
theorem f77_run (ext:Run) (n:Nat) (a0_1:List AV) (a1_1:Int):runE G ext (n+1) 77 [.slice a0_1,.int a1_1]=f77 (runE G ext n) n a0_1 a1_1:=runE_succ f77_at f77_in
noncomputable def f47 (run:Run) (n:Nat) (a0_1:List AV) (a1_1:Int):Option Res:=evalK G run n f47_info.keep 0 f47_info.body (retE G f47_info) (f47_info.start [.slice a0_1,.int a1_1])
theorem f47_eq (run:Run) (n:Nat) (a0_1:List AV) (a1_1:Int):f47 run n a0_1 a1_1 =
  bif ltI 1048576 (a0_1.length:Int) then
    some ⟨[.agg [.int 0,.int 0,.slice []],.int 4],[],f47_fresh⟩
  else
    bif ltI a1_1 0 then
    some ⟨[.agg [.int 0,.int 0,.slice []],.int 3],[],f47_fresh⟩
  else
    bif leI (a0_1.length:Int) a1_1 then
    some ⟨[.agg [.int 0,.int 0,.slice []],.int 3],[],f47_fresh⟩
  else
    (run 78 [.slice a0_1]).bind fun r1 =>
    bif r1.fresh then
    nilV r1.outs (consV r1.vals fun v1 vs1 =>
    nilV vs1 ((run 77 [.slice v1.toSlice,.int a1_1]).bind fun r2 =>
    bif r2.fresh then
    nilV r2.outs (consV r2.vals fun v2 vs2 =>
    nilV vs2 (some ⟨[.agg [.int a1_1,.int (a0_1.length:Int),.slice v2.toSlice],.int 0],[],f47_fresh⟩))
  else none))
  else none:=by kernel_rfl
theorem f47_run (ext:Run) (n:Nat) (a0_1:List AV) (a1_1:Int):runE G ext (n+1) 47 [.slice a0_1,.int a1_1]=f47 (runE G ext n) n a0_1 a1_1:=runE_succ f47_at f47_in
noncomputable def f41 (run:Run) (n:Nat) (a0_1:List AV) (a1_1:Int):Option Res:=evalK G run n f41_info.keep 0 f41_info.body (retE G f41_info) (f41_info.start [.slice a0_1,.int a1_1])
theorem f41_eq (run:Run) (n:Nat) (a0_1:List AV) (a1_1:Int):f41 run n a0_1 a1_1 =
  (run 73 [.slice a0_1]).bind fun r1 =>
    nilV r1.outs (consV r1.vals fun v1 vs1 =>
    nilV vs1 (bif !(eqI v1.toInt 0) then
    some ⟨[.agg [.int 0,.int 0,.slice []],.int v1.toInt],[],f41_fresh⟩
  else
    (run 74 [.slice a0_1]).bind fun r2 =>
    bif r2.fresh then
    nilV r2.outs (consV r2.vals fun v2 vs2 =>
    nilV vs2 ((run 47 [.slice v2.toSlice,.int a1_1]).bind fun r3 =>
    nilV r3.outs (consV r3.vals fun v3 vs3 =>
    consV vs3 fun v4 vs4 =>
    nilV vs4 (some ⟨[.agg [.int ((v3.fld 0).toInt),.int ((v3.fld 1).toInt),.slice ((v3.fld 2).toSlice)],.int v4.toInt],[],f41_fresh⟩))))
  else none)):=by kernel_rfl
theorem f41_run (ext:Run) (n:Nat) (a0_1:List AV) (a1_1:Int):runE G ext (n+1) 41 [.slice a0_1,.int a1_1]=f41 (runE G ext n) n a0_1 a1_1:=runE_succ f41_at f41_in
noncomputable def f55_l0 (run:Run) (n k0:Nat) (x0_1:List AV) (x1_1 x2_1:Int) (x7_1:List AV) (x8_1:Int):Option Res :=
  iterK (evalK G run n f55_keep 0 (sub [1,1,0,1,0,0] f55_body)) f55_t0 f55_o0 (blockK 0 (seqK (evalK G run n f55_keep 0 (sub [1,1,1] f55_body) (retE G f55_info)) (retE G f55_info))) k0
    ⟨[.val (.slice (.int .i64)) none (.slice x0_1),.val (.int .i64) none (.int x1_1),.val (.int .i64) none (.int x2_1),qa,qa,qa,qa,.val (.slice (.int .i64)) (some (7,0)) (.slice x7_1),.val (.int .i64) none (.int x8_1),qa,qa,qa,qa,qa,qa,qa,qa,qa,qa,qa,qa,qa,qa,qa,qa,qa,qa,qa,qa,qa,.any],[qz,qz,qz,qz,qz,qz,qz,qz,qz,qz,qz,qz,qz,qz,qz,qz,qz,qz,qz,qz,qz,qz,qz,qz,qz,qz,qz,qz,qz,qz,qz],List.replicate 31 0⟩
theorem f55_l0_eq (run:Run) (n k0:Nat) (x0_1:List AV) (x1_1 x2_1:Int) (x7_1:List AV) (x8_1:Int):f55_l0 run n (k0+1) x0_1 x1_1 x2_1 x7_1 x8_1 =
  bif ltI x8_1 (x0_1.length:Int) then
    bif leI x1_1 x8_1 then
    bif inR x8_1 x0_1.length then
    bif leI x2_1 ((nth x0_1 (Int.toNat x8_1)).toInt) then
    bif Nat.ble ((x7_1.length+1)*8) 140737488355328 then
    f55_l0 run n k0 x0_1 x1_1 x2_1 (x7_1++[.int x8_1]) (IntKind.wrap .i64 (x8_1+1))
  else none
  else
    f55_l0 run n k0 x0_1 x1_1 x2_1 x7_1 (IntKind.wrap .i64 (x8_1+1))
  else none
  else
    f55_l0 run n k0 x0_1 x1_1 x2_1 x7_1 (IntKind.wrap .i64 (x8_1+1))
  else
    some ⟨[.slice x7_1],[],f55_fresh⟩:=by kernel_rfl
noncomputable def f55 (run:Run) (n:Nat) (a0_1:List AV) (a1_1 a2_1:Int):Option Res:=evalK G run n f55_info.keep 0 f55_info.body (retE G f55_info) (f55_info.start [.slice a0_1,.int a1_1,.int a2_1])
theorem f55_eq (run:Run) (n:Nat) (a0_1:List AV) (a1_1 a2_1:Int):f55 run n a0_1 a1_1 a2_1 =
  f55_l0 run n n a0_1 a1_1 a2_1 [] 0:=by kernel_rfl
theorem f55_run (ext:Run) (n:Nat) (a0_1:List AV) (a1_1 a2_1:Int):runE G ext (n+1) 55 [.slice a0_1,.int a1_1,.int a2_1]=f55 (runE G ext n) n a0_1 a1_1 a2_1:=runE_succ f55_at f55_in
noncomputable def f139_l0 (run:Run) (n k0:Nat) (x0_1:List AV) (x1_1 x5_1 x6_1:Int):Option Res :=
  iterK (evalK G run n f139_keep 0 (sub [1,1,0,1,0,0] f139_body)) f139_t0 f139_o0 (blockK 0 (seqK (evalK G run n f139_keep 0 (sub [1,1,1] f139_body) (retE G f139_info)) (retE G f139_info))) k0
    ⟨[.val (.slice (.int .i64)) none (.slice x0_1),.val (.int .i64) none (.int x1_1),qa,qa,qa,.val (.int .i64) none (.int x5_1),.val (.int .i64) none (.int x6_1),qa,qa,qa,qa,qa,qa,qa,qa,qa,qa,qa,qa,qa,qa,.any],[qz,qz,qz,qz,qz,qz,qz,qz,qz,qz,qz,qz,qz,qz,qz,qz,qz,qz,qz,qz,qz,qz],List.replicate 22 0⟩
theorem f139_l0_eq (run:Run) (n k0:Nat) (x0_1:List AV) (x1_1 x5_1 x6_1:Int):f139_l0 run n (k0+1) x0_1 x1_1 x5_1 x6_1 =
  bif ltI x6_1 (x0_1.length:Int) then
    bif inR x6_1 x0_1.length then
    bif leI x1_1 ((nth x0_1 (Int.toNat x6_1)).toInt) then
    f139_l0 run n k0 x0_1 x1_1 (IntKind.wrap .i64 (x5_1+1)) (IntKind.wrap .i64 (x6_1+1))
  else
    f139_l0 run n k0 x0_1 x1_1 x5_1 (IntKind.wrap .i64 (x6_1+1))
  else none
  else
    some ⟨[.int x5_1],[],f139_fresh⟩:=by kernel_rfl
noncomputable def f139 (run:Run) (n:Nat) (a0_1:List AV) (a1_1:Int):Option Res:=evalK G run n f139_info.keep 0 f139_info.body (retE G f139_info) (f139_info.start [.slice a0_1,.int a1_1])
theorem f139_eq (run:Run) (n:Nat) (a0_1:List AV) (a1_1:Int):f139 run n a0_1 a1_1 =
  f139_l0 run n n a0_1 a1_1 0 0:=by kernel_rfl
theorem f139_run (ext:Run) (n:Nat) (a0_1:List AV) (a1_1:Int):runE G ext (n+1) 139 [.slice a0_1,.int a1_1]=f139 (runE G ext n) n a0_1 a1_1:=runE_succ f139_at f139_in
noncomputable def f173_l0 (run:Run) (n k0:Nat) (x0_1:List AV):Option Res :=
  iterK (evalK G run n f173_keep 0 (sub [1,0,0,0] f173_body)) f173_t0 f173_o0 (blockK 0 (seqK (evalK G run n f173_keep 0 (sub [1,1] f173_body) (retE G f173_info)) (retE G f173_info))) k0
    ⟨[.val (.slice (.int .i64)) none (.slice x0_1),qa,qa,qa,qa,qa,qa,qa,qa,qa,qa,qa,qa,qa,qa,qa,qa,qa,qa,qa,.any],[qz,qz,qz,qz,qz,qz,qz,qz,qz,qz,qz,qz,qz,qz,qz,qz,qz,qz,qz,qz,qz],List.replicate 21 0⟩
theorem f173_l0_eq (run:Run) (n k0:Nat) (x0_1:List AV):f173_l0 run n (k0+1) x0_1 =
  bif ltI 0 (x0_1.length:Int) then
    bif inR (IntKind.wrap .i64 ((x0_1.length:Int)-1)) x0_1.length then
    bif eqI ((nth x0_1 (Int.toNat (IntKind.wrap .i64 ((x0_1.length:Int)-1)))).toInt) 0 then
    bif boundsOk 0 (IntKind.wrap .i64 ((x0_1.length:Int)-1)) (x0_1.length:Int) (x0_1.length:Int)&&true then
    f173_l0 run n k0 (List.drop 0 (List.take (Int.toNat (IntKind.wrap .i64 ((x0_1.length:Int)-1))) x0_1))
  else none
  else
    some ⟨[.slice x0_1],[],f173_fresh⟩
  else none
  else
    some ⟨[.slice x0_1],[],f173_fresh⟩:=by kernel_rfl
noncomputable def f173 (run:Run) (n:Nat) (a0_1:List AV):Option Res:=evalK G run n f173_info.keep 0 f173_info.body (retE G f173_info) (f173_info.start [.slice a0_1])
theorem f173_eq (run:Run) (n:Nat) (a0_1:List AV):f173 run n a0_1 =
  f173_l0 run n n a0_1:=by kernel_rfl
theorem f173_run (ext:Run) (n:Nat) (a0_1:List AV):runE G ext (n+1) 173 [.slice a0_1]=f173 (runE G ext n) n a0_1:=runE_succ f173_at f173_in
noncomputable def f174_l2 (run:Run) (n k0 k2:Nat) (x0_2 x3_2:List AV) (x4_2 x5_1 x6_1:Int):Option Res :=
  iterK (evalK G run n f174_keep 2 (sub [1,1,0,1,0,0,1,0,0,1,1,0,0] f174_body)) f174_t2 f174_o2 (blockK 2 (blockK 1 (seqK (evalK G run n f174_keep 0 (sub [1,1,0,1,0,0,1,1] f174_body) (seqK (fun t=>iterK (evalK G run n f174_keep 0 (sub [1,1,0,1,0,0] f174_body)) f174_t0 f174_o0 (blockK 0 (seqK (evalK G run n f174_keep 0 (sub [1,1,1] f174_body) (retE G f174_info)) (retE G f174_info))) k0 (t.clear f174_t0 f174_o0)) (blockK 0 (seqK (evalK G run n f174_keep 0 (sub [1,1,1] f174_body) (retE G f174_info)) (retE G f174_info))))) (seqK (fun t=>iterK (evalK G run n f174_keep 0 (sub [1,1,0,1,0,0] f174_body)) f174_t0 f174_o0 (blockK 0 (seqK (evalK G run n f174_keep 0 (sub [1,1,1] f174_body) (retE G f174_info)) (retE G f174_info))) k0 (t.clear f174_t0 f174_o0)) (blockK 0 (seqK (evalK G run n f174_keep 0 (sub [1,1,1] f174_body) (retE G f174_info)) (retE G f174_info))))))) k2
    ⟨[.val (.slice (.int .u64)) none (.slice x0_2),qa,qa,.val (.slice (.int .i64)) (some (3,0)) (.slice x3_2),.val (.int .i64) none (.int x4_2),.val (.int .u64) none (.int x5_1),.val (.int .i64) none (.int x6_1),qa,qa,qa,qa,qa,qa,qa,qa,qa,qa,qa,qa,qa,qa,qa,qa,qa,qa,qa,qa,qa,qa,qa,.any],[qz,qz,qz,qz,qz,qz,qz,qz,qz,qz,qz,qz,qz,qz,qz,qz,qz,qz,qz,qz,qz,qz,qz,qz,qz,qz,qz,qz,qz,qz,qz],List.replicate 31 0⟩
noncomputable def f174_l0 (run:Run) (n k0:Nat) (x0_1 x3_1:List AV) (x4_1:Int):Option Res :=
  iterK (evalK G run n f174_keep 0 (sub [1,1,0,1,0,0] f174_body)) f174_t0 f174_o0 (blockK 0 (seqK (evalK G run n f174_keep 0 (sub [1,1,1] f174_body) (retE G f174_info)) (retE G f174_info))) k0
    ⟨[.val (.slice (.int .u64)) none (.slice x0_1),qa,qa,.val (.slice (.int .i64)) (some (3,0)) (.slice x3_1),.val (.int .i64) none (.int x4_1),qa,qa,qa,qa,qa,qa,qa,qa,qa,qa,qa,qa,qa,qa,qa,qa,qa,qa,qa,qa,qa,qa,qa,qa,qa,.any],[qz,qz,qz,qz,qz,qz,qz,qz,qz,qz,qz,qz,qz,qz,qz,qz,qz,qz,qz,qz,qz,qz,qz,qz,qz,qz,qz,qz,qz,qz,qz],List.replicate 31 0⟩
theorem f174_l2_eq (run:Run) (n k0 k2:Nat) (x0_2 x3_2:List AV) (x4_2 x5_1 x6_1:Int):f174_l2 run n k0 (k2+1) x0_2 x3_2 x4_2 x5_1 x6_1 =
  bif ltI x6_1 4 then
    bif Nat.ble ((x3_2.length+1)*8) 140737488355328 then
    f174_l2 run n k0 k2 x0_2 (x3_2++[.int (IntKind.wrap .i64 (Int.tmod x5_1 65536))]) x4_2 (IntKind.wrap .u64 (Int.tdiv x5_1 65536)) (IntKind.wrap .i64 (x6_1+1))
  else none
  else
    f174_l0 run n k0 x0_2 x3_2 (IntKind.wrap .i64 (x4_2+1)):=by kernel_rfl
theorem f174_l0_eq (run:Run) (n k0:Nat) (x0_1 x3_1:List AV) (x4_1:Int):f174_l0 run n (k0+1) x0_1 x3_1 x4_1 =
  bif ltI x4_1 (x0_1.length:Int) then
    bif inR x4_1 x0_1.length then
    f174_l2 run n k0 n x0_1 x3_1 x4_1 ((nth x0_1 (Int.toNat x4_1)).toInt) 0
  else none
  else
    (run 173 [.slice x3_1]).bind fun r1 =>
    nilV r1.outs (consV r1.vals fun v1 vs1 =>
    nilV vs1 (some ⟨[.slice v1.toSlice],[],f174_fresh⟩)):=by kernel_rfl
noncomputable def f174 (run:Run) (n:Nat) (a0_1:List AV):Option Res:=evalK G run n f174_info.keep 0 f174_info.body (retE G f174_info) (f174_info.start [.slice a0_1])
theorem f174_eq (run:Run) (n:Nat) (a0_1:List AV):f174 run n a0_1 =
  f174_l0 run n n a0_1 [] 0:=by kernel_rfl
theorem f174_run (ext:Run) (n:Nat) (a0_1:List AV):runE G ext (n+1) 174 [.slice a0_1]=f174 (runE G ext n) n a0_1:=runE_succ f174_at f174_in
noncomputable def f160 (run:Run) (n:Nat) (a0_1:Int):Option Res:=evalK G run n f160_info.keep 0 f160_info.body (retE G f160_info) (f160_info.start [.int a0_1])
theorem f160_eq (run:Run) (n:Nat) (a0_1:Int):f160 run n a0_1 =
  (run 174 [.slice [.int a0_1]]).bind fun r1 =>
    nilV r1.outs (consV r1.vals fun v1 vs1 =>
    nilV vs1 (some ⟨[.slice v1.toSlice],[],f160_fresh⟩)):=by kernel_rfl
theorem f160_run (ext:Run) (n:Nat) (a0_1:Int):runE G ext (n+1) 160 [.int a0_1]=f160 (runE G ext n) n a0_1:=runE_succ f160_at f160_in
noncomputable def f161 (run:Run) (n:Nat) (a0_1:Int):Option Res:=evalK G run n f161_info.keep 0 f161_info.body (retE G f161_info) (f161_info.start [.int a0_1])
theorem f161_eq (run:Run) (n:Nat) (a0_1:Int):f161 run n a0_1 =
  bif eqI (IntKind.wrap .i64 (IntKind.wrap .i64 (Int.tdiv a0_1 16)+1)) (IntKind.wrap .i64 (IntKind.wrap .i64 (Int.tdiv a0_1 16)+1))&&leI 0 (IntKind.wrap .i64 (IntKind.wrap .i64 (Int.tdiv a0_1 16)+1))&&Nat.ble (Int.toNat (IntKind.wrap .i64 (IntKind.wrap .i64 (Int.tdiv a0_1 16)+1))*8) 140737488355328 then
    bif leI 0 (Int.tmod a0_1 16) then
    bif inR (IntKind.wrap .i64 (Int.tdiv a0_1 16)) (Int.toNat (IntKind.wrap .i64 (IntKind.wrap .i64 (Int.tdiv a0_1 16)+1))) then
    some ⟨[.slice (List.drop 0 (List.take (Int.toNat (IntKind.wrap .i64 (IntKind.wrap .i64 (Int.tdiv a0_1 16)+1))) ((List.replicate (Int.toNat (IntKind.wrap .i64 (IntKind.wrap .i64 (Int.tdiv a0_1 16)+1))) (.int 0)).set (0+(Int.toNat (IntKind.wrap .i64 (Int.tdiv a0_1 16)))) (.int (IntKind.wrap .i64 (1*2^(min (Int.toNat (Int.tmod a0_1 16)) 64)))))))],[],f161_fresh⟩
  else none
  else none
  else none:=by kernel_rfl
theorem f161_run (ext:Run) (n:Nat) (a0_1:Int):runE G ext (n+1) 161 [.int a0_1]=f161 (runE G ext n) n a0_1:=runE_succ f161_at f161_in
noncomputable def f162_l0 (run:Run) (n k0:Nat) (x0_1 x1_1:List AV) (x5_1:Int):Option Res :=
  iterK (evalK G run n f162_keep 0 (sub [1,1,0,1,0,0] f162_body)) f162_t0 f162_o0 (blockK 0 (seqK (evalK G run n f162_keep 0 (sub [1,1,1] f162_body) (retE G f162_info)) (retE G f162_info))) k0
    ⟨[.val (.slice (.int .i64)) none (.slice x0_1),.val (.slice (.int .i64)) none (.slice x1_1),qa,qa,qa,.val (.int .i64) none (.int x5_1),qa,qa,qa,qa,qa,qa,qa,qa,qa,qa,qa,qa,qa,qa,qa,qa,qa,qa,qa,qa,qa,qa,qa,qa,qa,qa,qa,qa,qa,qa,qa,qa,qa,qa,.any],[qz,qz,qz,qz,qz,qz,qz,qz,qz,qz,qz,qz,qz,qz,qz,qz,qz,qz,qz,qz,qz,qz,qz,qz,qz,qz,qz,qz,qz,qz,qz,qz,qz,qz,qz,qz,qz,qz,qz,qz,qz],List.replicate 41 0⟩
theorem f162_l0_eq (run:Run) (n k0:Nat) (x0_1 x1_1:List AV) (x5_1:Int):f162_l0 run n (k0+1) x0_1 x1_1 x5_1 =
  bif leI 0 x5_1 then
    bif inR x5_1 x0_1.length then
    bif inR x5_1 x1_1.length then
    bif ltI ((nth x1_1 (Int.toNat x5_1)).toInt) ((nth x0_1 (Int.toNat x5_1)).toInt) then
    some ⟨[.int 1],[],f162_fresh⟩
  else
    bif inR x5_1 x0_1.length then
    bif inR x5_1 x1_1.length then
    bif ltI ((nth x0_1 (Int.toNat x5_1)).toInt) ((nth x1_1 (Int.toNat x5_1)).toInt) then
    some ⟨[.int (-1)],[],f162_fresh⟩
  else
    f162_l0 run n k0 x0_1 x1_1 (IntKind.wrap .i64 (x5_1-1))
  else none
  else none
  else none
  else none
  else
    some ⟨[.int 0],[],f162_fresh⟩:=by kernel_rfl
noncomputable def f162 (run:Run) (n:Nat) (a0_1 a1_1:List AV):Option Res:=evalK G run n f162_info.keep 0 f162_info.body (retE G f162_info) (f162_info.start [.slice a0_1,.slice a1_1])
theorem f162_eq (run:Run) (n:Nat) (a0_1 a1_1:List AV):f162 run n a0_1 a1_1 =
  bif !(eqI (a0_1.length:Int) (a1_1.length:Int)) then
    bif ltI (a1_1.length:Int) (a0_1.length:Int) then
    some ⟨[.int 1],[],f162_fresh⟩
  else
    some ⟨[.int (-1)],[],f162_fresh⟩
  else
    f162_l0 run n n a0_1 a1_1 (IntKind.wrap .i64 ((a0_1.length:Int)-1)):=by kernel_rfl
theorem f162_run (ext:Run) (n:Nat) (a0_1 a1_1:List AV):runE G ext (n+1) 162 [.slice a0_1,.slice a1_1]=f162 (runE G ext n) n a0_1 a1_1:=runE_succ f162_at f162_in
end Go.Proofs.YteiahdlklppghaaGreat.Ev

