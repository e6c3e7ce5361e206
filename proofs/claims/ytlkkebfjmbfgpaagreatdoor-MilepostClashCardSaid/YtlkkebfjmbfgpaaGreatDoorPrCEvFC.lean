import Derived.Test.YtlkkebfjmbfgpaaGreatDoorPrCEvFA
namespace Go.Proofs.YtlkkebfjmbfgpaaGreatDoor.Ev
open Go Go.RowKit
set_option maxRecDepth 100000
noncomputable def f113_l0 (run:Run) (n k0:Nat) (x0_1 x1_1:Int) (m1:Nat) (x9_1 x10_1:Int) (o8_1:List AV):Option Res :=
  iterK (evalK G run n f113_keep 0 (sub [1,1,0,1,0,0] f113_body)) f113_t0 f113_o0 (blockK 0 (seqK (nextK G run n f113_keep 0 (sub [1,1,1] f113_body) (retE G f113_info)) (retE G f113_info))) k0
    ⟨[.val (.int .u64) none (.int x0_1),.val (.int .i64) none (.int x1_1),qa,qa,qa,.ref ⟨(.arr m1 (.int .u8)),8,1,[]⟩ 0 m1,qa,qa,qa,.val (.int .i64) none (.int x9_1),.val (.int .i64) none (.int x10_1),qa,qa,qa,qa,qa,qa,qa,qa,qa,qa,qa,qa,qa,qa,.any],[qz,qz,qz,qz,qz,qz,qz,qz,⟨1,some ⟨(.arr m1 (.int .u8)),.agg o8_1⟩⟩,qz,qz,qz,qz,qz,qz,qz,qz,qz,qz,qz,qz,qz,qz,qz,qz,qz],List.replicate 26 0⟩
theorem f113_l0_eq (run:Run) (n k0:Nat) (x0_1 x1_1:Int) (m1:Nat) (x9_1 x10_1:Int) (o8_1:List AV):f113_l0 run n (k0+1) x0_1 x1_1 m1 x9_1 x10_1 o8_1 =
  bif ltI x10_1 x9_1 then
    bif inR (IntKind.wrap .i64 (IntKind.wrap .i64 (x1_1-1)-x10_1)) m1 then
    f113_l0 run n k0 (Int.fdiv x0_1 (2^8)) x1_1 m1 x9_1 (IntKind.wrap .i64 (x10_1+1)) (o8_1.set (0+(Int.toNat (IntKind.wrap .i64 (IntKind.wrap .i64 (x1_1-1)-x10_1)))) (.int (IntKind.wrap .u8 x0_1)))
  else none
  else
    some ⟨[.str (bytesOf (List.drop 0 (List.take m1 o8_1)))],[],f113_fresh⟩:=by kernel_rfl
noncomputable def f113 (run:Run) (n:Nat) (a0_1 a1_1:Int):Option Res:=evalK G run n f113_info.keep 0 f113_info.body (retE G f113_info) (f113_info.start [.int a0_1,.int a1_1])
theorem f113_eq (run:Run) (n:Nat) (a0_1 a1_1:Int):f113 run n a0_1 a1_1 =
  bif eqI a1_1 a1_1&&leI 0 a1_1&&Nat.ble (Int.toNat a1_1*1) 140737488355328 then
    f113_l0 run n n a0_1 a1_1 (Int.toNat a1_1) a1_1 0 (List.replicate (Int.toNat a1_1) (.int 0))
  else none:=by kernel_rfl
theorem f113_run (ext:Run) (n:Nat) (a0_1 a1_1:Int):runE G ext (n+1) 113 [.int a0_1,.int a1_1]=f113 (runE G ext n) n a0_1 a1_1:=runE_succ f113_at f113_in
noncomputable def f62 (run:Run) (n:Nat) (a0_1:Int):Option Res:=evalK G run n f62_info.keep 0 f62_info.body (retE G f62_info) (f62_info.start [.int a0_1])
theorem f62_eq (run:Run) (n:Nat) (a0_1:Int):f62 run n a0_1 =
  (run 113 [.int a0_1,.int 8]).bind fun r1 =>
    nilV r1.outs (consV r1.vals fun v1 vs1 =>
    nilV vs1 (some ⟨[.str v1.toStr],[],f62_fresh⟩)):=by kernel_rfl
theorem f62_run (ext:Run) (n:Nat) (a0_1:Int):runE G ext (n+1) 62 [.int a0_1]=f62 (runE G ext n) n a0_1:=runE_succ f62_at f62_in
noncomputable def f168 (run:Run) (n:Nat) (a0_1:Int):Option Res:=evalK G run n f168_info.keep 0 f168_info.body (retE G f168_info) (f168_info.start [.int a0_1])
theorem f168_eq (run:Run) (n:Nat) (a0_1:Int):f168 run n a0_1 =
  (run 216 [.str [0],.int (IntKind.wrap .i64 (Int.tmod (IntKind.wrap .u64 (119-Int.tmod a0_1 64)) 64))]).bind fun r1 =>
    nilV r1.outs (consV r1.vals fun v1 vs1 =>
    nilV vs1 (bif Nat.ble (1+v1.toStr.length) maxLen then
    (run 62 [.int (IntKind.wrap .u64 (8*a0_1))]).bind fun r2 =>
    nilV r2.outs (consV r2.vals fun v2 vs2 =>
    nilV vs2 (bif Nat.ble (([128]++v1.toStr).length+v2.toStr.length) maxLen then
    some ⟨[.str (([128]++v1.toStr)++v2.toStr)],[],f168_fresh⟩
  else none))
  else none)):=by kernel_rfl
theorem f168_run (ext:Run) (n:Nat) (a0_1:Int):runE G ext (n+1) 168 [.int a0_1]=f168 (runE G ext n) n a0_1:=runE_succ f168_at f168_in
noncomputable def f61 (run:Run) (n:Nat) (a0_1:Int):Option Res:=evalK G run n f61_info.keep 0 f61_info.body (retE G f61_info) (f61_info.start [.int a0_1])
theorem f61_eq (run:Run) (n:Nat) (a0_1:Int):f61 run n a0_1 =
  (run 113 [.int (IntKind.wrap .u64 a0_1),.int 4]).bind fun r1 =>
    nilV r1.outs (consV r1.vals fun v1 vs1 =>
    nilV vs1 (some ⟨[.str v1.toStr],[],f61_fresh⟩)):=by kernel_rfl
theorem f61_run (ext:Run) (n:Nat) (a0_1:Int):runE G ext (n+1) 61 [.int a0_1]=f61 (runE G ext n) n a0_1:=runE_succ f61_at f61_in
noncomputable def f112_l0 (run:Run) (n k0:Nat) (x18_1:List AV) (x19_1:Int) (o0_1:List AV) (o0_2:List UInt8) (o0_3:Int) (o0_4:Bool) (o2_1 o4_1:List UInt8):Option Res :=
  iterK (evalK G run n f112_keep 0 (sub [1,1,1,1,1,0,1,0,0] f112_body)) f112_t0 f112_o0 (blockK 0 (seqK (nextK G run n f112_keep 0 (sub [1,1,1,1,1,1] f112_body) (retE G f112_info)) (retE G f112_info))) k0
    ⟨[.ptr ⟨(.struct [(.arr 8 (.int .u32)),.str,(.int .u64),.bool]),0,0,[]⟩,qa,.ptr ⟨(.blob 32),2,1,[]⟩,qa,.ptr ⟨(.blob 32),4,1,[]⟩,qa,qa,qa,qa,qa,qa,qa,qa,qa,qa,qa,qa,qa,.val (.arr 8 (.int .u32)) none (.agg x18_1),.val (.int .i64) none (.int x19_1),qa,qa,qa,qa,qa,qa,qa,qa,qa,qa,qa,qa,qa,qa,qa,qa,.any],[⟨0,some ⟨(.struct [(.arr 8 (.int .u32)),.str,(.int .u64),.bool]),.agg [.agg o0_1,.str o0_2,.int o0_3,.bool o0_4]⟩⟩,qz,⟨1,some ⟨(.blob 32),.blob o2_1⟩⟩,qz,⟨1,some ⟨(.blob 32),.blob o4_1⟩⟩,qz,qz,qz,qz,qz,qz,qz,qz,qz,qz,qz,qz,qz,qz,qz,qz,qz,qz,qz,qz,qz,qz,qz,qz,qz,qz,qz,qz,qz,qz,qz,qz],List.replicate 37 0⟩
theorem f112_l0_eq (run:Run) (n k0:Nat) (x18_1:List AV) (x19_1:Int) (o0_1:List AV) (o0_2:List UInt8) (o0_3:Int) (o0_4:Bool) (o2_1 o4_1:List UInt8):f112_l0 run n (k0+1) x18_1 x19_1 o0_1 o0_2 o0_3 o0_4 o2_1 o4_1 =
  bif ltI x19_1 8 then
    bif inR x19_1 8 then
    bif boundsOk (IntKind.wrap .i64 (4*x19_1)) (IntKind.wrap .i64 (IntKind.wrap .i64 (4*x19_1)+4)) (IntKind.wrap .i64 (IntKind.wrap .i64 (4*x19_1)+4)) 32&&true then
    (run 61 [.int ((AV.fld (.agg x18_1) (Int.toNat x19_1)).toInt)]).bind fun r3 =>
    nilV r3.outs (consV r3.vals fun v2 vs2 =>
    nilV vs2 (f112_l0 run n k0 x18_1 (IntKind.wrap .i64 (x19_1+1)) o0_1 o0_2 o0_3 o0_4 o2_1 (bytesOf (splice (ofBytes o4_1) (Int.toNat (IntKind.wrap .i64 (4*x19_1))) (List.take ((Int.toNat (IntKind.wrap .i64 (IntKind.wrap .i64 (4*x19_1)+4)))-(Int.toNat (IntKind.wrap .i64 (4*x19_1)))) (ofBytes v2.toStr))))))
  else none
  else none
  else
    some ⟨[.blob o4_1],[.agg [.agg o0_1,.str o0_2,.int o0_3,.bool o0_4]],f112_fresh⟩:=by kernel_rfl
noncomputable def f112 (run:Run) (n:Nat) (a0_1:List AV) (a0_2:List UInt8) (a0_3:Int) (a0_4:Bool):Option Res:=evalK G run n f112_info.keep 0 f112_info.body (retE G f112_info) (f112_info.start [.agg [.agg a0_1,.str a0_2,.int a0_3,.bool a0_4]])
theorem f112_eq (run:Run) (n:Nat) (a0_1:List AV) (a0_2:List UInt8) (a0_3:Int) (a0_4:Bool):f112 run n a0_1 a0_2 a0_3 a0_4 =
  (run 168 [.int a0_3]).bind fun r1 =>
    nilV r1.outs (consV r1.vals fun v1 vs1 =>
    nilV vs1 ((run 111 [.agg [.agg a0_1,.str a0_2,.int a0_3,.bool a0_4],.str v1.toStr]).bind fun r2 =>
    consV r2.outs fun y1 ys1 =>
    nilV ys1 (nilV r2.vals (f112_l0 run n n ((y1.fld 0).toAgg) 0 a0_1 a0_2 a0_3 a0_4 (List.replicate 32 0) (List.replicate 32 0))))):=by kernel_rfl
theorem f112_run (ext:Run) (n:Nat) (a0_1:List AV) (a0_2:List UInt8) (a0_3:Int) (a0_4:Bool):runE G ext (n+1) 112 [.agg [.agg a0_1,.str a0_2,.int a0_3,.bool a0_4]]=f112 (runE G ext n) n a0_1 a0_2 a0_3 a0_4:=runE_succ f112_at f112_in
noncomputable def f59 (run:Run) (n:Nat) (a0_1:List UInt8):Option Res:=evalK G run n f59_info.keep 0 f59_info.body (retE G f59_info) (f59_info.start [.str a0_1])
theorem f59_eq (run:Run) (n:Nat) (a0_1:List UInt8):f59 run n a0_1 =
  (run 110 []).bind fun r1 =>
    nilV r1.outs (consV r1.vals fun v1 vs1 =>
    nilV vs1 ((run 111 [.agg [.agg ((v1.fld 0).toAgg),.str ((v1.fld 1).toStr),.int ((v1.fld 2).toInt),.bool ((v1.fld 3).toBool)],.str a0_1]).bind fun r2 =>
    consV r2.outs fun y1 ys1 =>
    nilV ys1 (nilV r2.vals ((run 112 [.agg [.agg ((y1.fld 0).toAgg),.str ((y1.fld 1).toStr),.int ((y1.fld 2).toInt),.bool ((y1.fld 3).toBool)]]).bind fun r3 =>
    consV r3.outs fun _y2 ys2 =>
    nilV ys2 (consV r3.vals fun v2 vs2 =>
    nilV vs2 (some ⟨[.blob v2.toBlob],[],f59_fresh⟩)))))):=by kernel_rfl
theorem f59_run (ext:Run) (n:Nat) (a0_1:List UInt8):runE G ext (n+1) 59 [.str a0_1]=f59 (runE G ext n) n a0_1:=runE_succ f59_at f59_in
noncomputable def f104 (run:Run) (n:Nat) (a0_1:List UInt8):Option Res:=evalK G run n f104_info.keep 0 f104_info.body (retE G f104_info) (f104_info.start [.str a0_1])
theorem f104_eq (run:Run) (n:Nat) (a0_1:List UInt8):f104 run n a0_1 =
  (run 52 [.str a0_1]).bind fun r1 =>
    nilV r1.outs (consV r1.vals fun v1 vs1 =>
    nilV vs1 ((run 59 [.str v1.toStr]).bind fun r2 =>
    nilV r2.outs (consV r2.vals fun v2 vs2 =>
    nilV vs2 (some ⟨[.blob v2.toBlob],[],f104_fresh⟩)))):=by kernel_rfl
theorem f104_run (ext:Run) (n:Nat) (a0_1:List UInt8):runE G ext (n+1) 104 [.str a0_1]=f104 (runE G ext n) n a0_1:=runE_succ f104_at f104_in
noncomputable def f54 (run:Run) (n:Nat) (a0_1 a1_1:List UInt8):Option Res:=evalK G run n f54_info.keep 0 f54_info.body (retE G f54_info) (f54_info.start [.blob a0_1,.blob a1_1])
theorem f54_eq (run:Run) (n:Nat) (a0_1 a1_1:List UInt8):f54 run n a0_1 a1_1 =
  (run 106 [.int 1,.slice [.str (bytesOf (List.drop 0 (List.take 32 (ofBytes a0_1)))),.str (bytesOf (List.drop 0 (List.take 32 (ofBytes a1_1))))]]).bind fun r1 =>
    nilV r1.outs (consV r1.vals fun v1 vs1 =>
    nilV vs1 (some ⟨[.str v1.toStr],[],f54_fresh⟩)):=by kernel_rfl
theorem f54_run (ext:Run) (n:Nat) (a0_1 a1_1:List UInt8):runE G ext (n+1) 54 [.blob a0_1,.blob a1_1]=f54 (runE G ext n) n a0_1 a1_1:=runE_succ f54_at f54_in
noncomputable def f105 (run:Run) (n:Nat) (a0_1 a1_1:List UInt8):Option Res:=evalK G run n f105_info.keep 0 f105_info.body (retE G f105_info) (f105_info.start [.blob a0_1,.blob a1_1])
theorem f105_eq (run:Run) (n:Nat) (a0_1 a1_1:List UInt8):f105 run n a0_1 a1_1 =
  (run 54 [.blob a0_1,.blob a1_1]).bind fun r1 =>
    nilV r1.outs (consV r1.vals fun v1 vs1 =>
    nilV vs1 ((run 59 [.str v1.toStr]).bind fun r2 =>
    nilV r2.outs (consV r2.vals fun v2 vs2 =>
    nilV vs2 (some ⟨[.blob v2.toBlob],[],f105_fresh⟩)))):=by kernel_rfl
theorem f105_run (ext:Run) (n:Nat) (a0_1 a1_1:List UInt8):runE G ext (n+1) 105 [.blob a0_1,.blob a1_1]=f105 (runE G ext n) n a0_1 a1_1:=runE_succ f105_at f105_in
noncomputable def f51_l0 (run:Run) (n k0:Nat) (x6_1 x20_1:List AV) (x21_1 x22_1:Int) (o3_1 o3_2:Int) (o3_3:List AV) (o5_1:List UInt8):Option Res :=
  iterK (evalK G run n f51_keep 0 (sub [1,1,1,1,0,1,0,0] f51_body)) f51_t0 f51_o0 (blockK 0 (seqK (nextK G run n f51_keep 0 (sub [1,1,1,1,1] f51_body) (retE G f51_info)) (retE G f51_info))) k0
    ⟨[qa,qa,qa,.ptr ⟨(.struct [(.int .i64),(.int .i64),(.slice (.blob 32))]),3,1,[]⟩,qa,.ptr ⟨(.blob 32),5,1,[]⟩,.val (.slice (.blob 32)) (some (6,0)) (.slice x6_1),qa,qa,qa,qa,qa,qa,qa,qa,qa,qa,qa,qa,qa,.val (.slice .bool) (some (20,0)) (.slice x20_1),.val (.int .i64) none (.int x21_1),.val (.int .i64) none (.int x22_1),qa,qa,qa,qa,qa,qa,qa,qa,qa,qa,qa,qa,qa,qa,qa,qa,qa,qa,qa,qa,qa,qa,qa,qa,.any],[qz,qz,qz,⟨1,some ⟨(.struct [(.int .i64),(.int .i64),(.slice (.blob 32))]),.agg [.int o3_1,.int o3_2,.slice o3_3]⟩⟩,qz,⟨1,some ⟨(.blob 32),.blob o5_1⟩⟩,qz,qz,qz,qz,qz,qz,qz,qz,qz,qz,qz,qz,qz,qz,qz,qz,qz,qz,qz,qz,qz,qz,qz,qz,qz,qz,qz,qz,qz,qz,qz,qz,qz,qz,qz,qz,qz,qz,qz,qz,qz,qz],List.replicate 48 0⟩
theorem f51_l0_eq (run:Run) (n k0:Nat) (x6_1 x20_1:List AV) (x21_1 x22_1:Int) (o3_1 o3_2:Int) (o3_3:List AV) (o5_1:List UInt8):f51_l0 run n (k0+1) x6_1 x20_1 x21_1 x22_1 o3_1 o3_2 o3_3 o5_1 =
  bif ltI x22_1 x21_1 then
    bif inR x22_1 x20_1.length then
    bif (nth x20_1 (Int.toNat x22_1)).toBool then
    bif inR x22_1 o3_3.length then
    (run 105 [.blob ((nth o3_3 (Int.toNat x22_1)).toBlob),.blob o5_1]).bind fun r4 =>
    nilV r4.outs (consV r4.vals fun v4 vs4 =>
    nilV vs4 (bif Nat.ble ((x6_1.length+1)*32) 140737488355328 then
    f51_l0 run n k0 (x6_1++[.blob v4.toBlob]) x20_1 x21_1 (IntKind.wrap .i64 (x22_1+1)) o3_1 o3_2 o3_3 v4.toBlob
  else none))
  else none
  else
    bif inR x22_1 o3_3.length then
    (run 105 [.blob o5_1,.blob ((nth o3_3 (Int.toNat x22_1)).toBlob)]).bind fun r5 =>
    nilV r5.outs (consV r5.vals fun v5 vs5 =>
    nilV vs5 (bif Nat.ble ((x6_1.length+1)*32) 140737488355328 then
    f51_l0 run n k0 (x6_1++[.blob v5.toBlob]) x20_1 x21_1 (IntKind.wrap .i64 (x22_1+1)) o3_1 o3_2 o3_3 v5.toBlob
  else none))
  else none
  else none
  else
    some ⟨[.slice x6_1],[],f51_fresh⟩:=by kernel_rfl
noncomputable def f51 (run:Run) (n:Nat) (a0_1:List UInt8) (a1_1 a1_2:Int) (a1_3:List AV):Option Res:=evalK G run n f51_info.keep 0 f51_info.body (retE G f51_info) (f51_info.start [.str a0_1,.agg [.int a1_1,.int a1_2,.slice a1_3]])
theorem f51_eq (run:Run) (n:Nat) (a0_1:List UInt8) (a1_1 a1_2:Int) (a1_3:List AV):f51 run n a0_1 a1_1 a1_2 a1_3 =
  (run 57 [.agg [.int a1_1,.int a1_2,.slice a1_3]]).bind fun r1 =>
    nilV r1.outs (consV r1.vals fun v1 vs1 =>
    nilV vs1 (bif !(eqI v1.toInt 0) then
    some ⟨[.slice []],[],f51_fresh⟩
  else
    (run 104 [.str a0_1]).bind fun r2 =>
    nilV r2.outs (consV r2.vals fun v2 vs2 =>
    nilV vs2 ((run 55 [.int a1_2,.int a1_1]).bind fun r3 =>
    bif r3.fresh then
    nilV r3.outs (consV r3.vals fun v3 vs3 =>
    nilV vs3 (f51_l0 run n n [.blob v2.toBlob] v3.toSlice (v3.toSlice.length:Int) 0 a1_1 a1_2 a1_3 v2.toBlob))
  else none)))):=by kernel_rfl
theorem f51_run (ext:Run) (n:Nat) (a0_1:List UInt8) (a1_1 a1_2:Int) (a1_3:List AV):runE G ext (n+1) 51 [.str a0_1,.agg [.int a1_1,.int a1_2,.slice a1_3]]=f51 (runE G ext n) n a0_1 a1_1 a1_2 a1_3:=runE_succ f51_at f51_in
noncomputable def f56 (run:Run) (n:Nat) (a0_1:Int) (a1_1:List UInt8):Option Res:=evalK G run n f56_info.keep 0 f56_info.body (retE G f56_info) (f56_info.start [.int a0_1,.blob a1_1])
theorem f56_eq (run:Run) (n:Nat) (a0_1:Int) (a1_1:List UInt8):f56 run n a0_1 a1_1 =
  (run 62 [.int a0_1]).bind fun r1 =>
    nilV r1.outs (consV r1.vals fun v1 vs1 =>
    nilV vs1 ((run 106 [.int 2,.slice [.str v1.toStr,.str (bytesOf (List.drop 0 (List.take 32 (ofBytes a1_1))))]]).bind fun r2 =>
    nilV r2.outs (consV r2.vals fun v2 vs2 =>
    nilV vs2 (some ⟨[.str v2.toStr],[],f56_fresh⟩)))):=by kernel_rfl
theorem f56_run (ext:Run) (n:Nat) (a0_1:Int) (a1_1:List UInt8):runE G ext (n+1) 56 [.int a0_1,.blob a1_1]=f56 (runE G ext n) n a0_1 a1_1:=runE_succ f56_at f56_in
noncomputable def f58 (run:Run) (n:Nat) (a0_1:Int) (a1_1:List UInt8):Option Res:=evalK G run n f58_info.keep 0 f58_info.body (retE G f58_info) (f58_info.start [.int a0_1,.blob a1_1])
theorem f58_eq (run:Run) (n:Nat) (a0_1:Int) (a1_1:List UInt8):f58 run n a0_1 a1_1 =
  (run 56 [.int a0_1,.blob a1_1]).bind fun r1 =>
    nilV r1.outs (consV r1.vals fun v1 vs1 =>
    nilV vs1 ((run 59 [.str v1.toStr]).bind fun r2 =>
    nilV r2.outs (consV r2.vals fun v2 vs2 =>
    nilV vs2 (some ⟨[.blob v2.toBlob],[],f58_fresh⟩)))):=by kernel_rfl
theorem f58_run (ext:Run) (n:Nat) (a0_1:Int) (a1_1:List UInt8):runE G ext (n+1) 58 [.int a0_1,.blob a1_1]=f58 (runE G ext n) n a0_1 a1_1:=runE_succ f58_at f58_in
noncomputable def f24 (run:Run) (n:Nat) (a0_1:List UInt8) (a1_1 a1_2:Int) (a1_3:List AV):Option Res:=evalK G run n f24_info.keep 0 f24_info.body (retE G f24_info) (f24_info.start [.str a0_1,.agg [.int a1_1,.int a1_2,.slice a1_3]])
theorem f24_eq (run:Run) (n:Nat) (a0_1:List UInt8) (a1_1 a1_2:Int) (a1_3:List AV):f24 run n a0_1 a1_1 a1_2 a1_3 =
  (run 57 [.agg [.int a1_1,.int a1_2,.slice a1_3]]).bind fun r1 =>
    nilV r1.outs (consV r1.vals fun v1 vs1 =>
    nilV vs1 (bif !(eqI v1.toInt 0) then
    some ⟨[.blob [0,0,0,0,0,0,0,0,0,0,0,0,0,0,0,0,0,0,0,0,0,0,0,0,0,0,0,0,0,0,0,0],.int v1.toInt],[],f24_fresh⟩
  else
    (run 51 [.str a0_1,.agg [.int a1_1,.int a1_2,.slice a1_3]]).bind fun r2 =>
    bif r2.fresh then
    nilV r2.outs (consV r2.vals fun v2 vs2 =>
    nilV vs2 (bif inR (IntKind.wrap .i64 ((v2.toSlice.length:Int)-1)) v2.toSlice.length then
    (run 58 [.int (IntKind.wrap .u64 a1_2),.blob ((nth v2.toSlice (Int.toNat (IntKind.wrap .i64 ((v2.toSlice.length:Int)-1)))).toBlob)]).bind fun r3 =>
    nilV r3.outs (consV r3.vals fun v3 vs3 =>
    nilV vs3 (some ⟨[.blob v3.toBlob,.int 0],[],f24_fresh⟩))
  else none))
  else none)):=by kernel_rfl
theorem f24_run (ext:Run) (n:Nat) (a0_1:List UInt8) (a1_1 a1_2:Int) (a1_3:List AV):runE G ext (n+1) 24 [.str a0_1,.agg [.int a1_1,.int a1_2,.slice a1_3]]=f24 (runE G ext n) n a0_1 a1_1 a1_2 a1_3:=runE_succ f24_at f24_in
noncomputable def f8 (run:Run) (n:Nat) (a0_1 a1_1:List UInt8) (a2_1 a2_2:Int) (a2_3:List AV):Option Res:=evalK G run n f8_info.keep 0 f8_info.body (retE G f8_info) (f8_info.start [.blob a0_1,.str a1_1,.agg [.int a2_1,.int a2_2,.slice a2_3]])
theorem f8_eq (run:Run) (n:Nat) (a0_1 a1_1:List UInt8) (a2_1 a2_2:Int) (a2_3:List AV):f8 run n a0_1 a1_1 a2_1 a2_2 a2_3 =
  (run 24 [.str a1_1,.agg [.int a2_1,.int a2_2,.slice a2_3]]).bind fun r1 =>
    nilV r1.outs (consV r1.vals fun v1 vs1 =>
    consV vs1 fun v2 vs2 =>
    nilV vs2 (bif eqI v2.toInt 0 then
    some ⟨[.bool (eqS v1.toBlob a0_1)],[],f8_fresh⟩
  else
    some ⟨[.bool false],[],f8_fresh⟩)):=by kernel_rfl
theorem f8_run (ext:Run) (n:Nat) (a0_1 a1_1:List UInt8) (a2_1 a2_2:Int) (a2_3:List AV):runE G ext (n+1) 8 [.blob a0_1,.str a1_1,.agg [.int a2_1,.int a2_2,.slice a2_3]]=f8 (runE G ext n) n a0_1 a1_1 a2_1 a2_2 a2_3:=runE_succ f8_at f8_in
noncomputable def f53 (run:Run) (n:Nat) (a0_1:Int) (a1_1:Bool) (a2_1 a2_2:Int) (a2_3 a3_1:List AV):Option Res:=evalK G run n f53_info.keep 0 f53_info.body (retE G f53_info) (f53_info.start [.int a0_1,.bool a1_1,.agg [.int a2_1,.int a2_2,.slice a2_3],.slice a3_1])
theorem f53_eq (run:Run) (n:Nat) (a0_1:Int) (a1_1:Bool) (a2_1 a2_2:Int) (a2_3 a3_1:List AV):f53 run n a0_1 a1_1 a2_1 a2_2 a2_3 a3_1 =
  bif a1_1 then
    bif inR a0_1 a2_3.length then
    bif inR a0_1 a3_1.length then
    (run 54 [.blob ((nth a2_3 (Int.toNat a0_1)).toBlob),.blob ((nth a3_1 (Int.toNat a0_1)).toBlob)]).bind fun r1 =>
    nilV r1.outs (consV r1.vals fun v1 vs1 =>
    nilV vs1 (some ⟨[.str v1.toStr],[.agg [.int a2_1,.int a2_2,.slice a2_3],.slice a3_1],f53_fresh⟩))
  else none
  else none
  else
    bif inR a0_1 a3_1.length then
    bif inR a0_1 a2_3.length then
    (run 54 [.blob ((nth a3_1 (Int.toNat a0_1)).toBlob),.blob ((nth a2_3 (Int.toNat a0_1)).toBlob)]).bind fun r2 =>
    nilV r2.outs (consV r2.vals fun v2 vs2 =>
    nilV vs2 (some ⟨[.str v2.toStr],[.agg [.int a2_1,.int a2_2,.slice a2_3],.slice a3_1],f53_fresh⟩))
  else none
  else none:=by kernel_rfl
theorem f53_run (ext:Run) (n:Nat) (a0_1:Int) (a1_1:Bool) (a2_1 a2_2:Int) (a2_3 a3_1:List AV):runE G ext (n+1) 53 [.int a0_1,.bool a1_1,.agg [.int a2_1,.int a2_2,.slice a2_3],.slice a3_1]=f53 (runE G ext n) n a0_1 a1_1 a2_1 a2_2 a2_3 a3_1:=runE_succ f53_at f53_in
noncomputable def f23_l0 (run:Run) (n k0:Nat) (x5_1 x24_1:List AV) (x25_1 x26_1:Int) (o3_1 o3_2:Int) (o3_3 o4_1:List AV):Option Res :=
  iterK (evalK G run n f23_keep 0 (sub [1,1,1,1,1,0,1,0,0] f23_body)) f23_t0 f23_o0 (blockK 0 (seqK (nextK G run n f23_keep 0 (sub [1,1,1,1,1,1] f23_body) (retE G f23_info)) (retE G f23_info))) k0
    ⟨[qa,qa,qa,.ptr ⟨(.struct [(.int .i64),(.int .i64),(.slice (.blob 32))]),3,1,[]⟩,.ptr ⟨(.slice (.blob 32)),4,1,[]⟩,.val (.slice .str) (some (5,0)) (.slice x5_1),.clo 53 [⟨(.struct [(.int .i64),(.int .i64),(.slice (.blob 32))]),3,1,[]⟩,⟨(.slice (.blob 32)),4,1,[]⟩],qa,qa,qa,qa,qa,qa,qa,qa,qa,qa,qa,qa,qa,qa,qa,qa,qa,.val (.slice .bool) (some (24,0)) (.slice x24_1),.val (.int .i64) none (.int x25_1),.val (.int .i64) none (.int x26_1),qa,qa,qa,qa,qa,qa,qa,qa,qa,qa,qa,qa,qa,qa,qa,qa,qa,qa,qa,qa,qa,qa,qa,qa,.any],[qz,qz,qz,⟨1,some ⟨(.struct [(.int .i64),(.int .i64),(.slice (.blob 32))]),.agg [.int o3_1,.int o3_2,.slice o3_3]⟩⟩,⟨1,some ⟨(.slice (.blob 32)),.slice o4_1⟩⟩,qz,qz,qz,qz,qz,qz,qz,qz,qz,qz,qz,qz,qz,qz,qz,qz,qz,qz,qz,qz,qz,qz,qz,qz,qz,qz,qz,qz,qz,qz,qz,qz,qz,qz,qz,qz,qz,qz,qz,qz,qz,qz,qz,qz,qz,qz,qz],List.replicate 52 0⟩
theorem f23_l0_eq (run:Run) (n k0:Nat) (x5_1 x24_1:List AV) (x25_1 x26_1:Int) (o3_1 o3_2:Int) (o3_3 o4_1:List AV):f23_l0 run n (k0+1) x5_1 x24_1 x25_1 x26_1 o3_1 o3_2 o3_3 o4_1 =
  bif ltI x26_1 x25_1 then
    bif inR x26_1 x24_1.length then
    (run 53 [.int x26_1,.bool ((nth x24_1 (Int.toNat x26_1)).toBool),.agg [.int o3_1,.int o3_2,.slice o3_3],.slice o4_1]).bind fun r4 =>
    consV r4.outs fun y1 ys1 =>
    consV ys1 fun y2 ys2 =>
    nilV ys2 (consV r4.vals fun v4 vs4 =>
    nilV vs4 (bif Nat.ble ((x5_1.length+1)*16) 140737488355328 then
    f23_l0 run n k0 (x5_1++[.str v4.toStr]) x24_1 x25_1 (IntKind.wrap .i64 (x26_1+1)) ((y1.fld 0).toInt) ((y1.fld 1).toInt) ((y1.fld 2).toSlice) y2.toSlice
  else none))
  else none
  else
    bif inR (IntKind.wrap .i64 ((o4_1.length:Int)-1)) o4_1.length then
    (run 56 [.int (IntKind.wrap .u64 o3_2),.blob ((nth o4_1 (Int.toNat (IntKind.wrap .i64 ((o4_1.length:Int)-1)))).toBlob)]).bind fun r5 =>
    nilV r5.outs (consV r5.vals fun v5 vs5 =>
    nilV vs5 (bif Nat.ble ((x5_1.length+1)*16) 140737488355328 then
    some ⟨[.slice (x5_1++[.str v5.toStr])],[],f23_fresh⟩
  else none))
  else none:=by kernel_rfl
noncomputable def f23 (run:Run) (n:Nat) (a0_1:List UInt8) (a0_2 a0_3:Int) (a0_4:List AV):Option Res:=evalK G run n f23_info.keep 0 f23_info.body (retE G f23_info) (f23_info.start [.agg [.str a0_1,.agg [.int a0_2,.int a0_3,.slice a0_4]]])
theorem f23_eq (run:Run) (n:Nat) (a0_1:List UInt8) (a0_2 a0_3:Int) (a0_4:List AV):f23 run n a0_1 a0_2 a0_3 a0_4 =
  (run 51 [.str a0_1,.agg [.int a0_2,.int a0_3,.slice a0_4]]).bind fun r1 =>
    bif r1.fresh then
    nilV r1.outs (consV r1.vals fun v1 vs1 =>
    nilV vs1 ((run 52 [.str a0_1]).bind fun r2 =>
    nilV r2.outs (consV r2.vals fun v2 vs2 =>
    nilV vs2 ((run 55 [.int a0_3,.int a0_2]).bind fun r3 =>
    bif r3.fresh then
    nilV r3.outs (consV r3.vals fun v3 vs3 =>
    nilV vs3 (f23_l0 run n n [.str v2.toStr] v3.toSlice (v3.toSlice.length:Int) 0 a0_2 a0_3 a0_4 v1.toSlice))
  else none))))
  else none:=by kernel_rfl
theorem f23_run (ext:Run) (n:Nat) (a0_1:List UInt8) (a0_2 a0_3:Int) (a0_4:List AV):runE G ext (n+1) 23 [.agg [.str a0_1,.agg [.int a0_2,.int a0_3,.slice a0_4]]]=f23 (runE G ext n) n a0_1 a0_2 a0_3 a0_4:=runE_succ f23_at f23_in
noncomputable def f7_l0 (run:Run) (n k0:Nat) (x9_1 x10_1:List AV) (x11_1:Int):Option Res :=
  iterK (evalK G run n f7_keep 0 (sub [1,1,1,0,1,0,0] f7_body)) f7_t0 f7_o0 (blockK 0 (seqK (nextK G run n f7_keep 0 (sub [1,1,1,1] f7_body) (retE G f7_info)) (retE G f7_info))) k0
    ⟨[qa,qa,qa,qa,qa,qa,qa,qa,qa,.val (.slice .str) (some (9,0)) (.slice x9_1),.val (.slice .str) (some (10,0)) (.slice x10_1),.val (.int .i64) none (.int x11_1),qa,qa,qa,qa,qa,qa,qa,qa,qa,qa,qa,qa,qa,qa,qa,qa,qa,qa,qa,qa,qa,qa,qa,qa,qa,qa,qa,qa,qa,qa,qa,qa,qa,qa,qa,qa,qa,qa,qa,qa,qa,qa,qa,qa,qa,qa,qa,qa,qa,qa,qa,qa,qa,qa,qa,qa,qa,qa,qa,qa,qa,qa,qa,qa,qa,qa,qa,qa,.any],[qz,qz,qz,qz,qz,qz,qz,qz,qz,qz,qz,qz,qz,qz,qz,qz,qz,qz,qz,qz,qz,qz,qz,qz,qz,qz,qz,qz,qz,qz,qz,qz,qz,qz,qz,qz,qz,qz,qz,qz,qz,qz,qz,qz,qz,qz,qz,qz,qz,qz,qz,qz,qz,qz,qz,qz,qz,qz,qz,qz,qz,qz,qz,qz,qz,qz,qz,qz,qz,qz,qz,qz,qz,qz,qz,qz,qz,qz,qz,qz,qz],List.replicate 81 0⟩
theorem f7_l0_eq (run:Run) (n k0:Nat) (x9_1 x10_1:List AV) (x11_1:Int):f7_l0 run n (k0+1) x9_1 x10_1 x11_1 =
  bif leI x11_1 (x9_1.length:Int) then
    bif leI x11_1 (x10_1.length:Int) then
    bif inR (IntKind.wrap .i64 ((x9_1.length:Int)-x11_1)) x9_1.length then
    bif inR (IntKind.wrap .i64 ((x10_1.length:Int)-x11_1)) x10_1.length then
    bif !(eqS ((nth x9_1 (Int.toNat (IntKind.wrap .i64 ((x9_1.length:Int)-x11_1)))).toStr) ((nth x10_1 (Int.toNat (IntKind.wrap .i64 ((x10_1.length:Int)-x11_1)))).toStr)) then
    some ⟨[.str ((nth x9_1 (Int.toNat (IntKind.wrap .i64 ((x9_1.length:Int)-x11_1)))).toStr),.str ((nth x10_1 (Int.toNat (IntKind.wrap .i64 ((x10_1.length:Int)-x11_1)))).toStr),.bool true],[],f7_fresh⟩
  else
    f7_l0 run n k0 x9_1 x10_1 (IntKind.wrap .i64 (x11_1+1))
  else none
  else none
  else
    some ⟨[.str [],.str [],.bool false],[],f7_fresh⟩
  else
    some ⟨[.str [],.str [],.bool false],[],f7_fresh⟩:=by kernel_rfl
noncomputable def f7 (run:Run) (n:Nat) (a0_1 a1_1:List UInt8) (a1_2 a1_3:Int) (a1_4:List AV) (a2_1:List UInt8) (a2_2 a2_3:Int) (a2_4:List AV):Option Res:=evalK G run n f7_info.keep 0 f7_info.body (retE G f7_info) (f7_info.start [.blob a0_1,.agg [.str a1_1,.agg [.int a1_2,.int a1_3,.slice a1_4]],.agg [.str a2_1,.agg [.int a2_2,.int a2_3,.slice a2_4]]])
theorem f7_eq (run:Run) (n:Nat) (a0_1 a1_1:List UInt8) (a1_2 a1_3:Int) (a1_4:List AV) (a2_1:List UInt8) (a2_2 a2_3:Int) (a2_4:List AV):f7 run n a0_1 a1_1 a1_2 a1_3 a1_4 a2_1 a2_2 a2_3 a2_4 =
  (run 8 [.blob a0_1,.str a1_1,.agg [.int a1_2,.int a1_3,.slice a1_4]]).bind fun r1 =>
    nilV r1.outs (consV r1.vals fun v1 vs1 =>
    nilV vs1 (bif !v1.toBool then
    some ⟨[.str [],.str [],.bool false],[],f7_fresh⟩
  else
    (run 8 [.blob a0_1,.str a2_1,.agg [.int a2_2,.int a2_3,.slice a2_4]]).bind fun r2 =>
    nilV r2.outs (consV r2.vals fun v2 vs2 =>
    nilV vs2 (bif !v2.toBool then
    some ⟨[.str [],.str [],.bool false],[],f7_fresh⟩
  else
    bif !(eqI a1_2 a2_2) then
    some ⟨[.str [],.str [],.bool false],[],f7_fresh⟩
  else
    bif eqS a1_1 a2_1 then
    some ⟨[.str [],.str [],.bool false],[],f7_fresh⟩
  else
    (run 23 [.agg [.str a1_1,.agg [.int a1_2,.int a1_3,.slice a1_4]]]).bind fun r3 =>
    bif r3.fresh then
    nilV r3.outs (consV r3.vals fun v3 vs3 =>
    nilV vs3 ((run 23 [.agg [.str a2_1,.agg [.int a2_2,.int a2_3,.slice a2_4]]]).bind fun r4 =>
    bif r4.fresh then
    nilV r4.outs (consV r4.vals fun v4 vs4 =>
    nilV vs4 (f7_l0 run n n v3.toSlice v4.toSlice 1))
  else none))
  else none)))):=by kernel_rfl
theorem f7_run (ext:Run) (n:Nat) (a0_1 a1_1:List UInt8) (a1_2 a1_3:Int) (a1_4:List AV) (a2_1:List UInt8) (a2_2 a2_3:Int) (a2_4:List AV):runE G ext (n+1) 7 [.blob a0_1,.agg [.str a1_1,.agg [.int a1_2,.int a1_3,.slice a1_4]],.agg [.str a2_1,.agg [.int a2_2,.int a2_3,.slice a2_4]]]=f7 (runE G ext n) n a0_1 a1_1 a1_2 a1_3 a1_4 a2_1 a2_2 a2_3 a2_4:=runE_succ f7_at f7_in
noncomputable def f25 (run:Run) (n:Nat) (a0_1:List UInt8):Option Res:=evalK G run n f25_info.keep 0 f25_info.body (retE G f25_info) (f25_info.start [.str a0_1])
theorem f25_eq (run:Run) (n:Nat) (a0_1:List UInt8):f25 run n a0_1 =
  (run 59 [.str a0_1]).bind fun r1 =>
    nilV r1.outs (consV r1.vals fun v1 vs1 =>
    nilV vs1 (some ⟨[.blob v1.toBlob],[],f25_fresh⟩)):=by kernel_rfl
theorem f25_run (ext:Run) (n:Nat) (a0_1:List UInt8):runE G ext (n+1) 25 [.str a0_1]=f25 (runE G ext n) n a0_1:=runE_succ f25_at f25_in
noncomputable def f9 (run:Run) (n:Nat) (a0_1 a1_1:List UInt8):Option Res:=evalK G run n f9_info.keep 0 f9_info.body (retE G f9_info) (f9_info.start [.str a0_1,.str a1_1])
theorem f9_eq (run:Run) (n:Nat) (a0_1 a1_1:List UInt8):f9 run n a0_1 a1_1 =
  bif !(eqS a0_1 a1_1) then
    (run 25 [.str a0_1]).bind fun r1 =>
    nilV r1.outs (consV r1.vals fun v1 vs1 =>
    nilV vs1 ((run 25 [.str a1_1]).bind fun r2 =>
    nilV r2.outs (consV r2.vals fun v2 vs2 =>
    nilV vs2 (some ⟨[.bool (eqS v1.toBlob v2.toBlob)],[],f9_fresh⟩))))
  else
    some ⟨[.bool false],[],f9_fresh⟩:=by kernel_rfl
theorem f9_run (ext:Run) (n:Nat) (a0_1 a1_1:List UInt8):runE G ext (n+1) 9 [.str a0_1,.str a1_1]=f9 (runE G ext n) n a0_1 a1_1:=runE_succ f9_at f9_in
noncomputable def f3_l0 (run:Run) (n k0:Nat) (x0_1:List AV) (x7_1 x8_1:Int) (x11_1 x12_1:Int) (o9_1:List UInt8) (o9_2 o9_3:Int) (o9_4:List AV) (o10_1:List UInt8) (o10_2 o10_3:Int) (o10_4:List AV):Option Res :=
  iterK (evalK G run n f3_keep 0 (sub [1,1,1,0,1,0,0] f3_body)) f3_t0 f3_o0 (blockK 0 (seqK (nextK G run n f3_keep 0 (sub [1,1,1,1] f3_body) (retE G f3_info)) (retE G f3_info))) k0
    ⟨[.val (.slice .str) none (.slice x0_1),qa,qa,qa,qa,qa,qa,.val (.int .i64) none (.int x7_1),.val (.int .i64) none (.int x8_1),.ptr ⟨(.struct [.str,(.struct [(.int .i64),(.int .i64),(.slice (.blob 32))])]),9,1,[]⟩,.ptr ⟨(.struct [.str,(.struct [(.int .i64),(.int .i64),(.slice (.blob 32))])]),10,1,[]⟩,.val (.int .i64) none (.int x11_1),.val (.int .i64) none (.int x12_1),qa,qa,qa,qa,qa,qa,qa,qa,qa,qa,qa,qa,qa,qa,qa,qa,qa,qa,qa,qa,qa,qa,qa,qa,qa,qa,qa,qa,qa,qa,qa,qa,qa,qa,qa,qa,qa,qa,qa,qa,qa,qa,qa,qa,qa,qa,qa,qa,qa,qa,qa,qa,qa,qa,qa,qa,qa,qa,qa,qa,qa,qa,qa,qa,qa,qa,qa,qa,qa,qa,qa,qa,qa,qa,qa,qa,qa,qa,qa,qa,qa,qa,qa,qa,qa,qa,qa,qa,qa,qa,qa,qa,qa,qa,qa,qa,qa,qa,qa,qa,qa,qa,qa,qa,qa,qa,qa,qa,qa,qa,qa,qa,qa,qa,qa,qa,qa,qa,qa,qa,qa,qa,qa,qa,qa,qa,qa,qa,qa,qa,qa,qa,qa,qa,qa,qa,qa,qa,qa,qa,qa,qa,qa,qa,qa,qa,qa,qa,qa,qa,qa,qa,qa,qa,qa,qa,qa,qa,qa,qa,qa,qa,qa,qa,qa,qa,qa,qa,qa,qa,qa,qa,qa,qa,qa,qa,qa,qa,qa,qa,qa,qa,qa,qa,qa,qa,qa,qa,qa,qa,qa,qa,qa,qa,qa,qa,qa,qa,qa,qa,qa,qa,qa,qa,qa,qa,qa,qa,.any],[qz,qz,qz,qz,qz,qz,qz,qz,qz,⟨1,some ⟨(.struct [.str,(.struct [(.int .i64),(.int .i64),(.slice (.blob 32))])]),.agg [.str o9_1,.agg [.int o9_2,.int o9_3,.slice o9_4]]⟩⟩,⟨1,some ⟨(.struct [.str,(.struct [(.int .i64),(.int .i64),(.slice (.blob 32))])]),.agg [.str o10_1,.agg [.int o10_2,.int o10_3,.slice o10_4]]⟩⟩,qz,qz,qz,qz,qz,qz,qz,qz,qz,qz,qz,qz,qz,qz,qz,qz,qz,qz,qz,qz,qz,qz,qz,qz,qz,qz,qz,qz,qz,qz,qz,qz,qz,qz,qz,qz,qz,qz,qz,qz,qz,qz,qz,qz,qz,qz,qz,qz,qz,qz,qz,qz,qz,qz,qz,qz,qz,qz,qz,qz,qz,qz,qz,qz,qz,qz,qz,qz,qz,qz,qz,qz,qz,qz,qz,qz,qz,qz,qz,qz,qz,qz,qz,qz,qz,qz,qz,qz,qz,qz,qz,qz,qz,qz,qz,qz,qz,qz,qz,qz,qz,qz,qz,qz,qz,qz,qz,qz,qz,qz,qz,qz,qz,qz,qz,qz,qz,qz,qz,qz,qz,qz,qz,qz,qz,qz,qz,qz,qz,qz,qz,qz,qz,qz,qz,qz,qz,qz,qz,qz,qz,qz,qz,qz,qz,qz,qz,qz,qz,qz,qz,qz,qz,qz,qz,qz,qz,qz,qz,qz,qz,qz,qz,qz,qz,qz,qz,qz,qz,qz,qz,qz,qz,qz,qz,qz,qz,qz,qz,qz,qz,qz,qz,qz,qz,qz,qz,qz,qz,qz,qz,qz,qz,qz,qz,qz,qz,qz,qz,qz,qz,qz,qz,qz,qz,qz,qz,qz,qz,qz,qz],List.replicate 222 0⟩
def f3_j3_s (x24_1 x25_1:List UInt8) (x26_1 x27_1:Bool):St :=
  ⟨[qa,qa,qa,qa,qa,qa,qa,qa,qa,qa,qa,qa,qa,qa,qa,qa,qa,qa,qa,qa,qa,qa,qa,qa,.val .str none (.str x24_1),.val .str none (.str x25_1),.val .bool none (.bool x26_1),.val .bool none (.bool x27_1),qa,qa,qa,qa,qa,qa,qa,qa,qa,qa,qa,qa,qa,qa,qa,qa,qa,qa,qa,qa,qa,qa,qa,qa,qa,qa,qa,qa,qa,qa,qa,qa,qa,qa,qa,qa,qa,qa,qa,qa,qa,qa,qa,qa,qa,qa,qa,qa,qa,qa,qa,qa,qa,qa,qa,qa,qa,qa,qa,qa,qa,qa,qa,qa,qa,qa,qa,qa,qa,qa,qa,qa,qa,qa,qa,qa,qa,qa,qa,qa,qa,qa,qa,qa,qa,qa,qa,qa,qa,qa,qa,qa,qa,qa,qa,qa,qa,qa,qa,qa,qa,qa,qa,qa,qa,qa,qa,qa,qa,qa,qa,qa,qa,qa,qa,qa,qa,qa,qa,qa,qa,qa,qa,qa,qa,qa,qa,qa,qa,qa,qa,qa,qa,qa,qa,qa,qa,qa,qa,qa,qa,qa,qa,qa,qa,qa,qa,qa,qa,qa,qa,qa,qa,qa,qa,qa,qa,qa,qa,qa,qa,qa,qa,qa,qa,qa,qa,qa,qa,qa,qa,qa,qa,qa,qa,qa,qa,qa,qa,qa,qa,qa,qa,qa,qa,qa,qa,qa,qa,qa,qa,qa,qa,.any],[qz,qz,qz,qz,qz,qz,qz,qz,qz,qz,qz,qz,qz,qz,qz,qz,qz,qz,qz,qz,qz,qz,qz,qz,qz,qz,qz,qz,qz,qz,qz,qz,qz,qz,qz,qz,qz,qz,qz,qz,qz,qz,qz,qz,qz,qz,qz,qz,qz,qz,qz,qz,qz,qz,qz,qz,qz,qz,qz,qz,qz,qz,qz,qz,qz,qz,qz,qz,qz,qz,qz,qz,qz,qz,qz,qz,qz,qz,qz,qz,qz,qz,qz,qz,qz,qz,qz,qz,qz,qz,qz,qz,qz,qz,qz,qz,qz,qz,qz,qz,qz,qz,qz,qz,qz,qz,qz,qz,qz,qz,qz,qz,qz,qz,qz,qz,qz,qz,qz,qz,qz,qz,qz,qz,qz,qz,qz,qz,qz,qz,qz,qz,qz,qz,qz,qz,qz,qz,qz,qz,qz,qz,qz,qz,qz,qz,qz,qz,qz,qz,qz,qz,qz,qz,qz,qz,qz,qz,qz,qz,qz,qz,qz,qz,qz,qz,qz,qz,qz,qz,qz,qz,qz,qz,qz,qz,qz,qz,qz,qz,qz,qz,qz,qz,qz,qz,qz,qz,qz,qz,qz,qz,qz,qz,qz,qz,qz,qz,qz,qz,qz,qz,qz,qz,qz,qz,qz,qz,qz,qz,qz,qz,qz,qz,qz,qz,qz,qz,qz,qz,qz,qz],List.replicate 222 0⟩
noncomputable def f3_j3 (run:Run) (n _k0:Nat) (x24_1 x25_1:List UInt8) (x26_1 x27_1:Bool):Option Res:=meetK n (evalK G run n f3_keep 0 (sub [1,1,1,1,1,1,1,1,1,1,1,1] f3_body) (retE G f3_info)) (f3_j3_s x24_1 x25_1 x26_1 x27_1)
noncomputable def f3_j3b (run:Run) (n _k0:Nat) (x24_1 x25_1:List UInt8) (x26_1 x27_1:Bool):Option Res:=evalK G run n f3_keep 0 (sub [1,1,1,1,1,1,1,1,1,1,1,1] f3_body) (retE G f3_info) (f3_j3_s x24_1 x25_1 x26_1 x27_1)
def f3_j2_s (o9_17:List UInt8) (o9_18 o9_19:Int) (o9_20:List AV) (o10_17:List UInt8) (o10_18 o10_19:Int) (o10_20:List AV) (o13_2:List UInt8):St :=
  ⟨[qa,qa,qa,qa,qa,qa,qa,qa,qa,.ptr ⟨(.struct [.str,(.struct [(.int .i64),(.int .i64),(.slice (.blob 32))])]),9,1,[]⟩,.ptr ⟨(.struct [.str,(.struct [(.int .i64),(.int .i64),(.slice (.blob 32))])]),10,1,[]⟩,qa,qa,.ptr ⟨(.blob 32),13,1,[]⟩,qa,qa,qa,qa,qa,qa,qa,qa,qa,qa,qa,qa,qa,qa,qa,qa,qa,qa,qa,qa,qa,qa,qa,qa,qa,qa,qa,qa,qa,qa,qa,qa,qa,qa,qa,qa,qa,qa,qa,qa,qa,qa,qa,qa,qa,qa,qa,qa,qa,qa,qa,qa,qa,qa,qa,qa,qa,qa,qa,qa,qa,qa,qa,qa,qa,qa,qa,qa,qa,qa,qa,qa,qa,qa,qa,qa,qa,qa,qa,qa,qa,qa,qa,qa,qa,qa,qa,qa,qa,qa,qa,qa,qa,qa,qa,qa,qa,qa,qa,qa,qa,qa,qa,qa,qa,qa,qa,qa,qa,qa,qa,qa,qa,qa,qa,qa,qa,qa,qa,qa,qa,qa,qa,qa,qa,qa,qa,qa,qa,qa,qa,qa,qa,qa,qa,qa,qa,qa,qa,qa,qa,qa,qa,qa,qa,qa,qa,qa,qa,qa,qa,qa,qa,qa,qa,qa,qa,qa,qa,qa,qa,qa,qa,qa,qa,qa,qa,qa,qa,qa,qa,qa,qa,qa,qa,qa,qa,qa,qa,qa,qa,qa,qa,qa,qa,qa,qa,qa,qa,qa,qa,qa,qa,qa,qa,qa,qa,qa,qa,qa,qa,qa,qa,qa,qa,qa,qa,.any],[qz,qz,qz,qz,qz,qz,qz,qz,qz,⟨1,some ⟨(.struct [.str,(.struct [(.int .i64),(.int .i64),(.slice (.blob 32))])]),.agg [.str o9_17,.agg [.int o9_18,.int o9_19,.slice o9_20]]⟩⟩,⟨1,some ⟨(.struct [.str,(.struct [(.int .i64),(.int .i64),(.slice (.blob 32))])]),.agg [.str o10_17,.agg [.int o10_18,.int o10_19,.slice o10_20]]⟩⟩,qz,qz,⟨1,some ⟨(.blob 32),.blob o13_2⟩⟩,qz,qz,qz,qz,qz,qz,qz,qz,qz,qz,qz,qz,qz,qz,qz,qz,qz,qz,qz,qz,qz,qz,qz,qz,qz,qz,qz,qz,qz,qz,qz,qz,qz,qz,qz,qz,qz,qz,qz,qz,qz,qz,qz,qz,qz,qz,qz,qz,qz,qz,qz,qz,qz,qz,qz,qz,qz,qz,qz,qz,qz,qz,qz,qz,qz,qz,qz,qz,qz,qz,qz,qz,qz,qz,qz,qz,qz,qz,qz,qz,qz,qz,qz,qz,qz,qz,qz,qz,qz,qz,qz,qz,qz,qz,qz,qz,qz,qz,qz,qz,qz,qz,qz,qz,qz,qz,qz,qz,qz,qz,qz,qz,qz,qz,qz,qz,qz,qz,qz,qz,qz,qz,qz,qz,qz,qz,qz,qz,qz,qz,qz,qz,qz,qz,qz,qz,qz,qz,qz,qz,qz,qz,qz,qz,qz,qz,qz,qz,qz,qz,qz,qz,qz,qz,qz,qz,qz,qz,qz,qz,qz,qz,qz,qz,qz,qz,qz,qz,qz,qz,qz,qz,qz,qz,qz,qz,qz,qz,qz,qz,qz,qz,qz,qz,qz,qz,qz,qz,qz,qz,qz,qz,qz,qz,qz,qz,qz,qz,qz,qz,qz,qz,qz,qz,qz,qz,qz,qz],List.replicate 222 0⟩
noncomputable def f3_j2 (run:Run) (n _k0:Nat) (o9_17:List UInt8) (o9_18 o9_19:Int) (o9_20:List AV) (o10_17:List UInt8) (o10_18 o10_19:Int) (o10_20:List AV) (o13_2:List UInt8):Option Res:=meetK n (evalK G run n f3_keep 0 (sub [1,1,1,1,1,1,1,1,1,1] f3_body) (retE G f3_info)) (f3_j2_s o9_17 o9_18 o9_19 o9_20 o10_17 o10_18 o10_19 o10_20 o13_2)
noncomputable def f3_j2b (run:Run) (n _k0:Nat) (o9_17:List UInt8) (o9_18 o9_19:Int) (o9_20:List AV) (o10_17:List UInt8) (o10_18 o10_19:Int) (o10_20:List AV) (o13_2:List UInt8):Option Res:=evalK G run n f3_keep 0 (sub [1,1,1,1,1,1,1,1,1,1] f3_body) (retE G f3_info) (f3_j2_s o9_17 o9_18 o9_19 o9_20 o10_17 o10_18 o10_19 o10_20 o13_2)
def f3_j1_s (x0_4:List AV) (x7_4 x15_1:Int) (o9_13:List UInt8) (o9_14 o9_15:Int) (o9_16:List AV) (o10_13:List UInt8) (o10_14 o10_15:Int) (o10_16:List AV) (o13_1:List UInt8) (o14_1 o14_2:Int) (o14_3:List AV):St :=
  ⟨[.val (.slice .str) none (.slice x0_4),qa,qa,qa,qa,qa,qa,.val (.int .i64) none (.int x7_4),qa,.ptr ⟨(.struct [.str,(.struct [(.int .i64),(.int .i64),(.slice (.blob 32))])]),9,1,[]⟩,.ptr ⟨(.struct [.str,(.struct [(.int .i64),(.int .i64),(.slice (.blob 32))])]),10,1,[]⟩,qa,qa,.ptr ⟨(.blob 32),13,1,[]⟩,.ptr ⟨(.struct [(.int .i64),(.int .i64),(.slice (.blob 32))]),14,1,[]⟩,.val (.int .i64) none (.int x15_1),qa,qa,qa,qa,qa,qa,qa,qa,qa,qa,qa,qa,qa,qa,qa,qa,qa,qa,qa,qa,qa,qa,qa,qa,qa,qa,qa,qa,qa,qa,qa,qa,qa,qa,qa,qa,qa,qa,qa,qa,qa,qa,qa,qa,qa,qa,qa,qa,qa,qa,qa,qa,qa,qa,qa,qa,qa,qa,qa,qa,qa,qa,qa,qa,qa,qa,qa,qa,qa,qa,qa,qa,qa,qa,qa,qa,qa,qa,qa,qa,qa,qa,qa,qa,qa,qa,qa,qa,qa,qa,qa,qa,qa,qa,qa,qa,qa,qa,qa,qa,qa,qa,qa,qa,qa,qa,qa,qa,qa,qa,qa,qa,qa,qa,qa,qa,qa,qa,qa,qa,qa,qa,qa,qa,qa,qa,qa,qa,qa,qa,qa,qa,qa,qa,qa,qa,qa,qa,qa,qa,qa,qa,qa,qa,qa,qa,qa,qa,qa,qa,qa,qa,qa,qa,qa,qa,qa,qa,qa,qa,qa,qa,qa,qa,qa,qa,qa,qa,qa,qa,qa,qa,qa,qa,qa,qa,qa,qa,qa,qa,qa,qa,qa,qa,qa,qa,qa,qa,qa,qa,qa,qa,qa,qa,qa,qa,qa,qa,qa,qa,qa,qa,qa,qa,qa,.any],[qz,qz,qz,qz,qz,qz,qz,qz,qz,⟨1,some ⟨(.struct [.str,(.struct [(.int .i64),(.int .i64),(.slice (.blob 32))])]),.agg [.str o9_13,.agg [.int o9_14,.int o9_15,.slice o9_16]]⟩⟩,⟨1,some ⟨(.struct [.str,(.struct [(.int .i64),(.int .i64),(.slice (.blob 32))])]),.agg [.str o10_13,.agg [.int o10_14,.int o10_15,.slice o10_16]]⟩⟩,qz,qz,⟨1,some ⟨(.blob 32),.blob o13_1⟩⟩,⟨1,some ⟨(.struct [(.int .i64),(.int .i64),(.slice (.blob 32))]),.agg [.int o14_1,.int o14_2,.slice o14_3]⟩⟩,qz,qz,qz,qz,qz,qz,qz,qz,qz,qz,qz,qz,qz,qz,qz,qz,qz,qz,qz,qz,qz,qz,qz,qz,qz,qz,qz,qz,qz,qz,qz,qz,qz,qz,qz,qz,qz,qz,qz,qz,qz,qz,qz,qz,qz,qz,qz,qz,qz,qz,qz,qz,qz,qz,qz,qz,qz,qz,qz,qz,qz,qz,qz,qz,qz,qz,qz,qz,qz,qz,qz,qz,qz,qz,qz,qz,qz,qz,qz,qz,qz,qz,qz,qz,qz,qz,qz,qz,qz,qz,qz,qz,qz,qz,qz,qz,qz,qz,qz,qz,qz,qz,qz,qz,qz,qz,qz,qz,qz,qz,qz,qz,qz,qz,qz,qz,qz,qz,qz,qz,qz,qz,qz,qz,qz,qz,qz,qz,qz,qz,qz,qz,qz,qz,qz,qz,qz,qz,qz,qz,qz,qz,qz,qz,qz,qz,qz,qz,qz,qz,qz,qz,qz,qz,qz,qz,qz,qz,qz,qz,qz,qz,qz,qz,qz,qz,qz,qz,qz,qz,qz,qz,qz,qz,qz,qz,qz,qz,qz,qz,qz,qz,qz,qz,qz,qz,qz,qz,qz,qz,qz,qz,qz,qz,qz,qz,qz,qz,qz,qz,qz,qz,qz,qz,qz,qz,qz],List.replicate 222 0⟩
noncomputable def f3_j1 (run:Run) (n _k0:Nat) (x0_4:List AV) (x7_4 x15_1:Int) (o9_13:List UInt8) (o9_14 o9_15:Int) (o9_16:List AV) (o10_13:List UInt8) (o10_14 o10_15:Int) (o10_16:List AV) (o13_1:List UInt8) (o14_1 o14_2:Int) (o14_3:List AV):Option Res:=meetK n (evalK G run n f3_keep 0 (sub [1,1,1,1,1,1,1,1,1] f3_body) (retE G f3_info)) (f3_j1_s x0_4 x7_4 x15_1 o9_13 o9_14 o9_15 o9_16 o10_13 o10_14 o10_15 o10_16 o13_1 o14_1 o14_2 o14_3)
noncomputable def f3_j1b (run:Run) (n _k0:Nat) (x0_4:List AV) (x7_4 x15_1:Int) (o9_13:List UInt8) (o9_14 o9_15:Int) (o9_16:List AV) (o10_13:List UInt8) (o10_14 o10_15:Int) (o10_16:List AV) (o13_1:List UInt8) (o14_1 o14_2:Int) (o14_3:List AV):Option Res:=evalK G run n f3_keep 0 (sub [1,1,1,1,1,1,1,1,1] f3_body) (retE G f3_info) (f3_j1_s x0_4 x7_4 x15_1 o9_13 o9_14 o9_15 o9_16 o10_13 o10_14 o10_15 o10_16 o13_1 o14_1 o14_2 o14_3)
def f3_j0_s (x0_3:List AV) (x7_3 x8_3:Int) (o9_9:List UInt8) (o9_10 o9_11:Int) (o9_12:List AV) (o10_9:List UInt8) (o10_10 o10_11:Int) (o10_12:List AV):St :=
  ⟨[.val (.slice .str) none (.slice x0_3),qa,qa,qa,qa,qa,qa,.val (.int .i64) none (.int x7_3),.val (.int .i64) none (.int x8_3),.ptr ⟨(.struct [.str,(.struct [(.int .i64),(.int .i64),(.slice (.blob 32))])]),9,1,[]⟩,.ptr ⟨(.struct [.str,(.struct [(.int .i64),(.int .i64),(.slice (.blob 32))])]),10,1,[]⟩,qa,qa,qa,qa,qa,qa,qa,qa,qa,qa,qa,qa,qa,qa,qa,qa,qa,qa,qa,qa,qa,qa,qa,qa,qa,qa,qa,qa,qa,qa,qa,qa,qa,qa,qa,qa,qa,qa,qa,qa,qa,qa,qa,qa,qa,qa,qa,qa,qa,qa,qa,qa,qa,qa,qa,qa,qa,qa,qa,qa,qa,qa,qa,qa,qa,qa,qa,qa,qa,qa,qa,qa,qa,qa,qa,qa,qa,qa,qa,qa,qa,qa,qa,qa,qa,qa,qa,qa,qa,qa,qa,qa,qa,qa,qa,qa,qa,qa,qa,qa,qa,qa,qa,qa,qa,qa,qa,qa,qa,qa,qa,qa,qa,qa,qa,qa,qa,qa,qa,qa,qa,qa,qa,qa,qa,qa,qa,qa,qa,qa,qa,qa,qa,qa,qa,qa,qa,qa,qa,qa,qa,qa,qa,qa,qa,qa,qa,qa,qa,qa,qa,qa,qa,qa,qa,qa,qa,qa,qa,qa,qa,qa,qa,qa,qa,qa,qa,qa,qa,qa,qa,qa,qa,qa,qa,qa,qa,qa,qa,qa,qa,qa,qa,qa,qa,qa,qa,qa,qa,qa,qa,qa,qa,qa,qa,qa,qa,qa,qa,qa,qa,qa,qa,qa,qa,qa,qa,qa,qa,qa,.any],[qz,qz,qz,qz,qz,qz,qz,qz,qz,⟨1,some ⟨(.struct [.str,(.struct [(.int .i64),(.int .i64),(.slice (.blob 32))])]),.agg [.str o9_9,.agg [.int o9_10,.int o9_11,.slice o9_12]]⟩⟩,⟨1,some ⟨(.struct [.str,(.struct [(.int .i64),(.int .i64),(.slice (.blob 32))])]),.agg [.str o10_9,.agg [.int o10_10,.int o10_11,.slice o10_12]]⟩⟩,qz,qz,qz,qz,qz,qz,qz,qz,qz,qz,qz,qz,qz,qz,qz,qz,qz,qz,qz,qz,qz,qz,qz,qz,qz,qz,qz,qz,qz,qz,qz,qz,qz,qz,qz,qz,qz,qz,qz,qz,qz,qz,qz,qz,qz,qz,qz,qz,qz,qz,qz,qz,qz,qz,qz,qz,qz,qz,qz,qz,qz,qz,qz,qz,qz,qz,qz,qz,qz,qz,qz,qz,qz,qz,qz,qz,qz,qz,qz,qz,qz,qz,qz,qz,qz,qz,qz,qz,qz,qz,qz,qz,qz,qz,qz,qz,qz,qz,qz,qz,qz,qz,qz,qz,qz,qz,qz,qz,qz,qz,qz,qz,qz,qz,qz,qz,qz,qz,qz,qz,qz,qz,qz,qz,qz,qz,qz,qz,qz,qz,qz,qz,qz,qz,qz,qz,qz,qz,qz,qz,qz,qz,qz,qz,qz,qz,qz,qz,qz,qz,qz,qz,qz,qz,qz,qz,qz,qz,qz,qz,qz,qz,qz,qz,qz,qz,qz,qz,qz,qz,qz,qz,qz,qz,qz,qz,qz,qz,qz,qz,qz,qz,qz,qz,qz,qz,qz,qz,qz,qz,qz,qz,qz,qz,qz,qz,qz,qz,qz,qz,qz,qz,qz,qz,qz,qz,qz,qz,qz,qz,qz],List.replicate 222 0⟩
noncomputable def f3_j0 (run:Run) (n _k0:Nat) (x0_3:List AV) (x7_3 x8_3:Int) (o9_9:List UInt8) (o9_10 o9_11:Int) (o9_12:List AV) (o10_9:List UInt8) (o10_10 o10_11:Int) (o10_12:List AV):Option Res:=meetK n (evalK G run n f3_keep 0 (sub [1,1,1,1,1] f3_body) (retE G f3_info)) (f3_j0_s x0_3 x7_3 x8_3 o9_9 o9_10 o9_11 o9_12 o10_9 o10_10 o10_11 o10_12)
noncomputable def f3_j0b (run:Run) (n _k0:Nat) (x0_3:List AV) (x7_3 x8_3:Int) (o9_9:List UInt8) (o9_10 o9_11:Int) (o9_12:List AV) (o10_9:List UInt8) (o10_10 o10_11:Int) (o10_12:List AV):Option Res:=evalK G run n f3_keep 0 (sub [1,1,1,1,1] f3_body) (retE G f3_info) (f3_j0_s x0_3 x7_3 x8_3 o9_9 o9_10 o9_11 o9_12 o10_9 o10_10 o10_11 o10_12)
theorem f3_j3b_eq (run:Run) (n k0:Nat) (x24_1 x25_1:List UInt8) (x26_1 x27_1:Bool):f3_j3b run n k0 x24_1 x25_1 x26_1 x27_1 =
  bif eqO x26_1 x27_1 then
    bif !x26_1 then
    (run 4 []).bind fun r15 =>
    nilV r15.outs (consV r15.vals fun v23 vs23 =>
    nilV vs23 (some ⟨[.bool v23.toBool],[],f3_fresh⟩))
  else
    (run 9 [.str x24_1,.str x25_1]).bind fun r16 =>
    nilV r16.outs (consV r16.vals fun v24 vs24 =>
    nilV vs24 (bif v24.toBool then
    (run 4 []).bind fun r17 =>
    nilV r17.outs (consV r17.vals fun v25 vs25 =>
    nilV vs25 (some ⟨[.bool v25.toBool],[],f3_fresh⟩))
  else
    some ⟨[.bool false],[],f3_fresh⟩))
  else
    some ⟨[.bool false],[],f3_fresh⟩:=by kernel_rfl
theorem f3_j3_at (run:Run) (n k0:Nat) (x24_1 x25_1:List UInt8) (x26_1 x27_1:Bool):f3_j3 run (n+1) k0 x24_1 x25_1 x26_1 x27_1=f3_j3b run (n+1) k0 x24_1 x25_1 x26_1 x27_1:=by
  unfold f3_j3 f3_j3b
  exact meetK_succ _ _ _
theorem f3_j2b_eq (run:Run) (n k0:Nat) (o9_17:List UInt8) (o9_18 o9_19:Int) (o9_20:List AV) (o10_17:List UInt8) (o10_18 o10_19:Int) (o10_20:List AV) (o13_2:List UInt8):f3_j2b run n k0 o9_17 o9_18 o9_19 o9_20 o10_17 o10_18 o10_19 o10_20 o13_2 =
  (run 7 [.blob o13_2,.agg [.str o9_17,.agg [.int o9_18,.int o9_19,.slice o9_20]],.agg [.str o10_17,.agg [.int o10_18,.int o10_19,.slice o10_20]]]).bind fun r12 =>
    nilV r12.outs (consV r12.vals fun v18 vs18 =>
    consV vs18 fun v19 vs19 =>
    consV vs19 fun v20 vs20 =>
    nilV vs20 ((run 8 [.blob o13_2,.str o9_17,.agg [.int o9_18,.int o9_19,.slice o9_20]]).bind fun r13 =>
    nilV r13.outs (consV r13.vals fun v21 vs21 =>
    nilV vs21 (bif v21.toBool then
    (run 8 [.blob o13_2,.str o10_17,.agg [.int o10_18,.int o10_19,.slice o10_20]]).bind fun r14 =>
    nilV r14.outs (consV r14.vals fun v22 vs22 =>
    nilV vs22 (bif v22.toBool then
    bif eqI o9_18 o10_18 then
    f3_j3 run n k0 v18.toStr v19.toStr v20.toBool (!(eqS o9_17 o10_17))
  else
    f3_j3 run n k0 v18.toStr v19.toStr v20.toBool false
  else
    f3_j3 run n k0 v18.toStr v19.toStr v20.toBool false))
  else
    f3_j3 run n k0 v18.toStr v19.toStr v20.toBool false)))):=by kernel_rfl
theorem f3_j2_at (run:Run) (n k0:Nat) (o9_17:List UInt8) (o9_18 o9_19:Int) (o9_20:List AV) (o10_17:List UInt8) (o10_18 o10_19:Int) (o10_20:List AV) (o13_2:List UInt8):f3_j2 run (n+1) k0 o9_17 o9_18 o9_19 o9_20 o10_17 o10_18 o10_19 o10_20 o13_2=f3_j2b run (n+1) k0 o9_17 o9_18 o9_19 o9_20 o10_17 o10_18 o10_19 o10_20 o13_2:=by
  unfold f3_j2 f3_j2b
  exact meetK_succ _ _ _
theorem f3_j1b_eq (run:Run) (n k0:Nat) (x0_4:List AV) (x7_4 x15_1:Int) (o9_13:List UInt8) (o9_14 o9_15:Int) (o9_16:List AV) (o10_13:List UInt8) (o10_14 o10_15:Int) (o10_16:List AV) (o13_1:List UInt8) (o14_1 o14_2:Int) (o14_3:List AV):f3_j1b run n k0 x0_4 x7_4 x15_1 o9_13 o9_14 o9_15 o9_16 o10_13 o10_14 o10_15 o10_16 o13_1 o14_1 o14_2 o14_3 =
  bif eqI x15_1 0 then
    bif inR x7_4 x0_4.length then
    (run 7 [.blob o13_1,.agg [.str ((nth x0_4 (Int.toNat x7_4)).toStr),.agg [.int o14_1,.int o14_2,.slice o14_3]],.agg [.str o9_13,.agg [.int o9_14,.int o9_15,.slice o9_16]]]).bind fun r9 =>
    nilV r9.outs (consV r9.vals fun v13 vs13 =>
    consV vs13 fun v14 vs14 =>
    consV vs14 fun v15 vs15 =>
    nilV vs15 ((run 8 [.blob o13_1,.str o9_13,.agg [.int o9_14,.int o9_15,.slice o9_16]]).bind fun r10 =>
    nilV r10.outs (consV r10.vals fun v16 vs16 =>
    nilV vs16 (bif v16.toBool then
    bif eqI o9_14 x7_4 then
    bif inR x7_4 x0_4.length then
    bif !(eqO v15.toBool (!(eqS o9_13 ((nth x0_4 (Int.toNat x7_4)).toStr)))) then
    some ⟨[.bool false],[],f3_fresh⟩
  else
    bif v15.toBool then
    (run 9 [.str v13.toStr,.str v14.toStr]).bind fun r11 =>
    nilV r11.outs (consV r11.vals fun v17 vs17 =>
    nilV vs17 (bif !v17.toBool then
    some ⟨[.bool false],[],f3_fresh⟩
  else
    f3_j2 run n k0 o9_13 o9_14 o9_15 o9_16 o10_13 o10_14 o10_15 o10_16 o13_1))
  else
    f3_j2 run n k0 o9_13 o9_14 o9_15 o9_16 o10_13 o10_14 o10_15 o10_16 o13_1
  else none
  else
    bif !(eqO v15.toBool false) then
    some ⟨[.bool false],[],f3_fresh⟩
  else
    bif v15.toBool then
    (run 9 [.str v13.toStr,.str v14.toStr]).bind fun r18 =>
    nilV r18.outs (consV r18.vals fun v26 vs26 =>
    nilV vs26 (bif !v26.toBool then
    some ⟨[.bool false],[],f3_fresh⟩
  else
    f3_j2 run n k0 o9_13 o9_14 o9_15 o9_16 o10_13 o10_14 o10_15 o10_16 o13_1))
  else
    f3_j2 run n k0 o9_13 o9_14 o9_15 o9_16 o10_13 o10_14 o10_15 o10_16 o13_1
  else
    bif !(eqO v15.toBool false) then
    some ⟨[.bool false],[],f3_fresh⟩
  else
    bif v15.toBool then
    (run 9 [.str v13.toStr,.str v14.toStr]).bind fun r19 =>
    nilV r19.outs (consV r19.vals fun v27 vs27 =>
    nilV vs27 (bif !v27.toBool then
    some ⟨[.bool false],[],f3_fresh⟩
  else
    f3_j2 run n k0 o9_13 o9_14 o9_15 o9_16 o10_13 o10_14 o10_15 o10_16 o13_1))
  else
    f3_j2 run n k0 o9_13 o9_14 o9_15 o9_16 o10_13 o10_14 o10_15 o10_16 o13_1))))
  else none
  else
    f3_j2 run n k0 o9_13 o9_14 o9_15 o9_16 o10_13 o10_14 o10_15 o10_16 o13_1:=by kernel_rfl
theorem f3_j1_at (run:Run) (n k0:Nat) (x0_4:List AV) (x7_4 x15_1:Int) (o9_13:List UInt8) (o9_14 o9_15:Int) (o9_16:List AV) (o10_13:List UInt8) (o10_14 o10_15:Int) (o10_16:List AV) (o13_1:List UInt8) (o14_1 o14_2:Int) (o14_3:List AV):f3_j1 run (n+1) k0 x0_4 x7_4 x15_1 o9_13 o9_14 o9_15 o9_16 o10_13 o10_14 o10_15 o10_16 o13_1 o14_1 o14_2 o14_3=f3_j1b run (n+1) k0 x0_4 x7_4 x15_1 o9_13 o9_14 o9_15 o9_16 o10_13 o10_14 o10_15 o10_16 o13_1 o14_1 o14_2 o14_3:=by
  unfold f3_j1 f3_j1b
  exact meetK_succ _ _ _
theorem f3_j0b_eq (run:Run) (n k0:Nat) (x0_3:List AV) (x7_3 x8_3:Int) (o9_9:List UInt8) (o9_10 o9_11:Int) (o9_12:List AV) (o10_9:List UInt8) (o10_10 o10_11:Int) (o10_12:List AV):f3_j0b run n k0 x0_3 x7_3 x8_3 o9_9 o9_10 o9_11 o9_12 o10_9 o10_10 o10_11 o10_12 =
  (run 5 [.slice x0_3]).bind fun r5 =>
    nilV r5.outs (consV r5.vals fun v5 vs5 =>
    nilV vs5 ((run 6 [.slice x0_3,.int x7_3]).bind fun r6 =>
    nilV r6.outs (consV r6.vals fun v6 vs6 =>
    consV vs6 fun v7 vs7 =>
    nilV vs7 ((run 6 [.slice x0_3,.int x8_3]).bind fun r7 =>
    nilV r7.outs (consV r7.vals fun v8 vs8 =>
    consV vs8 fun v9 vs9 =>
    nilV vs9 (bif eqI v7.toInt 0 then
    bif eqI v9.toInt 0 then
    bif inR x7_3 x0_3.length then
    bif inR x8_3 x0_3.length then
    (run 7 [.blob v5.toBlob,.agg [.str ((nth x0_3 (Int.toNat x7_3)).toStr),.agg [.int ((v6.fld 0).toInt),.int ((v6.fld 1).toInt),.slice ((v6.fld 2).toSlice)]],.agg [.str ((nth x0_3 (Int.toNat x8_3)).toStr),.agg [.int ((v8.fld 0).toInt),.int ((v8.fld 1).toInt),.slice ((v8.fld 2).toSlice)]]]).bind fun r8 =>
    nilV r8.outs (consV r8.vals fun v10 vs10 =>
    consV vs10 fun v11 vs11 =>
    consV vs11 fun v12 vs12 =>
    nilV vs12 (bif v12.toBool then
    some ⟨[.bool false],[],f3_fresh⟩
  else
    bif !(eqS v10.toStr []) then
    some ⟨[.bool false],[],f3_fresh⟩
  else
    bif !(eqS v11.toStr []) then
    some ⟨[.bool false],[],f3_fresh⟩
  else
    f3_j1 run n k0 x0_3 x7_3 v7.toInt o9_9 o9_10 o9_11 o9_12 o10_9 o10_10 o10_11 o10_12 v5.toBlob ((v6.fld 0).toInt) ((v6.fld 1).toInt) ((v6.fld 2).toSlice)))
  else none
  else none
  else
    f3_j1 run n k0 x0_3 x7_3 v7.toInt o9_9 o9_10 o9_11 o9_12 o10_9 o10_10 o10_11 o10_12 v5.toBlob ((v6.fld 0).toInt) ((v6.fld 1).toInt) ((v6.fld 2).toSlice)
  else
    f3_j1 run n k0 x0_3 x7_3 v7.toInt o9_9 o9_10 o9_11 o9_12 o10_9 o10_10 o10_11 o10_12 v5.toBlob ((v6.fld 0).toInt) ((v6.fld 1).toInt) ((v6.fld 2).toSlice))))))):=by kernel_rfl
theorem f3_j0_at (run:Run) (n k0:Nat) (x0_3:List AV) (x7_3 x8_3:Int) (o9_9:List UInt8) (o9_10 o9_11:Int) (o9_12:List AV) (o10_9:List UInt8) (o10_10 o10_11:Int) (o10_12:List AV):f3_j0 run (n+1) k0 x0_3 x7_3 x8_3 o9_9 o9_10 o9_11 o9_12 o10_9 o10_10 o10_11 o10_12=f3_j0b run (n+1) k0 x0_3 x7_3 x8_3 o9_9 o9_10 o9_11 o9_12 o10_9 o10_10 o10_11 o10_12:=by
  unfold f3_j0 f3_j0b
  exact meetK_succ _ _ _
theorem f3_l0_eq (run:Run) (n k0:Nat) (x0_1:List AV) (x7_1 x8_1:Int) (x11_1 x12_1:Int) (o9_1:List UInt8) (o9_2 o9_3:Int) (o9_4:List AV) (o10_1:List UInt8) (o10_2 o10_3:Int) (o10_4:List AV):f3_l0 run n (k0+1) x0_1 x7_1 x8_1 x11_1 x12_1 o9_1 o9_2 o9_3 o9_4 o10_1 o10_2 o10_3 o10_4 =
  bif ltI x12_1 (x0_1.length:Int) then
    bif ltI x12_1 101 then
    bif inR x12_1 x0_1.length then
    f3_l0 run n k0 x0_1 x7_1 x8_1 (mn2 (IntKind.wrap .i64 (x11_1+(((nth x0_1 (Int.toNat x12_1)).toStr).length:Int))) 1048576) (IntKind.wrap .i64 (x12_1+1)) o9_1 o9_2 o9_3 o9_4 o10_1 o10_2 o10_3 o10_4
  else none
  else
    bif ltI 100 (x0_1.length:Int) then
    (run 4 []).bind fun r1 =>
    nilV r1.outs (consV r1.vals fun v1 vs1 =>
    nilV vs1 (some ⟨[.bool v1.toBool],[],f3_fresh⟩))
  else
    bif ltI 5000 x11_1 then
    (run 4 []).bind fun r2 =>
    nilV r2.outs (consV r2.vals fun v2 vs2 =>
    nilV vs2 (some ⟨[.bool v2.toBool],[],f3_fresh⟩))
  else
    bif ltI 2000 (o9_1.length:Int) then
    (run 4 []).bind fun r3 =>
    nilV r3.outs (consV r3.vals fun v3 vs3 =>
    nilV vs3 (some ⟨[.bool v3.toBool],[],f3_fresh⟩))
  else
    bif ltI 2000 (o10_1.length:Int) then
    (run 4 []).bind fun r4 =>
    nilV r4.outs (consV r4.vals fun v4 vs4 =>
    nilV vs4 (some ⟨[.bool v4.toBool],[],f3_fresh⟩))
  else
    f3_j0 run n k0 x0_1 x7_1 x8_1 o9_1 o9_2 o9_3 o9_4 o10_1 o10_2 o10_3 o10_4
  else
    bif ltI 100 (x0_1.length:Int) then
    (run 4 []).bind fun r20 =>
    nilV r20.outs (consV r20.vals fun v28 vs28 =>
    nilV vs28 (some ⟨[.bool v28.toBool],[],f3_fresh⟩))
  else
    bif ltI 5000 x11_1 then
    (run 4 []).bind fun r21 =>
    nilV r21.outs (consV r21.vals fun v29 vs29 =>
    nilV vs29 (some ⟨[.bool v29.toBool],[],f3_fresh⟩))
  else
    bif ltI 2000 (o9_1.length:Int) then
    (run 4 []).bind fun r22 =>
    nilV r22.outs (consV r22.vals fun v30 vs30 =>
    nilV vs30 (some ⟨[.bool v30.toBool],[],f3_fresh⟩))
  else
    bif ltI 2000 (o10_1.length:Int) then
    (run 4 []).bind fun r23 =>
    nilV r23.outs (consV r23.vals fun v31 vs31 =>
    nilV vs31 (some ⟨[.bool v31.toBool],[],f3_fresh⟩))
  else
    f3_j0 run n k0 x0_1 x7_1 x8_1 o9_1 o9_2 o9_3 o9_4 o10_1 o10_2 o10_3 o10_4:=by kernel_rfl
noncomputable def f3 (run:Run) (n:Nat) (a0_1 a1_1 a2_1:List AV):Option Res:=evalK G run n f3_info.keep 0 f3_info.body (retE G f3_info) (f3_info.start [.slice a0_1,.agg a1_1,.agg a2_1])
theorem f3_eq (run:Run) (n:Nat) (a0_1 a1_1 a2_1:List AV):f3 run n a0_1 a1_1 a2_1 =
  f3_l0 run n n a0_1 ((AV.fld (.agg a1_1) 0).toInt) ((AV.fld (.agg a1_1) 1).toInt) 0 0 (((AV.fld (.agg a2_1) 0).fld 0).toStr) ((((AV.fld (.agg a2_1) 0).fld 1).fld 0).toInt) ((((AV.fld (.agg a2_1) 0).fld 1).fld 1).toInt) ((((AV.fld (.agg a2_1) 0).fld 1).fld 2).toSlice) (((AV.fld (.agg a2_1) 1).fld 0).toStr) ((((AV.fld (.agg a2_1) 1).fld 1).fld 0).toInt) ((((AV.fld (.agg a2_1) 1).fld 1).fld 1).toInt) ((((AV.fld (.agg a2_1) 1).fld 1).fld 2).toSlice):=by kernel_rfl
theorem f3_run (ext:Run) (n:Nat) (a0_1 a1_1 a2_1:List AV):runE G ext (n+1) 3 [.slice a0_1,.agg a1_1,.agg a2_1]=f3 (runE G ext n) n a0_1 a1_1 a2_1:=runE_succ f3_at f3_in
noncomputable def f165_l0 (run:Run) (n k0:Nat) (x0_1 x3_1:Int):Option Res :=
  iterK (evalK G run n f165_keep 0 (sub [1,1,1,0,0,0] f165_body)) f165_t0 f165_o0 (blockK 0 (seqK (nextK G run n f165_keep 0 (sub [1,1,1,1] f165_body) (retE G f165_info)) (retE G f165_info))) k0
    ⟨[.val (.int .i64) none (.int x0_1),qa,qa,.val (.int .i64) none (.int x3_1),qa,qa,qa,qa,qa,qa,qa,qa,qa,.any],[qz,qz,qz,qz,qz,qz,qz,qz,qz,qz,qz,qz,qz,qz],List.replicate 14 0⟩
theorem f165_l0_eq (run:Run) (n k0:Nat) (x0_1 x3_1:Int):f165_l0 run n (k0+1) x0_1 x3_1 =
  bif leI x3_1 (IntKind.wrap .i64 (Int.tdiv (IntKind.wrap .i64 (x0_1-1)) 2)) then
    f165_l0 run n k0 x0_1 (IntKind.wrap .i64 (x3_1*2))
  else
    some ⟨[.int x3_1],[],f165_fresh⟩:=by kernel_rfl
noncomputable def f165 (run:Run) (n:Nat) (a0_1:Int):Option Res:=evalK G run n f165_info.keep 0 f165_info.body (retE G f165_info) (f165_info.start [.int a0_1])
theorem f165_eq (run:Run) (n:Nat) (a0_1:Int):f165 run n a0_1 =
  bif ltI a0_1 2 then
    some ⟨[.int 0],[],f165_fresh⟩
  else
    f165_l0 run n n a0_1 1:=by kernel_rfl
theorem f165_run (ext:Run) (n:Nat) (a0_1:Int):runE G ext (n+1) 165 [.int a0_1]=f165 (runE G ext n) n a0_1:=runE_succ f165_at f165_in
noncomputable def f311 (run:Run) (n:Nat) (a0_1:Int):Option Res:=evalK G run n f311_info.keep 0 f311_info.body (retE G f311_info) (f311_info.start [.int a0_1])
theorem f311_eq (run:Run) (n:Nat) (a0_1:Int):f311 run n a0_1 =
  some ⟨[.agg [.int a0_1,.int 0,.int 0,.int 0,.int 0]],[],f311_fresh⟩:=by kernel_rfl
theorem f311_run (ext:Run) (n:Nat) (a0_1:Int):runE G ext (n+1) 311 [.int a0_1]=f311 (runE G ext n) n a0_1:=runE_succ f311_at f311_in
noncomputable def f323 (run:Run) (n:Nat) (a0_1:Int):Option Res:=evalK G run n f323_info.keep 0 f323_info.body (retE G f323_info) (f323_info.start [.int a0_1])
noncomputable def f319 (run:Run) (n:Nat) (a0_1:List AV):Option Res:=evalK G run n f319_info.keep 0 f319_info.body (retE G f319_info) (f319_info.start [.agg a0_1])
noncomputable def f310_l0 (run:Run) (n k0:Nat) (x7_1 x8_1 x9_1:Int) (o2_1 o4_1 o6_1:List AV):Option Res :=
  iterK (evalK G run n f310_keep 0 (sub [1,1,1,1,1,0,1,0,0] f310_body)) f310_t0 f310_o0 (blockK 0 (seqK (nextK G run n f310_keep 0 (sub [1,1,1,1,1,1] f310_body) (retE G f310_info)) (retE G f310_info))) k0
    ⟨[qa,qa,.ptr ⟨(.arr 5 (.int .u64)),2,1,[]⟩,qa,.ptr ⟨(.arr 5 (.int .u64)),4,1,[]⟩,qa,.ptr ⟨(.arr 5 (.int .u64)),6,1,[]⟩,.val (.int .i64) none (.int x7_1),.val (.int .u64) none (.int x8_1),.val (.int .i64) none (.int x9_1),qa,qa,qa,qa,qa,qa,qa,qa,qa,qa,qa,qa,qa,qa,qa,qa,qa,qa,qa,qa,qa,qa,qa,qa,qa,qa,qa,qa,qa,qa,qa,qa,qa,qa,qa,qa,qa,qa,qa,qa,qa,qa,qa,qa,qa,qa,qa,qa,qa,qa,qa,qa,qa,qa,qa,qa,qa,qa,qa,.any],[qz,qz,⟨1,some ⟨(.arr 5 (.int .u64)),.agg o2_1⟩⟩,qz,⟨1,some ⟨(.arr 5 (.int .u64)),.agg o4_1⟩⟩,qz,⟨1,some ⟨(.arr 5 (.int .u64)),.agg o6_1⟩⟩,qz,qz,qz,qz,qz,qz,qz,qz,qz,qz,qz,qz,qz,qz,qz,qz,qz,qz,qz,qz,qz,qz,qz,qz,qz,qz,qz,qz,qz,qz,qz,qz,qz,qz,qz,qz,qz,qz,qz,qz,qz,qz,qz,qz,qz,qz,qz,qz,qz,qz,qz,qz,qz,qz,qz,qz,qz,qz,qz,qz,qz,qz,qz],List.replicate 70 0⟩
noncomputable def f310 (run:Run) (n:Nat) (a0_1:List AV) (a1_1:Int):Option Res:=evalK G run n f310_info.keep 0 f310_info.body (retE G f310_info) (f310_info.start [.agg a0_1,.int a1_1])
theorem f310_eq (run:Run) (n:Nat) (a0_1:List AV) (a1_1:Int):f310 run n a0_1 a1_1 =
  bif ltI a1_1 0 then
    some ⟨[.agg [.int 0,.int 0,.int 0,.int 0,.int 0],.bool false],[],f310_fresh⟩
  else
    (run 319 [.agg a0_1]).bind fun r1 =>
    nilV r1.outs (consV r1.vals fun v1 vs1 =>
    nilV vs1 (bif ltI 0 v1.toInt then
    (run 319 [.agg a0_1]).bind fun r2 =>
    nilV r2.outs (consV r2.vals fun v2 vs2 =>
    nilV vs2 (bif ltI (IntKind.wrap .i64 (320-v2.toInt)) a1_1 then
    some ⟨[.agg [.int 0,.int 0,.int 0,.int 0,.int 0],.bool false],[],f310_fresh⟩
  else
    (run 319 [.agg a0_1]).bind fun r3 =>
    nilV r3.outs (consV r3.vals fun v3 vs3 =>
    nilV vs3 (bif eqI v3.toInt 0 then
    some ⟨[.agg [.int 0,.int 0,.int 0,.int 0,.int 0],.bool true],[],f310_fresh⟩
  else
    f310_l0 run n n (IntKind.wrap .i64 (Int.tdiv a1_1 64)) (IntKind.wrap .u64 (Int.tmod a1_1 64)) (IntKind.wrap .i64 (Int.tdiv a1_1 64)) a0_1 (List.replicate 5 (.int 0)) (List.replicate 5 (.int 0))))))
  else
    (run 319 [.agg a0_1]).bind fun r4 =>
    nilV r4.outs (consV r4.vals fun v4 vs4 =>
    nilV vs4 (bif eqI v4.toInt 0 then
    some ⟨[.agg [.int 0,.int 0,.int 0,.int 0,.int 0],.bool true],[],f310_fresh⟩
  else
    f310_l0 run n n (IntKind.wrap .i64 (Int.tdiv a1_1 64)) (IntKind.wrap .u64 (Int.tmod a1_1 64)) (IntKind.wrap .i64 (Int.tdiv a1_1 64)) a0_1 (List.replicate 5 (.int 0)) (List.replicate 5 (.int 0)))))):=by kernel_rfl
theorem f310_run (ext:Run) (n:Nat) (a0_1:List AV) (a1_1:Int):runE G ext (n+1) 310 [.agg a0_1,.int a1_1]=f310 (runE G ext n) n a0_1 a1_1:=runE_succ f310_at f310_in
noncomputable def f297 (run:Run) (n:Nat) (a0_1:List AV) (a1_1:Int):Option Res:=evalK G run n f297_info.keep 0 f297_info.body (retE G f297_info) (f297_info.start [.slice a0_1,.int a1_1])
theorem f297_eq (run:Run) (n:Nat) (a0_1:List AV) (a1_1:Int):f297 run n a0_1 a1_1 =
  bif ltI a1_1 0 then
    some ⟨[.agg [.int 0,.int 0,.int 0,.int 0,.int 0]],[],f297_fresh⟩
  else
    bif ltI 255 a1_1 then
    some ⟨[.agg [.int 0,.int 0,.int 0,.int 0,.int 0]],[],f297_fresh⟩
  else
    (run 312 [.slice a0_1,.int a1_1]).bind fun r1 =>
    nilV r1.outs (consV r1.vals fun v1 vs1 =>
    nilV vs1 ((run 311 [.int (IntKind.wrap .u64 v1.toInt)]).bind fun r2 =>
    nilV r2.outs (consV r2.vals fun v2 vs2 =>
    nilV vs2 ((run 310 [.agg v2.toAgg,.int a1_1]).bind fun r3 =>
    nilV r3.outs (consV r3.vals fun v3 vs3 =>
    consV vs3 fun _v4 vs4 =>
    nilV vs4 (some ⟨[.agg v3.toAgg],[],f297_fresh⟩)))))):=by kernel_rfl
theorem f297_run (ext:Run) (n:Nat) (a0_1:List AV) (a1_1:Int):runE G ext (n+1) 297 [.slice a0_1,.int a1_1]=f297 (runE G ext n) n a0_1 a1_1:=runE_succ f297_at f297_in
noncomputable def f298 (run:Run) (n:Nat) (a0_1:List AV) (a1_1 a2_1:Int):Option Res:=evalK G run n f298_info.keep 0 f298_info.body (retE G f298_info) (f298_info.start [.slice a0_1,.int a1_1,.int a2_1])
theorem f298_eq (run:Run) (n:Nat) (a0_1:List AV) (a1_1 a2_1:Int):f298 run n a0_1 a1_1 a2_1 =
  bif eqI a1_1 0 then
    some ⟨[.bool true],[],f298_fresh⟩
  else
    bif ltI 0 a1_1 then
    bif leI a1_1 255 then
    (run 312 [.slice a0_1,.int a1_1]).bind fun r1 =>
    nilV r1.outs (consV r1.vals fun v1 vs1 =>
    nilV vs1 (some ⟨[.bool (leI a2_1 v1.toInt)],[],f298_fresh⟩))
  else
    some ⟨[.bool false],[],f298_fresh⟩
  else
    some ⟨[.bool false],[],f298_fresh⟩:=by kernel_rfl
theorem f298_run (ext:Run) (n:Nat) (a0_1:List AV) (a1_1 a2_1:Int):runE G ext (n+1) 298 [.slice a0_1,.int a1_1,.int a2_1]=f298 (runE G ext n) n a0_1 a1_1 a2_1:=runE_succ f298_at f298_in
end Go.Proofs.YtlkkebfjmbfgpaaGreatDoor.Ev

