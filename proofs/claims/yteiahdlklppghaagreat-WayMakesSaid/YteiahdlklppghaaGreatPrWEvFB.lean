import Derived.Test.YteiahdlklppghaaGreatPrWEvFA
namespace Go.Proofs.YteiahdlklppghaaGreat.Ev
open Go Go.RowKit
set_option maxRecDepth 100000
noncomputable def f22_l0 (run:Run) (n k0:Nat) (x0_1:List AV) (x3_1 x4_1:Int):Option Res :=
  iterK (evalK G run n f22_keep 0 (sub [1,1,0,1,0,0] f22_body)) f22_t0 f22_o0 (blockK 0 (seqK (evalK G run n f22_keep 0 (sub [1,1,1] f22_body) (retE G f22_info)) (retE G f22_info))) k0
    ⟨[.val (.slice .str) none (.slice x0_1),qa,qa,.val (.int .i64) none (.int x3_1),.val (.int .i64) none (.int x4_1),qa,qa,qa,qa,qa,qa,qa,qa,qa,qa,qa,qa,qa,qa,qa,qa,qa,qa,qa,qa,qa,qa,qa,qa,qa,qa,qa,qa,qa,qa,qa,qa,qa,qa,qa,.any],[qz,qz,qz,qz,qz,qz,qz,qz,qz,qz,qz,qz,qz,qz,qz,qz,qz,qz,qz,qz,qz,qz,qz,qz,qz,qz,qz,qz,qz,qz,qz,qz,qz,qz,qz,qz,qz,qz,qz,qz,qz],List.replicate 41 0⟩
theorem f22_l0_eq (run:Run) (n k0:Nat) (x0_1:List AV) (x3_1 x4_1:Int):f22_l0 run n (k0+1) x0_1 x3_1 x4_1 =
  bif ltI x4_1 (x0_1.length:Int) then
    bif ltI x4_1 1100 then
    bif inR x4_1 x0_1.length then
    f22_l0 run n k0 x0_1 (mn2 (IntKind.wrap .i64 (IntKind.wrap .i64 (x3_1+1)+(((nth x0_1 (Int.toNat x4_1)).toStr).length:Int))) 1048576) (IntKind.wrap .i64 (x4_1+1))
  else none
  else
    bif ltI 60 (x0_1.length:Int) then
    bif leI (x0_1.length:Int) 1024 then
    some ⟨[.bool true],[],f22_fresh⟩
  else
    bif ltI 1050 (x0_1.length:Int) then
    some ⟨[.bool true],[],f22_fresh⟩
  else
    some ⟨[.bool (ltI 6000 x3_1)],[],f22_fresh⟩
  else
    bif ltI 1050 (x0_1.length:Int) then
    some ⟨[.bool true],[],f22_fresh⟩
  else
    some ⟨[.bool (ltI 6000 x3_1)],[],f22_fresh⟩
  else
    bif ltI 60 (x0_1.length:Int) then
    bif leI (x0_1.length:Int) 1024 then
    some ⟨[.bool true],[],f22_fresh⟩
  else
    bif ltI 1050 (x0_1.length:Int) then
    some ⟨[.bool true],[],f22_fresh⟩
  else
    some ⟨[.bool (ltI 6000 x3_1)],[],f22_fresh⟩
  else
    bif ltI 1050 (x0_1.length:Int) then
    some ⟨[.bool true],[],f22_fresh⟩
  else
    some ⟨[.bool (ltI 6000 x3_1)],[],f22_fresh⟩:=by kernel_rfl
noncomputable def f22 (run:Run) (n:Nat) (a0_1:List AV):Option Res:=evalK G run n f22_info.keep 0 f22_info.body (retE G f22_info) (f22_info.start [.slice a0_1])
theorem f22_eq (run:Run) (n:Nat) (a0_1:List AV):f22 run n a0_1 =
  f22_l0 run n n a0_1 0 0:=by kernel_rfl
theorem f22_run (ext:Run) (n:Nat) (a0_1:List AV):runE G ext (n+1) 22 [.slice a0_1]=f22 (runE G ext n) n a0_1:=runE_succ f22_at f22_in
noncomputable def f6_l0 (run:Run) (n k0:Nat) (x0_1:List AV) (x3_1 x4_1:Int):Option Res :=
  iterK (evalK G run n f6_keep 0 (sub [1,1,0,1,0,0] f6_body)) f6_t0 f6_o0 (blockK 0 (seqK (evalK G run n f6_keep 0 (sub [1,1,1] f6_body) (retE G f6_info)) (retE G f6_info))) k0
    ⟨[.val (.slice (.struct [(.struct [(.int .u32),(.blob 32),(.blob 32),(.int .u64)]),(.slice .str)])) none (.slice x0_1),qa,qa,.val (.int .i64) none (.int x3_1),.val (.int .i64) none (.int x4_1),qa,qa,qa,qa,qa,qa,qa,qa,qa,qa,qa,qa,qa,qa,qa,qa,qa,qa,qa,qa,qa,qa,qa,qa,qa,qa,qa,qa,qa,qa,.any],[qz,qz,qz,qz,qz,qz,qz,qz,qz,qz,qz,qz,qz,qz,qz,qz,qz,qz,qz,qz,qz,qz,qz,qz,qz,qz,qz,qz,qz,qz,qz,qz,qz,qz,qz,qz],List.replicate 36 0⟩
theorem f6_l0_eq (run:Run) (n k0:Nat) (x0_1:List AV) (x3_1 x4_1:Int):f6_l0 run n (k0+1) x0_1 x3_1 x4_1 =
  bif ltI x4_1 (x0_1.length:Int) then
    bif ltI x4_1 30 then
    bif inR x4_1 x0_1.length then
    (run 22 [.slice (((nth x0_1 (Int.toNat x4_1)).fld 1).toSlice)]).bind fun r1 =>
    nilV r1.outs (consV r1.vals fun v1 vs1 =>
    nilV vs1 (bif v1.toBool then
    some ⟨[.bool true],[],f6_fresh⟩
  else
    bif inR x4_1 x0_1.length then
    f6_l0 run n k0 x0_1 (IntKind.wrap .i64 (x3_1+((((nth x0_1 (Int.toNat x4_1)).fld 1).toSlice).length:Int))) (IntKind.wrap .i64 (x4_1+1))
  else none))
  else none
  else
    bif ltI 24 (x0_1.length:Int) then
    some ⟨[.bool true],[],f6_fresh⟩
  else
    some ⟨[.bool (ltI 100 x3_1)],[],f6_fresh⟩
  else
    bif ltI 24 (x0_1.length:Int) then
    some ⟨[.bool true],[],f6_fresh⟩
  else
    some ⟨[.bool (ltI 100 x3_1)],[],f6_fresh⟩:=by kernel_rfl
noncomputable def f6 (run:Run) (n:Nat) (a0_1:List AV):Option Res:=evalK G run n f6_info.keep 0 f6_info.body (retE G f6_info) (f6_info.start [.slice a0_1])
theorem f6_eq (run:Run) (n:Nat) (a0_1:List AV):f6 run n a0_1 =
  f6_l0 run n n a0_1 0 0:=by kernel_rfl
theorem f6_run (ext:Run) (n:Nat) (a0_1:List AV):runE G ext (n+1) 6 [.slice a0_1]=f6 (runE G ext n) n a0_1:=runE_succ f6_at f6_in
noncomputable def f158_l0 (run:Run) (n k0:Nat) (x0_1 x1_1:Int) (m1:Nat) (x9_1 x10_1:Int) (o8_1:List AV):Option Res :=
  iterK (evalK G run n f158_keep 0 (sub [1,1,0,1,0,0] f158_body)) f158_t0 f158_o0 (blockK 0 (seqK (evalK G run n f158_keep 0 (sub [1,1,1] f158_body) (retE G f158_info)) (retE G f158_info))) k0
    ⟨[.val (.int .u64) none (.int x0_1),.val (.int .i64) none (.int x1_1),qa,qa,qa,.ref ⟨(.arr m1 (.int .u8)),8,1,[]⟩ 0 m1,qa,qa,qa,.val (.int .i64) none (.int x9_1),.val (.int .i64) none (.int x10_1),qa,qa,qa,qa,qa,qa,qa,qa,qa,qa,qa,qa,qa,qa,.any],[qz,qz,qz,qz,qz,qz,qz,qz,⟨1,some ⟨(.arr m1 (.int .u8)),.agg o8_1⟩⟩,qz,qz,qz,qz,qz,qz,qz,qz,qz,qz,qz,qz,qz,qz,qz,qz,qz],List.replicate 26 0⟩
theorem f158_l0_eq (run:Run) (n k0:Nat) (x0_1 x1_1:Int) (m1:Nat) (x9_1 x10_1:Int) (o8_1:List AV):f158_l0 run n (k0+1) x0_1 x1_1 m1 x9_1 x10_1 o8_1 =
  bif ltI x10_1 x9_1 then
    bif inR (IntKind.wrap .i64 (IntKind.wrap .i64 (x1_1-1)-x10_1)) m1 then
    f158_l0 run n k0 (Int.fdiv x0_1 (2^8)) x1_1 m1 x9_1 (IntKind.wrap .i64 (x10_1+1)) (o8_1.set (0+(Int.toNat (IntKind.wrap .i64 (IntKind.wrap .i64 (x1_1-1)-x10_1)))) (.int (IntKind.wrap .u8 x0_1)))
  else none
  else
    some ⟨[.str (bytesOf (List.drop 0 (List.take m1 o8_1)))],[],f158_fresh⟩:=by kernel_rfl
noncomputable def f158 (run:Run) (n:Nat) (a0_1 a1_1:Int):Option Res:=evalK G run n f158_info.keep 0 f158_info.body (retE G f158_info) (f158_info.start [.int a0_1,.int a1_1])
theorem f158_eq (run:Run) (n:Nat) (a0_1 a1_1:Int):f158 run n a0_1 a1_1 =
  bif eqI a1_1 a1_1&&leI 0 a1_1&&Nat.ble (Int.toNat a1_1*1) 140737488355328 then
    f158_l0 run n n a0_1 a1_1 (Int.toNat a1_1) a1_1 0 (List.replicate (Int.toNat a1_1) (.int 0))
  else none:=by kernel_rfl
theorem f158_run (ext:Run) (n:Nat) (a0_1 a1_1:Int):runE G ext (n+1) 158 [.int a0_1,.int a1_1]=f158 (runE G ext n) n a0_1 a1_1:=runE_succ f158_at f158_in
noncomputable def f137 (run:Run) (n:Nat) (a0_1:Int):Option Res:=evalK G run n f137_info.keep 0 f137_info.body (retE G f137_info) (f137_info.start [.int a0_1])
theorem f137_eq (run:Run) (n:Nat) (a0_1:Int):f137 run n a0_1 =
  (run 158 [.int (IntKind.wrap .u64 a0_1),.int 4]).bind fun r1 =>
    nilV r1.outs (consV r1.vals fun v1 vs1 =>
    nilV vs1 (some ⟨[.str v1.toStr],[],f137_fresh⟩)):=by kernel_rfl
theorem f137_run (ext:Run) (n:Nat) (a0_1:Int):runE G ext (n+1) 137 [.int a0_1]=f137 (runE G ext n) n a0_1:=runE_succ f137_at f137_in
noncomputable def f138 (run:Run) (n:Nat) (a0_1:Int):Option Res:=evalK G run n f138_info.keep 0 f138_info.body (retE G f138_info) (f138_info.start [.int a0_1])
theorem f138_eq (run:Run) (n:Nat) (a0_1:Int):f138 run n a0_1 =
  (run 158 [.int a0_1,.int 8]).bind fun r1 =>
    nilV r1.outs (consV r1.vals fun v1 vs1 =>
    nilV vs1 (some ⟨[.str v1.toStr],[],f138_fresh⟩)):=by kernel_rfl
theorem f138_run (ext:Run) (n:Nat) (a0_1:Int):runE G ext (n+1) 138 [.int a0_1]=f138 (runE G ext n) n a0_1:=runE_succ f138_at f138_in
noncomputable def f115 (run:Run) (n:Nat) (a0_1:Int) (a0_2 a0_3:List UInt8) (a0_4:Int):Option Res:=evalK G run n f115_info.keep 0 f115_info.body (retE G f115_info) (f115_info.start [.agg [.int a0_1,.blob a0_2,.blob a0_3,.int a0_4]])
theorem f115_eq (run:Run) (n:Nat) (a0_1:Int) (a0_2 a0_3:List UInt8) (a0_4:Int):f115 run n a0_1 a0_2 a0_3 a0_4 =
  (run 137 [.int a0_1]).bind fun r1 =>
    nilV r1.outs (consV r1.vals fun v1 vs1 =>
    nilV vs1 (bif Nat.ble (v1.toStr.length+(bytesOf (List.drop 0 (List.take 32 (ofBytes a0_2)))).length) maxLen then
    bif Nat.ble ((v1.toStr++(bytesOf (List.drop 0 (List.take 32 (ofBytes a0_2))))).length+(bytesOf (List.drop 0 (List.take 32 (ofBytes a0_3)))).length) maxLen then
    (run 138 [.int a0_4]).bind fun r2 =>
    nilV r2.outs (consV r2.vals fun v2 vs2 =>
    nilV vs2 (bif Nat.ble (((v1.toStr++(bytesOf (List.drop 0 (List.take 32 (ofBytes a0_2)))))++(bytesOf (List.drop 0 (List.take 32 (ofBytes a0_3))))).length+v2.toStr.length) maxLen then
    some ⟨[.str (((v1.toStr++(bytesOf (List.drop 0 (List.take 32 (ofBytes a0_2)))))++(bytesOf (List.drop 0 (List.take 32 (ofBytes a0_3)))))++v2.toStr)],[],f115_fresh⟩
  else none))
  else none
  else none)):=by kernel_rfl
theorem f115_run (ext:Run) (n:Nat) (a0_1:Int) (a0_2 a0_3:List UInt8) (a0_4:Int):runE G ext (n+1) 115 [.agg [.int a0_1,.blob a0_2,.blob a0_3,.int a0_4]]=f115 (runE G ext n) n a0_1 a0_2 a0_3 a0_4:=runE_succ f115_at f115_in
noncomputable def f157 (run:Run) (n:Nat) (a0_1:Int) (a1_1:List AV):Option Res:=evalK G run n f157_info.keep 0 f157_info.body (retE G f157_info) (f157_info.start [.int a0_1,.slice a1_1])
theorem f157_eq (run:Run) (n:Nat) (a0_1:Int) (a1_1:List AV):f157 run n a0_1 a1_1 =
  (run 172 [.slice a1_1,.str []]).bind fun r1 =>
    nilV r1.outs (consV r1.vals fun v1 vs1 =>
    nilV vs1 (bif Nat.ble ((bytesOf [.int a0_1]).length+v1.toStr.length) maxLen then
    some ⟨[.str ((bytesOf [.int a0_1])++v1.toStr)],[],f157_fresh⟩
  else none)):=by kernel_rfl
theorem f157_run (ext:Run) (n:Nat) (a0_1:Int) (a1_1:List AV):runE G ext (n+1) 157 [.int a0_1,.slice a1_1]=f157 (runE G ext n) n a0_1 a1_1:=runE_succ f157_at f157_in
noncomputable def f136 (run:Run) (n:Nat) (a0_1:List UInt8):Option Res:=evalK G run n f136_info.keep 0 f136_info.body (retE G f136_info) (f136_info.start [.str a0_1])
theorem f136_eq (run:Run) (n:Nat) (a0_1:List UInt8):f136 run n a0_1 =
  (run 157 [.int 3,.slice [.str a0_1]]).bind fun r1 =>
    nilV r1.outs (consV r1.vals fun v1 vs1 =>
    nilV vs1 (some ⟨[.str v1.toStr],[],f136_fresh⟩)):=by kernel_rfl
theorem f136_run (ext:Run) (n:Nat) (a0_1:List UInt8):runE G ext (n+1) 136 [.str a0_1]=f136 (runE G ext n) n a0_1:=runE_succ f136_at f136_in
noncomputable def f154 (run:Run) (n:Nat):Option Res:=evalK G run n f154_info.keep 0 f154_info.body (retE G f154_info) (f154_info.start [])
theorem f154_eq (run:Run) (n:Nat):f154 run n  =
  some ⟨[.agg [.agg (List.replicate 8 (.int 0)),.str [],.int 0,.bool false]],[],f154_fresh⟩:=by kernel_rfl
theorem f154_run (ext:Run) (n:Nat):runE G ext (n+1) 154 []=f154 (runE G ext n) n :=runE_succ f154_at f154_in
noncomputable def f169 (run:Run) (n:Nat):Option Res:=evalK G run n f169_info.keep 0 f169_info.body (retE G f169_info) (f169_info.start [])
theorem f169_eq (run:Run) (n:Nat):f169 run n  =
  some ⟨[.agg [.int 1779033703,.int 3144134277,.int 1013904242,.int 2773480762,.int 1359893119,.int 2600822924,.int 528734635,.int 1541459225]],[],f169_fresh⟩:=by kernel_rfl
theorem f169_run (ext:Run) (n:Nat):runE G ext (n+1) 169 []=f169 (runE G ext n) n :=runE_succ f169_at f169_in
noncomputable def f134_l0 (run:Run) (n k0:Nat) (x0_1:List UInt8) (x1_1 x7_1:Int) (x9_1 x10_1:Int):Option Res :=
  iterK (evalK G run n f134_keep 0 (sub [1,1,0,1,0,0] f134_body)) f134_t0 f134_o0 (blockK 0 (seqK (evalK G run n f134_keep 0 (sub [1,1,1] f134_body) (retE G f134_info)) (retE G f134_info))) k0
    ⟨[.val .str none (.str x0_1),.val (.int .i64) none (.int x1_1),qa,qa,qa,qa,qa,.val (.int .u64) none (.int x7_1),qa,.val (.int .i64) none (.int x9_1),.val (.int .i64) none (.int x10_1),qa,qa,qa,qa,qa,qa,qa,qa,qa,qa,qa,qa,qa,qa,qa,qa,qa,qa,qa,qa,qa,qa,qa,qa,qa,qa,qa,qa,qa,.any],[qz,qz,qz,qz,qz,qz,qz,qz,qz,qz,qz,qz,qz,qz,qz,qz,qz,qz,qz,qz,qz,qz,qz,qz,qz,qz,qz,qz,qz,qz,qz,qz,qz,qz,qz,qz,qz,qz,qz,qz,qz],List.replicate 41 0⟩
theorem f134_l0_eq (run:Run) (n k0:Nat) (x0_1:List UInt8) (x1_1 x7_1:Int) (x9_1 x10_1:Int):f134_l0 run n (k0+1) x0_1 x1_1 x7_1 x9_1 x10_1 =
  bif ltI x10_1 x9_1 then
    bif leI 0 x1_1 then
    bif ltI x1_1 (x0_1.length:Int) then
    bif ltI x10_1 (IntKind.wrap .i64 ((x0_1.length:Int)-x1_1)) then
    bif inR (IntKind.wrap .i64 (x1_1+x10_1)) x0_1.length then
    f134_l0 run n k0 x0_1 x1_1 (IntKind.wrap .u64 (BitVec.toNat (BitVec.ofInt 64 (IntKind.wrap .u64 (x7_1*2^8)) ||| BitVec.ofInt 64 (IntKind.wrap .u64 ((x0_1.getD (Int.toNat (IntKind.wrap .i64 (x1_1+x10_1))) 0).toNat:Int))))) x9_1 (IntKind.wrap .i64 (x10_1+1))
  else none
  else
    f134_l0 run n k0 x0_1 x1_1 (IntKind.wrap .u64 (x7_1*2^8)) x9_1 (IntKind.wrap .i64 (x10_1+1))
  else
    f134_l0 run n k0 x0_1 x1_1 (IntKind.wrap .u64 (x7_1*2^8)) x9_1 (IntKind.wrap .i64 (x10_1+1))
  else
    f134_l0 run n k0 x0_1 x1_1 (IntKind.wrap .u64 (x7_1*2^8)) x9_1 (IntKind.wrap .i64 (x10_1+1))
  else
    some ⟨[.int x7_1],[],f134_fresh⟩:=by kernel_rfl
noncomputable def f134 (run:Run) (n:Nat) (a0_1:List UInt8) (a1_1 a2_1:Int):Option Res:=evalK G run n f134_info.keep 0 f134_info.body (retE G f134_info) (f134_info.start [.str a0_1,.int a1_1,.int a2_1])
theorem f134_eq (run:Run) (n:Nat) (a0_1:List UInt8) (a1_1 a2_1:Int):f134 run n a0_1 a1_1 a2_1 =
  f134_l0 run n n a0_1 a1_1 0 a2_1 0:=by kernel_rfl
theorem f134_run (ext:Run) (n:Nat) (a0_1:List UInt8) (a1_1 a2_1:Int):runE G ext (n+1) 134 [.str a0_1,.int a1_1,.int a2_1]=f134 (runE G ext n) n a0_1 a1_1 a2_1:=runE_succ f134_at f134_in
noncomputable def f188 (run:Run) (n:Nat) (a0_1:List UInt8) (a1_1:Int):Option Res:=evalK G run n f188_info.keep 0 f188_info.body (retE G f188_info) (f188_info.start [.str a0_1,.int a1_1])
theorem f188_eq (run:Run) (n:Nat) (a0_1:List UInt8) (a1_1:Int):f188 run n a0_1 a1_1 =
  (run 134 [.str a0_1,.int a1_1,.int 4]).bind fun r1 =>
    nilV r1.outs (consV r1.vals fun v1 vs1 =>
    nilV vs1 (some ⟨[.int (IntKind.wrap .u32 v1.toInt)],[],f188_fresh⟩)):=by kernel_rfl
theorem f188_run (ext:Run) (n:Nat) (a0_1:List UInt8) (a1_1:Int):runE G ext (n+1) 188 [.str a0_1,.int a1_1]=f188 (runE G ext n) n a0_1 a1_1:=runE_succ f188_at f188_in
noncomputable def f179 (run:Run) (n:Nat) (a0_1 a1_1:Int):Option Res:=evalK G run n f179_info.keep 0 f179_info.body (retE G f179_info) (f179_info.start [.int a0_1,.int a1_1])
theorem f179_eq (run:Run) (n:Nat) (a0_1 a1_1:Int):f179 run n a0_1 a1_1 =
  bif leI 0 (IntKind.wrap .u64 (BitVec.toNat (BitVec.ofInt 64 (IntKind.wrap .u64 a1_1) &&& BitVec.ofInt 64 31))) then
    bif leI 0 (IntKind.wrap .u64 (32-IntKind.wrap .u64 (BitVec.toNat (BitVec.ofInt 64 (IntKind.wrap .u64 a1_1) &&& BitVec.ofInt 64 31)))) then
    some ⟨[.int (IntKind.wrap .u32 (BitVec.toNat (BitVec.ofInt 32 (Int.fdiv a0_1 (2^(min (Int.toNat (IntKind.wrap .u64 (BitVec.toNat (BitVec.ofInt 64 (IntKind.wrap .u64 a1_1) &&& BitVec.ofInt 64 31)))) 32))) ||| BitVec.ofInt 32 (IntKind.wrap .u32 (a0_1*2^(min (Int.toNat (IntKind.wrap .u64 (32-IntKind.wrap .u64 (BitVec.toNat (BitVec.ofInt 64 (IntKind.wrap .u64 a1_1) &&& BitVec.ofInt 64 31))))) 32))))))],[],f179_fresh⟩
  else none
  else none:=by kernel_rfl
theorem f179_run (ext:Run) (n:Nat) (a0_1 a1_1:Int):runE G ext (n+1) 179 [.int a0_1,.int a1_1]=f179 (runE G ext n) n a0_1 a1_1:=runE_succ f179_at f179_in
noncomputable def f177_l0 (run:Run) (n k0:Nat) (x0_1:List UInt8) (x9_1:Int) (o2_1 o3_1:List AV):Option Res :=
  iterK (evalK G run n f177_keep 0 (sub [1,1,0,1,0,0] f177_body)) f177_t0 f177_o0 (blockK 0 (seqK (evalK G run n f177_keep 0 (sub [1,1,1] f177_body) (retE G f177_info)) (retE G f177_info))) k0
    ⟨[.val .str none (.str x0_1),qa,.ptr ⟨(.arr 64 (.int .u32)),2,1,[]⟩,.ptr ⟨(.arr 64 (.int .u32)),3,1,[]⟩,qa,qa,qa,qa,qa,.val (.int .i64) none (.int x9_1),qa,qa,qa,qa,qa,qa,qa,qa,qa,qa,qa,qa,qa,qa,qa,qa,qa,qa,qa,qa,qa,qa,qa,qa,qa,qa,qa,qa,qa,qa,qa,qa,qa,qa,qa,qa,qa,qa,qa,qa,qa,qa,qa,qa,qa,qa,qa,qa,qa,qa,.any],[qz,qz,⟨1,some ⟨(.arr 64 (.int .u32)),.agg o2_1⟩⟩,⟨1,some ⟨(.arr 64 (.int .u32)),.agg o3_1⟩⟩,qz,qz,qz,qz,qz,qz,qz,qz,qz,qz,qz,qz,qz,qz,qz,qz,qz,qz,qz,qz,qz,qz,qz,qz,qz,qz,qz,qz,qz,qz,qz,qz,qz,qz,qz,qz,qz,qz,qz,qz,qz,qz,qz,qz,qz,qz,qz,qz,qz,qz,qz,qz,qz,qz,qz,qz,qz],List.replicate 61 0⟩
theorem f177_l0_eq (run:Run) (n k0:Nat) (x0_1:List UInt8) (x9_1:Int) (o2_1 o3_1:List AV):f177_l0 run n (k0+1) x0_1 x9_1 o2_1 o3_1 =
  bif ltI x9_1 64 then
    bif ltI x9_1 16 then
    (run 188 [.str x0_1,.int (IntKind.wrap .i64 (4*x9_1))]).bind fun r1 =>
    nilV r1.outs (consV r1.vals fun v1 vs1 =>
    nilV vs1 (bif inR x9_1 64 then
    f177_l0 run n k0 x0_1 (IntKind.wrap .i64 (x9_1+1)) o2_1 (o3_1.set (Int.toNat x9_1) (.int v1.toInt))
  else none))
  else
    bif inR (IntKind.wrap .i64 (x9_1-15)) 64 then
    bif inR (IntKind.wrap .i64 (x9_1-2)) 64 then
    (run 179 [.int ((AV.fld (.agg o3_1) (Int.toNat (IntKind.wrap .i64 (x9_1-15)))).toInt),.int 7]).bind fun r2 =>
    nilV r2.outs (consV r2.vals fun v2 vs2 =>
    nilV vs2 ((run 179 [.int ((AV.fld (.agg o3_1) (Int.toNat (IntKind.wrap .i64 (x9_1-15)))).toInt),.int 18]).bind fun r3 =>
    nilV r3.outs (consV r3.vals fun v3 vs3 =>
    nilV vs3 ((run 179 [.int ((AV.fld (.agg o3_1) (Int.toNat (IntKind.wrap .i64 (x9_1-2)))).toInt),.int 17]).bind fun r4 =>
    nilV r4.outs (consV r4.vals fun v4 vs4 =>
    nilV vs4 ((run 179 [.int ((AV.fld (.agg o3_1) (Int.toNat (IntKind.wrap .i64 (x9_1-2)))).toInt),.int 19]).bind fun r5 =>
    nilV r5.outs (consV r5.vals fun v5 vs5 =>
    nilV vs5 (bif inR (IntKind.wrap .i64 (x9_1-16)) 64 then
    bif inR (IntKind.wrap .i64 (x9_1-7)) 64 then
    bif inR x9_1 64 then
    f177_l0 run n k0 x0_1 (IntKind.wrap .i64 (x9_1+1)) o2_1 (o3_1.set (Int.toNat x9_1) (.int (IntKind.wrap .u32 (IntKind.wrap .u32 (IntKind.wrap .u32 ((AV.fld (.agg o3_1) (Int.toNat (IntKind.wrap .i64 (x9_1-16)))).toInt+IntKind.wrap .u32 (BitVec.toNat (BitVec.ofInt 32 (IntKind.wrap .u32 (BitVec.toNat (BitVec.ofInt 32 v2.toInt ^^^ BitVec.ofInt 32 v3.toInt))) ^^^ BitVec.ofInt 32 (Int.fdiv ((AV.fld (.agg o3_1) (Int.toNat (IntKind.wrap .i64 (x9_1-15)))).toInt) (2^3)))))+(AV.fld (.agg o3_1) (Int.toNat (IntKind.wrap .i64 (x9_1-7)))).toInt)+IntKind.wrap .u32 (BitVec.toNat (BitVec.ofInt 32 (IntKind.wrap .u32 (BitVec.toNat (BitVec.ofInt 32 v4.toInt ^^^ BitVec.ofInt 32 v5.toInt))) ^^^ BitVec.ofInt 32 (Int.fdiv ((AV.fld (.agg o3_1) (Int.toNat (IntKind.wrap .i64 (x9_1-2)))).toInt) (2^10))))))))
  else none
  else none
  else none))))))))
  else none
  else none
  else
    some ⟨[.agg o3_1],[],f177_fresh⟩:=by kernel_rfl
noncomputable def f177 (run:Run) (n:Nat) (a0_1:List UInt8):Option Res:=evalK G run n f177_info.keep 0 f177_info.body (retE G f177_info) (f177_info.start [.str a0_1])
theorem f177_eq (run:Run) (n:Nat) (a0_1:List UInt8):f177 run n a0_1 =
  f177_l0 run n n a0_1 0 (List.replicate 64 (.int 0)) (List.replicate 64 (.int 0)):=by kernel_rfl
theorem f177_run (ext:Run) (n:Nat) (a0_1:List UInt8):runE G ext (n+1) 177 [.str a0_1]=f177 (runE G ext n) n a0_1:=runE_succ f177_at f177_in
noncomputable def f178 (run:Run) (n:Nat):Option Res:=evalK G run n f178_info.keep 0 f178_info.body (retE G f178_info) (f178_info.start [])
theorem f178_eq (run:Run) (n:Nat):f178 run n  =
  some ⟨[.agg [.int 1116352408,.int 1899447441,.int 3049323471,.int 3921009573,.int 961987163,.int 1508970993,.int 2453635748,.int 2870763221,.int 3624381080,.int 310598401,.int 607225278,.int 1426881987,.int 1925078388,.int 2162078206,.int 2614888103,.int 3248222580,.int 3835390401,.int 4022224774,.int 264347078,.int 604807628,.int 770255983,.int 1249150122,.int 1555081692,.int 1996064986,.int 2554220882,.int 2821834349,.int 2952996808,.int 3210313671,.int 3336571891,.int 3584528711,.int 113926993,.int 338241895,.int 666307205,.int 773529912,.int 1294757372,.int 1396182291,.int 1695183700,.int 1986661051,.int 2177026350,.int 2456956037,.int 2730485921,.int 2820302411,.int 3259730800,.int 3345764771,.int 3516065817,.int 3600352804,.int 4094571909,.int 275423344,.int 430227734,.int 506948616,.int 659060556,.int 883997877,.int 958139571,.int 1322822218,.int 1537002063,.int 1747873779,.int 1955562222,.int 2024104815,.int 2227730452,.int 2361852424,.int 2428436474,.int 2756734187,.int 3204031479,.int 3329325298]],[],f178_fresh⟩:=by kernel_rfl
theorem f178_run (ext:Run) (n:Nat):runE G ext (n+1) 178 []=f178 (runE G ext n) n :=runE_succ f178_at f178_in
noncomputable def f170_l2 (run:Run) (n _k0 k2:Nat) (x109_1:Int) (o2_3 o4_3 o7_3:List AV):Option Res :=
  iterK (evalK G run n f170_keep 2 (sub [1,1,1,1,0,1,0,0] f170_body)) f170_t2 f170_o2 (blockK 2 (seqK (evalK G run n f170_keep 0 (sub [1,1,1,1,1] f170_body) (retE G f170_info)) (retE G f170_info))) k2
    ⟨[qa,qa,.ptr ⟨(.arr 8 (.int .u32)),2,1,[]⟩,qa,.ptr ⟨(.arr 8 (.int .u32)),4,1,[]⟩,qa,qa,.ptr ⟨(.arr 8 (.int .u32)),7,1,[]⟩,qa,qa,qa,qa,qa,qa,qa,qa,qa,qa,qa,qa,qa,qa,qa,qa,qa,qa,qa,qa,qa,qa,qa,qa,qa,qa,qa,qa,qa,qa,qa,qa,qa,qa,qa,qa,qa,qa,qa,qa,qa,qa,qa,qa,qa,qa,qa,qa,qa,qa,qa,qa,qa,qa,qa,qa,qa,qa,qa,qa,qa,qa,qa,qa,qa,qa,qa,qa,qa,qa,qa,qa,qa,qa,qa,qa,qa,qa,qa,qa,qa,qa,qa,qa,qa,qa,qa,qa,qa,qa,qa,qa,qa,qa,qa,qa,qa,qa,qa,qa,qa,.val (.int .i64) none (.int x109_1),qa,qa,qa,qa,qa,qa,qa,qa,qa,qa,qa,.any],[qz,qz,⟨1,some ⟨(.arr 8 (.int .u32)),.agg o2_3⟩⟩,qz,⟨1,some ⟨(.arr 8 (.int .u32)),.agg o4_3⟩⟩,qz,qz,⟨1,some ⟨(.arr 8 (.int .u32)),.agg o7_3⟩⟩,qz,qz,qz,qz,qz,qz,qz,qz,qz,qz,qz,qz,qz,qz,qz,qz,qz,qz,qz,qz,qz,qz,qz,qz,qz,qz,qz,qz,qz,qz,qz,qz,qz,qz,qz,qz,qz,qz,qz,qz,qz,qz,qz,qz,qz,qz,qz,qz,qz,qz,qz,qz,qz,qz,qz,qz,qz,qz,qz,qz,qz,qz,qz,qz,qz,qz,qz,qz,qz,qz,qz,qz,qz,qz,qz,qz,qz,qz,qz,qz,qz,qz,qz,qz,qz,qz,qz,qz,qz,qz,qz,qz,qz,qz,qz,qz,qz,qz,qz,qz,qz,qz,qz,qz,qz,qz,qz,qz,qz,qz,qz,qz,qz,qz],List.replicate 122 0⟩
noncomputable def f170_l0 (run:Run) (n k0:Nat) (x18_1:Int) (o2_1 o4_1:List AV) (o5_1 o6_1 o7_1:List AV):Option Res :=
  iterK (evalK G run n f170_keep 0 (sub [1,1,1,0,1,0,0] f170_body)) f170_t0 f170_o0 (blockK 0 (seqK (evalK G run n f170_keep 0 (sub [1,1,1,1] f170_body) (retE G f170_info)) (retE G f170_info))) k0
    ⟨[qa,qa,.ptr ⟨(.arr 8 (.int .u32)),2,1,[]⟩,qa,.ptr ⟨(.arr 8 (.int .u32)),4,1,[]⟩,.ptr ⟨(.arr 64 (.int .u32)),5,1,[]⟩,.ptr ⟨(.arr 64 (.int .u32)),6,1,[]⟩,.ptr ⟨(.arr 8 (.int .u32)),7,1,[]⟩,qa,qa,qa,qa,qa,qa,qa,qa,qa,qa,.val (.int .i64) none (.int x18_1),qa,qa,qa,qa,qa,qa,qa,qa,qa,qa,qa,qa,qa,qa,qa,qa,qa,qa,qa,qa,qa,qa,qa,qa,qa,qa,qa,qa,qa,qa,qa,qa,qa,qa,qa,qa,qa,qa,qa,qa,qa,qa,qa,qa,qa,qa,qa,qa,qa,qa,qa,qa,qa,qa,qa,qa,qa,qa,qa,qa,qa,qa,qa,qa,qa,qa,qa,qa,qa,qa,qa,qa,qa,qa,qa,qa,qa,qa,qa,qa,qa,qa,qa,qa,qa,qa,qa,qa,qa,qa,qa,qa,qa,qa,qa,qa,qa,qa,qa,qa,qa,qa,.any],[qz,qz,⟨1,some ⟨(.arr 8 (.int .u32)),.agg o2_1⟩⟩,qz,⟨1,some ⟨(.arr 8 (.int .u32)),.agg o4_1⟩⟩,⟨1,some ⟨(.arr 64 (.int .u32)),.agg o5_1⟩⟩,⟨1,some ⟨(.arr 64 (.int .u32)),.agg o6_1⟩⟩,⟨1,some ⟨(.arr 8 (.int .u32)),.agg o7_1⟩⟩,qz,qz,qz,qz,qz,qz,qz,qz,qz,qz,qz,qz,qz,qz,qz,qz,qz,qz,qz,qz,qz,qz,qz,qz,qz,qz,qz,qz,qz,qz,qz,qz,qz,qz,qz,qz,qz,qz,qz,qz,qz,qz,qz,qz,qz,qz,qz,qz,qz,qz,qz,qz,qz,qz,qz,qz,qz,qz,qz,qz,qz,qz,qz,qz,qz,qz,qz,qz,qz,qz,qz,qz,qz,qz,qz,qz,qz,qz,qz,qz,qz,qz,qz,qz,qz,qz,qz,qz,qz,qz,qz,qz,qz,qz,qz,qz,qz,qz,qz,qz,qz,qz,qz,qz,qz,qz,qz,qz,qz,qz,qz,qz,qz,qz],List.replicate 122 0⟩
theorem f170_l2_eq (run:Run) (n k0 k2:Nat) (x109_1:Int) (o2_3 o4_3 o7_3:List AV):f170_l2 run n k0 (k2+1) x109_1 o2_3 o4_3 o7_3 =
  bif ltI x109_1 8 then
    bif inR x109_1 8 then
    bif inR x109_1 8 then
    bif inR x109_1 8 then
    f170_l2 run n k0 k2 (IntKind.wrap .i64 (x109_1+1)) (o2_3.set (Int.toNat x109_1) (.int (IntKind.wrap .u32 ((AV.fld (.agg o2_3) (Int.toNat x109_1)).toInt+(AV.fld (.agg o7_3) (Int.toNat x109_1)).toInt)))) o4_3 o7_3
  else none
  else none
  else none
  else
    some ⟨[.agg o2_3],[],f170_fresh⟩:=by kernel_rfl
theorem f170_l0_eq (run:Run) (n k0:Nat) (x18_1:Int) (o2_1 o4_1:List AV) (o5_1 o6_1 o7_1:List AV):f170_l0 run n (k0+1) x18_1 o2_1 o4_1 o5_1 o6_1 o7_1 =
  bif ltI x18_1 64 then
    (run 179 [.int ((AV.fld (.agg o7_1) 4).toInt),.int 6]).bind fun r3 =>
    nilV r3.outs (consV r3.vals fun v3 vs3 =>
    nilV vs3 ((run 179 [.int ((AV.fld (.agg o7_1) 4).toInt),.int 11]).bind fun r4 =>
    nilV r4.outs (consV r4.vals fun v4 vs4 =>
    nilV vs4 ((run 179 [.int ((AV.fld (.agg o7_1) 4).toInt),.int 25]).bind fun r5 =>
    nilV r5.outs (consV r5.vals fun v5 vs5 =>
    nilV vs5 (bif inR x18_1 64 then
    bif inR x18_1 64 then
    (run 179 [.int ((AV.fld (.agg o7_1) 0).toInt),.int 2]).bind fun r6 =>
    nilV r6.outs (consV r6.vals fun v6 vs6 =>
    nilV vs6 ((run 179 [.int ((AV.fld (.agg o7_1) 0).toInt),.int 13]).bind fun r7 =>
    nilV r7.outs (consV r7.vals fun v7 vs7 =>
    nilV vs7 ((run 179 [.int ((AV.fld (.agg o7_1) 0).toInt),.int 22]).bind fun r8 =>
    nilV r8.outs (consV r8.vals fun v8 vs8 =>
    nilV vs8 (f170_l0 run n k0 (IntKind.wrap .i64 (x18_1+1)) o2_1 o4_1 o5_1 o6_1 [.int (IntKind.wrap .u32 (IntKind.wrap .u32 (IntKind.wrap .u32 (IntKind.wrap .u32 (IntKind.wrap .u32 (IntKind.wrap .u32 ((AV.fld (.agg o7_1) 7).toInt+IntKind.wrap .u32 (BitVec.toNat (BitVec.ofInt 32 (IntKind.wrap .u32 (BitVec.toNat (BitVec.ofInt 32 v3.toInt ^^^ BitVec.ofInt 32 v4.toInt))) ^^^ BitVec.ofInt 32 v5.toInt)))+IntKind.wrap .u32 (BitVec.toNat (BitVec.ofInt 32 (IntKind.wrap .u32 (BitVec.toNat (BitVec.ofInt 32 ((AV.fld (.agg o7_1) 4).toInt) &&& BitVec.ofInt 32 ((AV.fld (.agg o7_1) 5).toInt)))) ^^^ BitVec.ofInt 32 (IntKind.wrap .u32 (BitVec.toNat (BitVec.ofInt 32 (IntKind.wrap .u32 (BitVec.toNat (BitVec.ofInt 32 4294967295 ^^^ BitVec.ofInt 32 ((AV.fld (.agg o7_1) 4).toInt)))) &&& BitVec.ofInt 32 ((AV.fld (.agg o7_1) 6).toInt)))))))+(AV.fld (.agg o6_1) (Int.toNat x18_1)).toInt)+(AV.fld (.agg o5_1) (Int.toNat x18_1)).toInt)+IntKind.wrap .u32 (BitVec.toNat (BitVec.ofInt 32 (IntKind.wrap .u32 (BitVec.toNat (BitVec.ofInt 32 v6.toInt ^^^ BitVec.ofInt 32 v7.toInt))) ^^^ BitVec.ofInt 32 v8.toInt)))+IntKind.wrap .u32 (BitVec.toNat (BitVec.ofInt 32 (IntKind.wrap .u32 (BitVec.toNat (BitVec.ofInt 32 (IntKind.wrap .u32 (BitVec.toNat (BitVec.ofInt 32 ((AV.fld (.agg o7_1) 0).toInt) &&& BitVec.ofInt 32 ((AV.fld (.agg o7_1) 1).toInt)))) ^^^ BitVec.ofInt 32 (IntKind.wrap .u32 (BitVec.toNat (BitVec.ofInt 32 ((AV.fld (.agg o7_1) 0).toInt) &&& BitVec.ofInt 32 ((AV.fld (.agg o7_1) 2).toInt))))))) ^^^ BitVec.ofInt 32 (IntKind.wrap .u32 (BitVec.toNat (BitVec.ofInt 32 ((AV.fld (.agg o7_1) 1).toInt) &&& BitVec.ofInt 32 ((AV.fld (.agg o7_1) 2).toInt)))))))),.int ((AV.fld (.agg o7_1) 0).toInt),.int ((AV.fld (.agg o7_1) 1).toInt),.int ((AV.fld (.agg o7_1) 2).toInt),.int (IntKind.wrap .u32 ((AV.fld (.agg o7_1) 3).toInt+IntKind.wrap .u32 (IntKind.wrap .u32 (IntKind.wrap .u32 (IntKind.wrap .u32 ((AV.fld (.agg o7_1) 7).toInt+IntKind.wrap .u32 (BitVec.toNat (BitVec.ofInt 32 (IntKind.wrap .u32 (BitVec.toNat (BitVec.ofInt 32 v3.toInt ^^^ BitVec.ofInt 32 v4.toInt))) ^^^ BitVec.ofInt 32 v5.toInt)))+IntKind.wrap .u32 (BitVec.toNat (BitVec.ofInt 32 (IntKind.wrap .u32 (BitVec.toNat (BitVec.ofInt 32 ((AV.fld (.agg o7_1) 4).toInt) &&& BitVec.ofInt 32 ((AV.fld (.agg o7_1) 5).toInt)))) ^^^ BitVec.ofInt 32 (IntKind.wrap .u32 (BitVec.toNat (BitVec.ofInt 32 (IntKind.wrap .u32 (BitVec.toNat (BitVec.ofInt 32 4294967295 ^^^ BitVec.ofInt 32 ((AV.fld (.agg o7_1) 4).toInt)))) &&& BitVec.ofInt 32 ((AV.fld (.agg o7_1) 6).toInt)))))))+(AV.fld (.agg o6_1) (Int.toNat x18_1)).toInt)+(AV.fld (.agg o5_1) (Int.toNat x18_1)).toInt))),.int ((AV.fld (.agg o7_1) 4).toInt),.int ((AV.fld (.agg o7_1) 5).toInt),.int ((AV.fld (.agg o7_1) 6).toInt)]))))))
  else none
  else none))))))
  else
    f170_l2 run n k0 n 0 o2_1 o4_1 o7_1:=by kernel_rfl
noncomputable def f170 (run:Run) (n:Nat) (a0_1:List AV) (a1_1:List UInt8):Option Res:=evalK G run n f170_info.keep 0 f170_info.body (retE G f170_info) (f170_info.start [.agg a0_1,.str a1_1])
theorem f170_eq (run:Run) (n:Nat) (a0_1:List AV) (a1_1:List UInt8):f170 run n a0_1 a1_1 =
  (run 177 [.str a1_1]).bind fun r1 =>
    nilV r1.outs (consV r1.vals fun v1 vs1 =>
    nilV vs1 ((run 178 []).bind fun r2 =>
    nilV r2.outs (consV r2.vals fun v2 vs2 =>
    nilV vs2 (f170_l0 run n n 0 a0_1 (List.replicate 8 (.int 0)) v1.toAgg v2.toAgg a0_1)))):=by kernel_rfl
theorem f170_run (ext:Run) (n:Nat) (a0_1:List AV) (a1_1:List UInt8):runE G ext (n+1) 170 [.agg a0_1,.str a1_1]=f170 (runE G ext n) n a0_1 a1_1:=runE_succ f170_at f170_in
noncomputable def f155_l0 (run:Run) (n k0:Nat) (x4_1:Int) (o0_1:List AV) (o0_2:List UInt8) (o0_3:Int) (o0_4:Bool):Option Res :=
  iterK (evalK G run n f155_keep 0 (sub [1,1,1,1,1,0,0,0] f155_body)) f155_t0 f155_o0 (blockK 0 (seqK (evalK G run n f155_keep 0 (sub [1,1,1,1,1,1] f155_body) (retE G f155_info)) (retE G f155_info))) k0
    ⟨[.ptr ⟨(.struct [(.arr 8 (.int .u32)),.str,(.int .u64),.bool]),0,0,[]⟩,qa,qa,qa,.val (.int .i64) none (.int x4_1),qa,qa,qa,qa,qa,qa,qa,qa,qa,qa,qa,qa,qa,qa,qa,qa,qa,qa,qa,qa,qa,qa,qa,qa,qa,qa,qa,qa,qa,qa,qa,qa,qa,qa,qa,qa,qa,qa,qa,qa,qa,qa,qa,qa,qa,qa,qa,qa,qa,qa,qa,qa,qa,qa,qa,qa,qa,qa,qa,qa,qa,qa,qa,qa,qa,qa,.any],[⟨0,some ⟨(.struct [(.arr 8 (.int .u32)),.str,(.int .u64),.bool]),.agg [.agg o0_1,.str o0_2,.int o0_3,.bool o0_4]⟩⟩,qz,qz,qz,qz,qz,qz,qz,qz,qz,qz,qz,qz,qz,qz,qz,qz,qz,qz,qz,qz,qz,qz,qz,qz,qz,qz,qz,qz,qz,qz,qz,qz,qz,qz,qz,qz,qz,qz,qz,qz,qz,qz,qz,qz,qz,qz,qz,qz,qz,qz,qz,qz,qz,qz,qz,qz,qz,qz,qz,qz,qz,qz,qz,qz,qz,qz,qz,qz,qz,qz,qz],List.replicate 72 0⟩
theorem f155_l0_eq (run:Run) (n k0:Nat) (x4_1:Int) (o0_1:List AV) (o0_2:List UInt8) (o0_3:Int) (o0_4:Bool):f155_l0 run n (k0+1) x4_1 o0_1 o0_2 o0_3 o0_4 =
  bif leI 64 (IntKind.wrap .i64 ((o0_2.length:Int)-x4_1)) then
    bif boundsOk x4_1 (IntKind.wrap .i64 (x4_1+64)) (o0_2.length:Int) (o0_2.length:Int) then
    (run 170 [.agg o0_1,.str (List.drop (Int.toNat x4_1) (List.take (Int.toNat (IntKind.wrap .i64 (x4_1+64))) o0_2))]).bind fun r2 =>
    nilV r2.outs (consV r2.vals fun v2 vs2 =>
    nilV vs2 (f155_l0 run n k0 (IntKind.wrap .i64 (x4_1+64)) v2.toAgg o0_2 o0_3 o0_4))
  else none
  else
    bif boundsOk x4_1 (o0_2.length:Int) (o0_2.length:Int) (o0_2.length:Int) then
    some ⟨[],[.agg [.agg o0_1,.str (List.drop (Int.toNat x4_1) (List.take (Int.toNat (o0_2.length:Int)) o0_2)),.int o0_3,.bool o0_4]],f155_fresh⟩
  else none:=by kernel_rfl
noncomputable def f155 (run:Run) (n:Nat) (a0_1:List AV) (a0_2:List UInt8) (a0_3:Int) (a0_4:Bool) (a1_1:List UInt8):Option Res:=evalK G run n f155_info.keep 0 f155_info.body (retE G f155_info) (f155_info.start [.agg [.agg a0_1,.str a0_2,.int a0_3,.bool a0_4],.str a1_1])
theorem f155_eq (run:Run) (n:Nat) (a0_1:List AV) (a0_2:List UInt8) (a0_3:Int) (a0_4:Bool) (a1_1:List UInt8):f155 run n a0_1 a0_2 a0_3 a0_4 a1_1 =
  bif !a0_4 then
    (run 169 []).bind fun r1 =>
    nilV r1.outs (consV r1.vals fun v1 vs1 =>
    nilV vs1 (bif Nat.ble (a0_2.length+a1_1.length) maxLen then
    f155_l0 run n n 0 v1.toAgg (a0_2++a1_1) (IntKind.wrap .u64 (a0_3+IntKind.wrap .u64 (a1_1.length:Int))) true
  else none))
  else
    bif Nat.ble (a0_2.length+a1_1.length) maxLen then
    f155_l0 run n n 0 a0_1 (a0_2++a1_1) (IntKind.wrap .u64 (a0_3+IntKind.wrap .u64 (a1_1.length:Int))) a0_4
  else none:=by kernel_rfl
theorem f155_run (ext:Run) (n:Nat) (a0_1:List AV) (a0_2:List UInt8) (a0_3:Int) (a0_4:Bool) (a1_1:List UInt8):runE G ext (n+1) 155 [.agg [.agg a0_1,.str a0_2,.int a0_3,.bool a0_4],.str a1_1]=f155 (runE G ext n) n a0_1 a0_2 a0_3 a0_4 a1_1:=runE_succ f155_at f155_in
noncomputable def f171 (run:Run) (n:Nat) (a0_1:Int):Option Res:=evalK G run n f171_info.keep 0 f171_info.body (retE G f171_info) (f171_info.start [.int a0_1])
theorem f171_eq (run:Run) (n:Nat) (a0_1:Int):f171 run n a0_1 =
  (run 180 [.str [0],.int (IntKind.wrap .i64 (Int.tmod (IntKind.wrap .u64 (119-Int.tmod a0_1 64)) 64))]).bind fun r1 =>
    nilV r1.outs (consV r1.vals fun v1 vs1 =>
    nilV vs1 (bif Nat.ble (1+v1.toStr.length) maxLen then
    (run 138 [.int (IntKind.wrap .u64 (8*a0_1))]).bind fun r2 =>
    nilV r2.outs (consV r2.vals fun v2 vs2 =>
    nilV vs2 (bif Nat.ble (([128]++v1.toStr).length+v2.toStr.length) maxLen then
    some ⟨[.str (([128]++v1.toStr)++v2.toStr)],[],f171_fresh⟩
  else none))
  else none)):=by kernel_rfl
theorem f171_run (ext:Run) (n:Nat) (a0_1:Int):runE G ext (n+1) 171 [.int a0_1]=f171 (runE G ext n) n a0_1:=runE_succ f171_at f171_in
noncomputable def f156_l0 (run:Run) (n k0:Nat) (x18_1:List AV) (x19_1:Int) (o0_1:List AV) (o0_2:List UInt8) (o0_3:Int) (o0_4:Bool) (o2_1 o4_1:List UInt8):Option Res :=
  iterK (evalK G run n f156_keep 0 (sub [1,1,1,1,1,0,1,0,0] f156_body)) f156_t0 f156_o0 (blockK 0 (seqK (evalK G run n f156_keep 0 (sub [1,1,1,1,1,1] f156_body) (retE G f156_info)) (retE G f156_info))) k0
    ⟨[.ptr ⟨(.struct [(.arr 8 (.int .u32)),.str,(.int .u64),.bool]),0,0,[]⟩,qa,.ptr ⟨(.blob 32),2,1,[]⟩,qa,.ptr ⟨(.blob 32),4,1,[]⟩,qa,qa,qa,qa,qa,qa,qa,qa,qa,qa,qa,qa,qa,.val (.arr 8 (.int .u32)) none (.agg x18_1),.val (.int .i64) none (.int x19_1),qa,qa,qa,qa,qa,qa,qa,qa,qa,qa,qa,qa,qa,qa,qa,qa,.any],[⟨0,some ⟨(.struct [(.arr 8 (.int .u32)),.str,(.int .u64),.bool]),.agg [.agg o0_1,.str o0_2,.int o0_3,.bool o0_4]⟩⟩,qz,⟨1,some ⟨(.blob 32),.blob o2_1⟩⟩,qz,⟨1,some ⟨(.blob 32),.blob o4_1⟩⟩,qz,qz,qz,qz,qz,qz,qz,qz,qz,qz,qz,qz,qz,qz,qz,qz,qz,qz,qz,qz,qz,qz,qz,qz,qz,qz,qz,qz,qz,qz,qz,qz],List.replicate 37 0⟩
theorem f156_l0_eq (run:Run) (n k0:Nat) (x18_1:List AV) (x19_1:Int) (o0_1:List AV) (o0_2:List UInt8) (o0_3:Int) (o0_4:Bool) (o2_1 o4_1:List UInt8):f156_l0 run n (k0+1) x18_1 x19_1 o0_1 o0_2 o0_3 o0_4 o2_1 o4_1 =
  bif ltI x19_1 8 then
    bif inR x19_1 8 then
    bif boundsOk (IntKind.wrap .i64 (4*x19_1)) (IntKind.wrap .i64 (IntKind.wrap .i64 (4*x19_1)+4)) (IntKind.wrap .i64 (IntKind.wrap .i64 (4*x19_1)+4)) 32&&true then
    (run 137 [.int ((AV.fld (.agg x18_1) (Int.toNat x19_1)).toInt)]).bind fun r3 =>
    nilV r3.outs (consV r3.vals fun v2 vs2 =>
    nilV vs2 (f156_l0 run n k0 x18_1 (IntKind.wrap .i64 (x19_1+1)) o0_1 o0_2 o0_3 o0_4 o2_1 (bytesOf (splice (ofBytes o4_1) (Int.toNat (IntKind.wrap .i64 (4*x19_1))) (List.take ((Int.toNat (IntKind.wrap .i64 (IntKind.wrap .i64 (4*x19_1)+4)))-(Int.toNat (IntKind.wrap .i64 (4*x19_1)))) (ofBytes v2.toStr))))))
  else none
  else none
  else
    some ⟨[.blob o4_1],[.agg [.agg o0_1,.str o0_2,.int o0_3,.bool o0_4]],f156_fresh⟩:=by kernel_rfl
noncomputable def f156 (run:Run) (n:Nat) (a0_1:List AV) (a0_2:List UInt8) (a0_3:Int) (a0_4:Bool):Option Res:=evalK G run n f156_info.keep 0 f156_info.body (retE G f156_info) (f156_info.start [.agg [.agg a0_1,.str a0_2,.int a0_3,.bool a0_4]])
theorem f156_eq (run:Run) (n:Nat) (a0_1:List AV) (a0_2:List UInt8) (a0_3:Int) (a0_4:Bool):f156 run n a0_1 a0_2 a0_3 a0_4 =
  (run 171 [.int a0_3]).bind fun r1 =>
    nilV r1.outs (consV r1.vals fun v1 vs1 =>
    nilV vs1 ((run 155 [.agg [.agg a0_1,.str a0_2,.int a0_3,.bool a0_4],.str v1.toStr]).bind fun r2 =>
    consV r2.outs fun y1 ys1 =>
    nilV ys1 (nilV r2.vals (f156_l0 run n n ((y1.fld 0).toAgg) 0 a0_1 a0_2 a0_3 a0_4 (List.replicate 32 0) (List.replicate 32 0))))):=by kernel_rfl
theorem f156_run (ext:Run) (n:Nat) (a0_1:List AV) (a0_2:List UInt8) (a0_3:Int) (a0_4:Bool):runE G ext (n+1) 156 [.agg [.agg a0_1,.str a0_2,.int a0_3,.bool a0_4]]=f156 (runE G ext n) n a0_1 a0_2 a0_3 a0_4:=runE_succ f156_at f156_in
noncomputable def f135 (run:Run) (n:Nat) (a0_1:List UInt8):Option Res:=evalK G run n f135_info.keep 0 f135_info.body (retE G f135_info) (f135_info.start [.str a0_1])
theorem f135_eq (run:Run) (n:Nat) (a0_1:List UInt8):f135 run n a0_1 =
  (run 154 []).bind fun r1 =>
    nilV r1.outs (consV r1.vals fun v1 vs1 =>
    nilV vs1 ((run 155 [.agg [.agg ((v1.fld 0).toAgg),.str ((v1.fld 1).toStr),.int ((v1.fld 2).toInt),.bool ((v1.fld 3).toBool)],.str a0_1]).bind fun r2 =>
    consV r2.outs fun y1 ys1 =>
    nilV ys1 (nilV r2.vals ((run 156 [.agg [.agg ((y1.fld 0).toAgg),.str ((y1.fld 1).toStr),.int ((y1.fld 2).toInt),.bool ((y1.fld 3).toBool)]]).bind fun r3 =>
    consV r3.outs fun _y2 ys2 =>
    nilV ys2 (consV r3.vals fun v2 vs2 =>
    nilV vs2 (some ⟨[.blob v2.toBlob],[],f135_fresh⟩)))))):=by kernel_rfl
theorem f135_run (ext:Run) (n:Nat) (a0_1:List UInt8):runE G ext (n+1) 135 [.str a0_1]=f135 (runE G ext n) n a0_1:=runE_succ f135_at f135_in
noncomputable def f114 (run:Run) (n:Nat) (a0_1:List UInt8):Option Res:=evalK G run n f114_info.keep 0 f114_info.body (retE G f114_info) (f114_info.start [.str a0_1])
theorem f114_eq (run:Run) (n:Nat) (a0_1:List UInt8):f114 run n a0_1 =
  (run 136 [.str a0_1]).bind fun r1 =>
    nilV r1.outs (consV r1.vals fun v1 vs1 =>
    nilV vs1 ((run 135 [.str v1.toStr]).bind fun r2 =>
    nilV r2.outs (consV r2.vals fun v2 vs2 =>
    nilV vs2 (some ⟨[.blob v2.toBlob],[],f114_fresh⟩)))):=by kernel_rfl
theorem f114_run (ext:Run) (n:Nat) (a0_1:List UInt8):runE G ext (n+1) 114 [.str a0_1]=f114 (runE G ext n) n a0_1:=runE_succ f114_at f114_in
noncomputable def f86 (run:Run) (n:Nat) (a0_1:Int) (a0_2 a0_3:List UInt8) (a0_4:Int):Option Res:=evalK G run n f86_info.keep 0 f86_info.body (retE G f86_info) (f86_info.start [.agg [.int a0_1,.blob a0_2,.blob a0_3,.int a0_4]])
theorem f86_eq (run:Run) (n:Nat) (a0_1:Int) (a0_2 a0_3:List UInt8) (a0_4:Int):f86 run n a0_1 a0_2 a0_3 a0_4 =
  (run 115 [.agg [.int a0_1,.blob a0_2,.blob a0_3,.int a0_4]]).bind fun r1 =>
    nilV r1.outs (consV r1.vals fun v1 vs1 =>
    nilV vs1 ((run 114 [.str v1.toStr]).bind fun r2 =>
    nilV r2.outs (consV r2.vals fun v2 vs2 =>
    nilV vs2 (some ⟨[.blob v2.toBlob],[],f86_fresh⟩)))):=by kernel_rfl
theorem f86_run (ext:Run) (n:Nat) (a0_1:Int) (a0_2 a0_3:List UInt8) (a0_4:Int):runE G ext (n+1) 86 [.agg [.int a0_1,.blob a0_2,.blob a0_3,.int a0_4]]=f86 (runE G ext n) n a0_1 a0_2 a0_3 a0_4:=runE_succ f86_at f86_in
noncomputable def f54 (run:Run) (n:Nat) (a0_1:Int) (a0_2 a0_3:List UInt8) (a0_4:Int) (a0_5:List AV):Option Res:=evalK G run n f54_info.keep 0 f54_info.body (retE G f54_info) (f54_info.start [.agg [.agg [.int a0_1,.blob a0_2,.blob a0_3,.int a0_4],.slice a0_5]])
theorem f54_eq (run:Run) (n:Nat) (a0_1:Int) (a0_2 a0_3:List UInt8) (a0_4:Int) (a0_5:List AV):f54 run n a0_1 a0_2 a0_3 a0_4 a0_5 =
  (run 86 [.agg [.int a0_1,.blob a0_2,.blob a0_3,.int a0_4]]).bind fun r1 =>
    nilV r1.outs (consV r1.vals fun v1 vs1 =>
    nilV vs1 (some ⟨[.blob v1.toBlob],[],f54_fresh⟩)):=by kernel_rfl
theorem f54_run (ext:Run) (n:Nat) (a0_1:Int) (a0_2 a0_3:List UInt8) (a0_4:Int) (a0_5:List AV):runE G ext (n+1) 54 [.agg [.agg [.int a0_1,.blob a0_2,.blob a0_3,.int a0_4],.slice a0_5]]=f54 (runE G ext n) n a0_1 a0_2 a0_3 a0_4 a0_5:=runE_succ f54_at f54_in
noncomputable def f113 (run:Run) (n:Nat) (a0_1:List UInt8) (a1_1:Int):Option Res:=evalK G run n f113_info.keep 0 f113_info.body (retE G f113_info) (f113_info.start [.str a0_1,.int a1_1])
theorem f113_eq (run:Run) (n:Nat) (a0_1:List UInt8) (a1_1:Int):f113 run n a0_1 a1_1 =
  (run 134 [.str a0_1,.int a1_1,.int 8]).bind fun r1 =>
    nilV r1.outs (consV r1.vals fun v1 vs1 =>
    nilV vs1 (some ⟨[.int v1.toInt],[],f113_fresh⟩)):=by kernel_rfl
theorem f113_run (ext:Run) (n:Nat) (a0_1:List UInt8) (a1_1:Int):runE G ext (n+1) 113 [.str a0_1,.int a1_1]=f113 (runE G ext n) n a0_1 a1_1:=runE_succ f113_at f113_in
noncomputable def f83_l0 (run:Run) (n k0:Nat) (x5_1:Int) (o1_1:List UInt8) (o2_1 o3_1:List AV):Option Res :=
  iterK (evalK G run n f83_keep 0 (sub [1,1,0,1,0,0] f83_body)) f83_t0 f83_o0 (blockK 0 (seqK (evalK G run n f83_keep 0 (sub [1,1,1] f83_body) (retE G f83_info)) (retE G f83_info))) k0
    ⟨[qa,.ptr ⟨(.blob 32),1,1,[]⟩,.ptr ⟨(.arr 4 (.int .u64)),2,1,[]⟩,.ptr ⟨(.arr 4 (.int .u64)),3,1,[]⟩,qa,.val (.int .i64) none (.int x5_1),qa,qa,qa,qa,qa,qa,qa,qa,qa,qa,qa,.any],[qz,⟨1,some ⟨(.blob 32),.blob o1_1⟩⟩,⟨1,some ⟨(.arr 4 (.int .u64)),.agg o2_1⟩⟩,⟨1,some ⟨(.arr 4 (.int .u64)),.agg o3_1⟩⟩,qz,qz,qz,qz,qz,qz,qz,qz,qz,qz,qz,qz,qz,qz],List.replicate 18 0⟩
theorem f83_l0_eq (run:Run) (n k0:Nat) (x5_1:Int) (o1_1:List UInt8) (o2_1 o3_1:List AV):f83_l0 run n (k0+1) x5_1 o1_1 o2_1 o3_1 =
  bif ltI x5_1 4 then
    (run 113 [.str (bytesOf (List.drop 0 (List.take 32 (ofBytes o1_1)))),.int (IntKind.wrap .i64 (8*x5_1))]).bind fun r1 =>
    nilV r1.outs (consV r1.vals fun v1 vs1 =>
    nilV vs1 (bif inR (IntKind.wrap .i64 (3-x5_1)) 4 then
    f83_l0 run n k0 (IntKind.wrap .i64 (x5_1+1)) o1_1 o2_1 (o3_1.set (Int.toNat (IntKind.wrap .i64 (3-x5_1))) (.int v1.toInt))
  else none))
  else
    some ⟨[.agg o3_1],[],f83_fresh⟩:=by kernel_rfl
noncomputable def f83 (run:Run) (n:Nat) (a0_1:List UInt8):Option Res:=evalK G run n f83_info.keep 0 f83_info.body (retE G f83_info) (f83_info.start [.blob a0_1])
theorem f83_eq (run:Run) (n:Nat) (a0_1:List UInt8):f83 run n a0_1 =
  f83_l0 run n n 0 a0_1 (List.replicate 4 (.int 0)) (List.replicate 4 (.int 0)):=by kernel_rfl
theorem f83_run (ext:Run) (n:Nat) (a0_1:List UInt8):runE G ext (n+1) 83 [.blob a0_1]=f83 (runE G ext n) n a0_1:=runE_succ f83_at f83_in
noncomputable def f84_l0 (run:Run) (n k0:Nat) (x8_1:Int) (o2_1 o3_1:List AV):Option Res :=
  iterK (evalK G run n f84_keep 0 (sub [1,0,1,0,0] f84_body)) f84_t0 f84_o0 (blockK 0 (seqK (evalK G run n f84_keep 0 (sub [1,1] f84_body) (retE G f84_info)) (retE G f84_info))) k0
    ⟨[qa,qa,.ptr ⟨(.arr 4 (.int .u64)),2,1,[]⟩,.ptr ⟨(.arr 4 (.int .u64)),3,1,[]⟩,qa,qa,qa,qa,.val (.int .i64) none (.int x8_1),qa,qa,qa,qa,qa,qa,qa,qa,qa,qa,qa,qa,qa,qa,qa,qa,qa,qa,.any],[qz,qz,⟨1,some ⟨(.arr 4 (.int .u64)),.agg o2_1⟩⟩,⟨1,some ⟨(.arr 4 (.int .u64)),.agg o3_1⟩⟩,qz,qz,qz,qz,qz,qz,qz,qz,qz,qz,qz,qz,qz,qz,qz,qz,qz,qz,qz,qz,qz,qz,qz,qz],List.replicate 28 0⟩
theorem f84_l0_eq (run:Run) (n k0:Nat) (x8_1:Int) (o2_1 o3_1:List AV):f84_l0 run n (k0+1) x8_1 o2_1 o3_1 =
  bif ltI x8_1 4 then
    bif inR (IntKind.wrap .i64 (3-x8_1)) 4 then
    bif inR (IntKind.wrap .i64 (3-x8_1)) 4 then
    bif ltI ((AV.fld (.agg o2_1) (Int.toNat (IntKind.wrap .i64 (3-x8_1)))).toInt) ((AV.fld (.agg o3_1) (Int.toNat (IntKind.wrap .i64 (3-x8_1)))).toInt) then
    some ⟨[.int (-1)],[],f84_fresh⟩
  else
    bif ltI ((AV.fld (.agg o3_1) (Int.toNat (IntKind.wrap .i64 (3-x8_1)))).toInt) ((AV.fld (.agg o2_1) (Int.toNat (IntKind.wrap .i64 (3-x8_1)))).toInt) then
    some ⟨[.int 1],[],f84_fresh⟩
  else
    f84_l0 run n k0 (IntKind.wrap .i64 (x8_1+1)) o2_1 o3_1
  else none
  else none
  else
    some ⟨[.int 0],[],f84_fresh⟩:=by kernel_rfl
noncomputable def f84 (run:Run) (n:Nat) (a0_1 a1_1:List AV):Option Res:=evalK G run n f84_info.keep 0 f84_info.body (retE G f84_info) (f84_info.start [.agg a0_1,.agg a1_1])
theorem f84_eq (run:Run) (n:Nat) (a0_1 a1_1:List AV):f84 run n a0_1 a1_1 =
  f84_l0 run n n 0 a0_1 a1_1:=by kernel_rfl
theorem f84_run (ext:Run) (n:Nat) (a0_1 a1_1:List AV):runE G ext (n+1) 84 [.agg a0_1,.agg a1_1]=f84 (runE G ext n) n a0_1 a1_1:=runE_succ f84_at f84_in
noncomputable def f95 (run:Run) (n:Nat) (a0_1 a1_1:List UInt8):Option Res:=evalK G run n f95_info.keep 0 f95_info.body (retE G f95_info) (f95_info.start [.blob a0_1,.blob a1_1])
theorem f95_eq (run:Run) (n:Nat) (a0_1 a1_1:List UInt8):f95 run n a0_1 a1_1 =
  (run 83 [.blob a0_1]).bind fun r1 =>
    nilV r1.outs (consV r1.vals fun v1 vs1 =>
    nilV vs1 ((run 83 [.blob a1_1]).bind fun r2 =>
    nilV r2.outs (consV r2.vals fun v2 vs2 =>
    nilV vs2 ((run 84 [.agg v1.toAgg,.agg v2.toAgg]).bind fun r3 =>
    nilV r3.outs (consV r3.vals fun v3 vs3 =>
    nilV vs3 (some ⟨[.bool (leI v3.toInt 0)],[],f95_fresh⟩)))))):=by kernel_rfl
theorem f95_run (ext:Run) (n:Nat) (a0_1 a1_1:List UInt8):runE G ext (n+1) 95 [.blob a0_1,.blob a1_1]=f95 (runE G ext n) n a0_1 a1_1:=runE_succ f95_at f95_in
noncomputable def f61 (run:Run) (n:Nat) (a0_1:Int) (a0_2 a0_3:List UInt8) (a0_4:Int) (a0_5:List UInt8) (a0_6 a0_7:Int) (a0_8 a0_9:Int) (a0_10 a0_11:Int) (a0_12 a0_13:Int) (a0_14 a0_15:List UInt8) (a0_16:Int) (a0_17 a0_18:List AV):Option Res:=evalK G run n f61_info.keep 0 f61_info.body (retE G f61_info) (f61_info.start [.agg [.agg [.agg [.int a0_1,.blob a0_2,.blob a0_3,.int a0_4],.blob a0_5,.int a0_6,.int a0_7,.int a0_8,.int a0_9,.int a0_10,.int a0_11],.int a0_12,.agg [.agg [.int a0_13,.blob a0_14,.blob a0_15,.int a0_16],.slice a0_17],.slice a0_18]])
theorem f61_eq (run:Run) (n:Nat) (a0_1:Int) (a0_2 a0_3:List UInt8) (a0_4:Int) (a0_5:List UInt8) (a0_6 a0_7:Int) (a0_8 a0_9:Int) (a0_10 a0_11:Int) (a0_12 a0_13:Int) (a0_14 a0_15:List UInt8) (a0_16:Int) (a0_17 a0_18:List AV):f61 run n a0_1 a0_2 a0_3 a0_4 a0_5 a0_6 a0_7 a0_8 a0_9 a0_10 a0_11 a0_12 a0_13 a0_14 a0_15 a0_16 a0_17 a0_18 =
  (run 54 [.agg [.agg [.int a0_13,.blob a0_14,.blob a0_15,.int a0_16],.slice a0_17]]).bind fun r1 =>
    nilV r1.outs (consV r1.vals fun v1 vs1 =>
    nilV vs1 ((run 95 [.blob v1.toBlob,.blob a0_5]).bind fun r2 =>
    nilV r2.outs (consV r2.vals fun v2 vs2 =>
    nilV vs2 (bif !v2.toBool then
    some ⟨[.int 9],[],f61_fresh⟩
  else
    some ⟨[.int 0],[],f61_fresh⟩)))):=by kernel_rfl
theorem f61_run (ext:Run) (n:Nat) (a0_1:Int) (a0_2 a0_3:List UInt8) (a0_4:Int) (a0_5:List UInt8) (a0_6 a0_7:Int) (a0_8 a0_9:Int) (a0_10 a0_11:Int) (a0_12 a0_13:Int) (a0_14 a0_15:List UInt8) (a0_16:Int) (a0_17 a0_18:List AV):runE G ext (n+1) 61 [.agg [.agg [.agg [.int a0_1,.blob a0_2,.blob a0_3,.int a0_4],.blob a0_5,.int a0_6,.int a0_7,.int a0_8,.int a0_9,.int a0_10,.int a0_11],.int a0_12,.agg [.agg [.int a0_13,.blob a0_14,.blob a0_15,.int a0_16],.slice a0_17],.slice a0_18]]=f61 (runE G ext n) n a0_1 a0_2 a0_3 a0_4 a0_5 a0_6 a0_7 a0_8 a0_9 a0_10 a0_11 a0_12 a0_13 a0_14 a0_15 a0_16 a0_17 a0_18:=runE_succ f61_at f61_in
noncomputable def f70_l0 (run:Run) (n k0:Nat) (x8_1:List AV) (x9_1 x10_1:Int):Option Res :=
  iterK (evalK G run n f70_keep 0 (sub [1,1,0,1,0,0] f70_body)) f70_t0 f70_o0 (blockK 0 (seqK (evalK G run n f70_keep 0 (sub [1,1,1] f70_body) (retE G f70_info)) (retE G f70_info))) k0
    ⟨[qa,qa,qa,qa,qa,qa,qa,qa,.val (.slice .str) none (.slice x8_1),.val (.int .i64) none (.int x9_1),.val (.int .i64) none (.int x10_1),qa,qa,qa,qa,qa,qa,.any],[qz,qz,qz,qz,qz,qz,qz,qz,qz,qz,qz,qz,qz,qz,qz,qz,qz,qz],List.replicate 18 0⟩
theorem f70_l0_eq (run:Run) (n k0:Nat) (x8_1:List AV) (x9_1 x10_1:Int):f70_l0 run n (k0+1) x8_1 x9_1 x10_1 =
  bif ltI x10_1 x9_1 then
    bif inR x10_1 x8_1.length then
    bif ltI 4096 (((nth x8_1 (Int.toNat x10_1)).toStr).length:Int) then
    some ⟨[.int 4],[],f70_fresh⟩
  else
    f70_l0 run n k0 x8_1 x9_1 (IntKind.wrap .i64 (x10_1+1))
  else none
  else
    some ⟨[.int 0],[],f70_fresh⟩:=by kernel_rfl
noncomputable def f70 (run:Run) (n:Nat) (a0_1:List AV):Option Res:=evalK G run n f70_info.keep 0 f70_info.body (retE G f70_info) (f70_info.start [.slice a0_1])
theorem f70_eq (run:Run) (n:Nat) (a0_1:List AV):f70 run n a0_1 =
  bif ltI 1024 (a0_1.length:Int) then
    some ⟨[.int 4],[],f70_fresh⟩
  else
    f70_l0 run n n a0_1 (a0_1.length:Int) 0:=by kernel_rfl
theorem f70_run (ext:Run) (n:Nat) (a0_1:List AV):runE G ext (n+1) 70 [.slice a0_1]=f70 (runE G ext n) n a0_1:=runE_succ f70_at f70_in
noncomputable def f105 (run:Run) (n:Nat) (a0_1:List UInt8):Option Res:=evalK G run n f105_info.keep 0 f105_info.body (retE G f105_info) (f105_info.start [.blob a0_1])
theorem f105_eq (run:Run) (n:Nat) (a0_1:List UInt8):f105 run n a0_1 =
  bif Nat.ble (1+(bytesOf (List.drop 0 (List.take 32 (ofBytes a0_1)))).length) maxLen then
    some ⟨[.str ([76]++(bytesOf (List.drop 0 (List.take 32 (ofBytes a0_1)))))],[],f105_fresh⟩
  else none:=by kernel_rfl
theorem f105_run (ext:Run) (n:Nat) (a0_1:List UInt8):runE G ext (n+1) 105 [.blob a0_1]=f105 (runE G ext n) n a0_1:=runE_succ f105_at f105_in
noncomputable def f76_l0 (run:Run) (n k0:Nat) (x3_1 x6_1:List AV) (x7_1 x8_1:Int):Option Res :=
  iterK (evalK G run n f76_keep 0 (sub [1,1,0,1,0,0] f76_body)) f76_t0 f76_o0 (blockK 0 (seqK (evalK G run n f76_keep 0 (sub [1,1,1] f76_body) (retE G f76_info)) (retE G f76_info))) k0
    ⟨[qa,qa,qa,.val (.slice .str) (some (3,0)) (.slice x3_1),qa,qa,.val (.slice (.blob 32)) none (.slice x6_1),.val (.int .i64) none (.int x7_1),.val (.int .i64) none (.int x8_1),qa,qa,qa,qa,qa,qa,qa,qa,qa,.any],[qz,qz,qz,qz,qz,qz,qz,qz,qz,qz,qz,qz,qz,qz,qz,qz,qz,qz,qz],List.replicate 19 0⟩
theorem f76_l0_eq (run:Run) (n k0:Nat) (x3_1 x6_1:List AV) (x7_1 x8_1:Int):f76_l0 run n (k0+1) x3_1 x6_1 x7_1 x8_1 =
  bif ltI x8_1 x7_1 then
    bif inR x8_1 x6_1.length then
    (run 105 [.blob ((nth x6_1 (Int.toNat x8_1)).toBlob)]).bind fun r1 =>
    nilV r1.outs (consV r1.vals fun v1 vs1 =>
    nilV vs1 (bif Nat.ble ((x3_1.length+1)*16) 140737488355328 then
    f76_l0 run n k0 (x3_1++[.str v1.toStr]) x6_1 x7_1 (IntKind.wrap .i64 (x8_1+1))
  else none))
  else none
  else
    some ⟨[.slice x3_1],[],f76_fresh⟩:=by kernel_rfl
noncomputable def f76 (run:Run) (n:Nat) (a0_1:List AV):Option Res:=evalK G run n f76_info.keep 0 f76_info.body (retE G f76_info) (f76_info.start [.slice a0_1])
theorem f76_eq (run:Run) (n:Nat) (a0_1:List AV):f76 run n a0_1 =
  f76_l0 run n n [] a0_1 (a0_1.length:Int) 0:=by kernel_rfl
theorem f76_run (ext:Run) (n:Nat) (a0_1:List AV):runE G ext (n+1) 76 [.slice a0_1]=f76 (runE G ext n) n a0_1:=runE_succ f76_at f76_in
noncomputable def f150 (run:Run) (n:Nat) (a0_1:List UInt8):Option Res:=evalK G run n f150_info.keep 0 f150_info.body (retE G f150_info) (f150_info.start [.str a0_1])
theorem f150_eq (run:Run) (n:Nat) (a0_1:List UInt8):f150 run n a0_1 =
  (run 157 [.int 0,.slice [.str a0_1]]).bind fun r1 =>
    nilV r1.outs (consV r1.vals fun v1 vs1 =>
    nilV vs1 (some ⟨[.str v1.toStr],[],f150_fresh⟩)):=by kernel_rfl
theorem f150_run (ext:Run) (n:Nat) (a0_1:List UInt8):runE G ext (n+1) 150 [.str a0_1]=f150 (runE G ext n) n a0_1:=runE_succ f150_at f150_in
noncomputable def f128 (run:Run) (n:Nat) (a0_1:List UInt8):Option Res:=evalK G run n f128_info.keep 0 f128_info.body (retE G f128_info) (f128_info.start [.str a0_1])
theorem f128_eq (run:Run) (n:Nat) (a0_1:List UInt8):f128 run n a0_1 =
  (run 150 [.str a0_1]).bind fun r1 =>
    nilV r1.outs (consV r1.vals fun v1 vs1 =>
    nilV vs1 ((run 135 [.str v1.toStr]).bind fun r2 =>
    nilV r2.outs (consV r2.vals fun v2 vs2 =>
    nilV vs2 (some ⟨[.blob v2.toBlob],[],f128_fresh⟩)))):=by kernel_rfl
theorem f128_run (ext:Run) (n:Nat) (a0_1:List UInt8):runE G ext (n+1) 128 [.str a0_1]=f128 (runE G ext n) n a0_1:=runE_succ f128_at f128_in
noncomputable def f127_s128_l0 (run:Run) (n k0:Nat) (x5_1 x8_1:List AV) (x9_1 x10_1:Int):Option Res :=
  iterK (evalK G run n f127_keep 0 (sub [1,1,0,1,0,0] f127_body)) f127_t0 f127_o0 (blockK 0 (seqK (evalK G run n f127_keep 0 (sub [1,1,1] f127_body) (retE G f127_info)) (retE G f127_info))) k0
    ⟨[qa,.val .fn none (.fn 128),qa,qa,qa,.val (.slice (.blob 32)) (some (5,0)) (.slice x5_1),qa,qa,.val (.slice .str) none (.slice x8_1),.val (.int .i64) none (.int x9_1),.val (.int .i64) none (.int x10_1),qa,qa,qa,qa,qa,qa,qa,qa,qa,qa,.any],[qz,qz,qz,qz,qz,qz,qz,qz,qz,qz,qz,qz,qz,qz,qz,qz,qz,qz,qz,qz,qz,qz],List.replicate 22 0⟩
theorem f127_s128_l0_eq (run:Run) (n k0:Nat) (x5_1 x8_1:List AV) (x9_1 x10_1:Int):f127_s128_l0 run n (k0+1) x5_1 x8_1 x9_1 x10_1 =
  bif ltI x10_1 x9_1 then
    bif inR x10_1 x8_1.length then
    (run 128 [.str ((nth x8_1 (Int.toNat x10_1)).toStr)]).bind fun r1 =>
    nilV r1.outs (consV r1.vals fun v1 vs1 =>
    nilV vs1 (bif Nat.ble ((x5_1.length+1)*32) 140737488355328 then
    f127_s128_l0 run n k0 (x5_1++[.blob v1.toBlob]) x8_1 x9_1 (IntKind.wrap .i64 (x10_1+1))
  else none))
  else none
  else
    some ⟨[.slice x5_1],[],f127_fresh⟩:=by kernel_rfl
noncomputable def f127_s128 (run:Run) (n:Nat) (a0_1:List AV):Option Res:=evalK G run n f127_info.keep 0 f127_info.body (retE G f127_info) (f127_info.start [.slice a0_1,.fn 128])
theorem f127_s128_eq (run:Run) (n:Nat) (a0_1:List AV):f127_s128 run n a0_1 =
  f127_s128_l0 run n n [] a0_1 (a0_1.length:Int) 0:=by kernel_rfl
theorem f127_s128_run (ext:Run) (n:Nat) (a0_1:List AV):runE G ext (n+1) 127 [.slice a0_1,.fn 128]=f127_s128 (runE G ext n) n a0_1:=runE_succ f127_at f127_in
noncomputable def f103 (run:Run) (n:Nat) (a0_1:List AV):Option Res:=evalK G run n f103_info.keep 0 f103_info.body (retE G f103_info) (f103_info.start [.slice a0_1])
theorem f103_eq (run:Run) (n:Nat) (a0_1:List AV):f103 run n a0_1 =
  (run 127 [.slice a0_1,.fn 128]).bind fun r1 =>
    bif r1.fresh then
    nilV r1.outs (consV r1.vals fun v1 vs1 =>
    nilV vs1 (some ⟨[.slice v1.toSlice],[],f103_fresh⟩))
  else none:=by kernel_rfl
theorem f103_run (ext:Run) (n:Nat) (a0_1:List AV):runE G ext (n+1) 103 [.slice a0_1]=f103 (runE G ext n) n a0_1:=runE_succ f103_at f103_in
noncomputable def f125_l0 (run:Run) (n k0:Nat) (x0_1 x3_1:Int):Option Res :=
  iterK (evalK G run n f125_keep 0 (sub [1,1,1,0,0,0] f125_body)) f125_t0 f125_o0 (blockK 0 (seqK (evalK G run n f125_keep 0 (sub [1,1,1,1] f125_body) (retE G f125_info)) (retE G f125_info))) k0
    ⟨[.val (.int .i64) none (.int x0_1),qa,qa,.val (.int .i64) none (.int x3_1),qa,qa,qa,qa,qa,qa,qa,qa,qa,.any],[qz,qz,qz,qz,qz,qz,qz,qz,qz,qz,qz,qz,qz,qz],List.replicate 14 0⟩
theorem f125_l0_eq (run:Run) (n k0:Nat) (x0_1 x3_1:Int):f125_l0 run n (k0+1) x0_1 x3_1 =
  bif leI x3_1 (IntKind.wrap .i64 (Int.tdiv (IntKind.wrap .i64 (x0_1-1)) 2)) then
    f125_l0 run n k0 x0_1 (IntKind.wrap .i64 (x3_1*2))
  else
    some ⟨[.int x3_1],[],f125_fresh⟩:=by kernel_rfl
noncomputable def f125 (run:Run) (n:Nat) (a0_1:Int):Option Res:=evalK G run n f125_info.keep 0 f125_info.body (retE G f125_info) (f125_info.start [.int a0_1])
theorem f125_eq (run:Run) (n:Nat) (a0_1:Int):f125 run n a0_1 =
  bif ltI a0_1 2 then
    some ⟨[.int 0],[],f125_fresh⟩
  else
    f125_l0 run n n a0_1 1:=by kernel_rfl
theorem f125_run (ext:Run) (n:Nat) (a0_1:Int):runE G ext (n+1) 125 [.int a0_1]=f125 (runE G ext n) n a0_1:=runE_succ f125_at f125_in
noncomputable def f148 (run:Run) (n:Nat) (a0_1:List AV):Option Res:=evalK G run n f148_info.keep 0 f148_info.body (retE G f148_info) (f148_info.start [.slice a0_1])
theorem f148_eq (run:Run) (n:Nat) (a0_1:List AV):f148 run n a0_1 =
  (run 125 [.int (a0_1.length:Int)]).bind fun r1 =>
    nilV r1.outs (consV r1.vals fun v1 vs1 =>
    nilV vs1 (bif boundsOk 0 v1.toInt (a0_1.length:Int) (a0_1.length:Int)&&true then
    bif boundsOk v1.toInt (a0_1.length:Int) (a0_1.length:Int) (a0_1.length:Int)&&true then
    some ⟨[.slice (List.drop 0 (List.take (Int.toNat v1.toInt) a0_1)),.slice (List.drop (Int.toNat v1.toInt) (List.take (Int.toNat (a0_1.length:Int)) a0_1))],[],f148_fresh⟩
  else none
  else none)):=by kernel_rfl
theorem f148_run (ext:Run) (n:Nat) (a0_1:List AV):runE G ext (n+1) 148 [.slice a0_1]=f148 (runE G ext n) n a0_1:=runE_succ f148_at f148_in
noncomputable def f166 (run:Run) (n:Nat) (a0_1 a1_1:List UInt8):Option Res:=evalK G run n f166_info.keep 0 f166_info.body (retE G f166_info) (f166_info.start [.blob a0_1,.blob a1_1])
theorem f166_eq (run:Run) (n:Nat) (a0_1 a1_1:List UInt8):f166 run n a0_1 a1_1 =
  (run 157 [.int 1,.slice [.str (bytesOf (List.drop 0 (List.take 32 (ofBytes a0_1)))),.str (bytesOf (List.drop 0 (List.take 32 (ofBytes a1_1))))]]).bind fun r1 =>
    nilV r1.outs (consV r1.vals fun v1 vs1 =>
    nilV vs1 (some ⟨[.str v1.toStr],[],f166_fresh⟩)):=by kernel_rfl
theorem f166_run (ext:Run) (n:Nat) (a0_1 a1_1:List UInt8):runE G ext (n+1) 166 [.blob a0_1,.blob a1_1]=f166 (runE G ext n) n a0_1 a1_1:=runE_succ f166_at f166_in
noncomputable def f149 (run:Run) (n:Nat) (a0_1 a1_1:List UInt8):Option Res:=evalK G run n f149_info.keep 0 f149_info.body (retE G f149_info) (f149_info.start [.blob a0_1,.blob a1_1])
theorem f149_eq (run:Run) (n:Nat) (a0_1 a1_1:List UInt8):f149 run n a0_1 a1_1 =
  (run 166 [.blob a0_1,.blob a1_1]).bind fun r1 =>
    nilV r1.outs (consV r1.vals fun v1 vs1 =>
    nilV vs1 ((run 135 [.str v1.toStr]).bind fun r2 =>
    nilV r2.outs (consV r2.vals fun v2 vs2 =>
    nilV vs2 (some ⟨[.blob v2.toBlob],[],f149_fresh⟩)))):=by kernel_rfl
theorem f149_run (ext:Run) (n:Nat) (a0_1 a1_1:List UInt8):runE G ext (n+1) 149 [.blob a0_1,.blob a1_1]=f149 (runE G ext n) n a0_1 a1_1:=runE_succ f149_at f149_in
noncomputable def f126 (run:Run) (n:Nat) (a0_1:List AV):Option Res:=evalK G run n f126_info.keep 0 f126_info.body (retE G f126_info) (f126_info.start [.slice a0_1])
theorem f126_eq (run:Run) (n:Nat) (a0_1:List AV):f126 run n a0_1 =
  bif eqI (a0_1.length:Int) 0 then
    some ⟨[.blob [0,0,0,0,0,0,0,0,0,0,0,0,0,0,0,0,0,0,0,0,0,0,0,0,0,0,0,0,0,0,0,0]],[],f126_fresh⟩
  else
    bif eqI (a0_1.length:Int) 1 then
    bif inR 0 a0_1.length then
    some ⟨[.blob ((nth a0_1 0).toBlob)],[],f126_fresh⟩
  else none
  else
    (run 148 [.slice a0_1]).bind fun r1 =>
    nilV r1.outs (consV r1.vals fun v1 vs1 =>
    consV vs1 fun v2 vs2 =>
    nilV vs2 ((run 126 [.slice v1.toSlice]).bind fun r2 =>
    nilV r2.outs (consV r2.vals fun v3 vs3 =>
    nilV vs3 ((run 126 [.slice v2.toSlice]).bind fun r3 =>
    nilV r3.outs (consV r3.vals fun v4 vs4 =>
    nilV vs4 ((run 149 [.blob v3.toBlob,.blob v4.toBlob]).bind fun r4 =>
    nilV r4.outs (consV r4.vals fun v5 vs5 =>
    nilV vs5 (some ⟨[.blob v5.toBlob],[],f126_fresh⟩)))))))):=by kernel_rfl
theorem f126_run (ext:Run) (n:Nat) (a0_1:List AV):runE G ext (n+1) 126 [.slice a0_1]=f126 (runE G ext n) n a0_1:=runE_succ f126_at f126_in
noncomputable def f184 (run:Run) (n:Nat) (a0_1:Int) (a1_1:List UInt8):Option Res:=evalK G run n f184_info.keep 0 f184_info.body (retE G f184_info) (f184_info.start [.int a0_1,.blob a1_1])
theorem f184_eq (run:Run) (n:Nat) (a0_1:Int) (a1_1:List UInt8):f184 run n a0_1 a1_1 =
  (run 138 [.int a0_1]).bind fun r1 =>
    nilV r1.outs (consV r1.vals fun v1 vs1 =>
    nilV vs1 ((run 157 [.int 2,.slice [.str v1.toStr,.str (bytesOf (List.drop 0 (List.take 32 (ofBytes a1_1))))]]).bind fun r2 =>
    nilV r2.outs (consV r2.vals fun v2 vs2 =>
    nilV vs2 (some ⟨[.str v2.toStr],[],f184_fresh⟩)))):=by kernel_rfl
theorem f184_run (ext:Run) (n:Nat) (a0_1:Int) (a1_1:List UInt8):runE G ext (n+1) 184 [.int a0_1,.blob a1_1]=f184 (runE G ext n) n a0_1 a1_1:=runE_succ f184_at f184_in
noncomputable def f175 (run:Run) (n:Nat) (a0_1:Int) (a1_1:List UInt8):Option Res:=evalK G run n f175_info.keep 0 f175_info.body (retE G f175_info) (f175_info.start [.int a0_1,.blob a1_1])
theorem f175_eq (run:Run) (n:Nat) (a0_1:Int) (a1_1:List UInt8):f175 run n a0_1 a1_1 =
  (run 184 [.int a0_1,.blob a1_1]).bind fun r1 =>
    nilV r1.outs (consV r1.vals fun v1 vs1 =>
    nilV vs1 ((run 135 [.str v1.toStr]).bind fun r2 =>
    nilV r2.outs (consV r2.vals fun v2 vs2 =>
    nilV vs2 (some ⟨[.blob v2.toBlob],[],f175_fresh⟩)))):=by kernel_rfl
theorem f175_run (ext:Run) (n:Nat) (a0_1:Int) (a1_1:List UInt8):runE G ext (n+1) 175 [.int a0_1,.blob a1_1]=f175 (runE G ext n) n a0_1 a1_1:=runE_succ f175_at f175_in
noncomputable def f164 (run:Run) (n:Nat) (a0_1:List AV):Option Res:=evalK G run n f164_info.keep 0 f164_info.body (retE G f164_info) (f164_info.start [.slice a0_1])
theorem f164_eq (run:Run) (n:Nat) (a0_1:List AV):f164 run n a0_1 =
  (run 103 [.slice a0_1]).bind fun r1 =>
    bif r1.fresh then
    nilV r1.outs (consV r1.vals fun v1 vs1 =>
    nilV vs1 ((run 126 [.slice v1.toSlice]).bind fun r2 =>
    nilV r2.outs (consV r2.vals fun v2 vs2 =>
    nilV vs2 ((run 175 [.int (IntKind.wrap .u64 (a0_1.length:Int)),.blob v2.toBlob]).bind fun r3 =>
    nilV r3.outs (consV r3.vals fun v3 vs3 =>
    nilV vs3 (some ⟨[.blob v3.toBlob],[],f164_fresh⟩))))))
  else none:=by kernel_rfl
theorem f164_run (ext:Run) (n:Nat) (a0_1:List AV):runE G ext (n+1) 164 [.slice a0_1]=f164 (runE G ext n) n a0_1:=runE_succ f164_at f164_in
noncomputable def f145 (run:Run) (n:Nat) (a0_1:List AV):Option Res:=evalK G run n f145_info.keep 0 f145_info.body (retE G f145_info) (f145_info.start [.slice a0_1])
theorem f145_eq (run:Run) (n:Nat) (a0_1:List AV):f145 run n a0_1 =
  (run 76 [.slice a0_1]).bind fun r1 =>
    bif r1.fresh then
    nilV r1.outs (consV r1.vals fun v1 vs1 =>
    nilV vs1 ((run 164 [.slice v1.toSlice]).bind fun r2 =>
    nilV r2.outs (consV r2.vals fun v2 vs2 =>
    nilV vs2 (some ⟨[.blob v2.toBlob],[],f145_fresh⟩))))
  else none:=by kernel_rfl
theorem f145_run (ext:Run) (n:Nat) (a0_1:List AV):runE G ext (n+1) 145 [.slice a0_1]=f145 (runE G ext n) n a0_1:=runE_succ f145_at f145_in
noncomputable def f104 (run:Run) (n:Nat) (a0_1:List UInt8):Option Res:=evalK G run n f104_info.keep 0 f104_info.body (retE G f104_info) (f104_info.start [.str a0_1])
theorem f104_eq (run:Run) (n:Nat) (a0_1:List UInt8):f104 run n a0_1 =
  bif Nat.ble (1+a0_1.length) maxLen then
    some ⟨[.str ([84]++a0_1)],[],f104_fresh⟩
  else none:=by kernel_rfl
theorem f104_run (ext:Run) (n:Nat) (a0_1:List UInt8):runE G ext (n+1) 104 [.str a0_1]=f104 (runE G ext n) n a0_1:=runE_succ f104_at f104_in
noncomputable def f72_l0 (run:Run) (n k0:Nat) (x3_1 x6_1:List AV) (x7_1 x8_1:Int):Option Res :=
  iterK (evalK G run n f72_keep 0 (sub [1,1,0,1,0,0] f72_body)) f72_t0 f72_o0 (blockK 0 (seqK (evalK G run n f72_keep 0 (sub [1,1,1] f72_body) (retE G f72_info)) (retE G f72_info))) k0
    ⟨[qa,qa,qa,.val (.slice .str) (some (3,0)) (.slice x3_1),qa,qa,.val (.slice .str) none (.slice x6_1),.val (.int .i64) none (.int x7_1),.val (.int .i64) none (.int x8_1),qa,qa,qa,qa,qa,qa,qa,qa,qa,.any],[qz,qz,qz,qz,qz,qz,qz,qz,qz,qz,qz,qz,qz,qz,qz,qz,qz,qz,qz],List.replicate 19 0⟩
theorem f72_l0_eq (run:Run) (n k0:Nat) (x3_1 x6_1:List AV) (x7_1 x8_1:Int):f72_l0 run n (k0+1) x3_1 x6_1 x7_1 x8_1 =
  bif ltI x8_1 x7_1 then
    bif inR x8_1 x6_1.length then
    (run 104 [.str ((nth x6_1 (Int.toNat x8_1)).toStr)]).bind fun r1 =>
    nilV r1.outs (consV r1.vals fun v1 vs1 =>
    nilV vs1 (bif Nat.ble ((x3_1.length+1)*16) 140737488355328 then
    f72_l0 run n k0 (x3_1++[.str v1.toStr]) x6_1 x7_1 (IntKind.wrap .i64 (x8_1+1))
  else none))
  else none
  else
    some ⟨[.slice x3_1],[],f72_fresh⟩:=by kernel_rfl
noncomputable def f72 (run:Run) (n:Nat) (a0_1:List AV):Option Res:=evalK G run n f72_info.keep 0 f72_info.body (retE G f72_info) (f72_info.start [.slice a0_1])
theorem f72_eq (run:Run) (n:Nat) (a0_1:List AV):f72 run n a0_1 =
  f72_l0 run n n [] a0_1 (a0_1.length:Int) 0:=by kernel_rfl
theorem f72_run (ext:Run) (n:Nat) (a0_1:List AV):runE G ext (n+1) 72 [.slice a0_1]=f72 (runE G ext n) n a0_1:=runE_succ f72_at f72_in
noncomputable def f146 (run:Run) (n:Nat) (a0_1:List AV):Option Res:=evalK G run n f146_info.keep 0 f146_info.body (retE G f146_info) (f146_info.start [.slice a0_1])
theorem f146_eq (run:Run) (n:Nat) (a0_1:List AV):f146 run n a0_1 =
  (run 72 [.slice a0_1]).bind fun r1 =>
    bif r1.fresh then
    nilV r1.outs (consV r1.vals fun v1 vs1 =>
    nilV vs1 ((run 164 [.slice v1.toSlice]).bind fun r2 =>
    nilV r2.outs (consV r2.vals fun v2 vs2 =>
    nilV vs2 (some ⟨[.blob v2.toBlob],[],f146_fresh⟩))))
  else none:=by kernel_rfl
theorem f146_run (ext:Run) (n:Nat) (a0_1:List AV):runE G ext (n+1) 146 [.slice a0_1]=f146 (runE G ext n) n a0_1:=runE_succ f146_at f146_in
noncomputable def f123 (run:Run) (n:Nat) (a0_1:Int) (a1_1 a2_1:List AV) (a3_1:Int):Option Res:=evalK G run n f123_info.keep 0 f123_info.body (retE G f123_info) (f123_info.start [.int a0_1,.slice a1_1,.slice a2_1,.int a3_1])
theorem f123_eq (run:Run) (n:Nat) (a0_1:Int) (a1_1 a2_1:List AV) (a3_1:Int):f123 run n a0_1 a1_1 a2_1 a3_1 =
  (run 145 [.slice a1_1]).bind fun r1 =>
    nilV r1.outs (consV r1.vals fun v1 vs1 =>
    nilV vs1 ((run 146 [.slice a2_1]).bind fun r2 =>
    nilV r2.outs (consV r2.vals fun v2 vs2 =>
    nilV vs2 (bif Nat.ble ((a2_1.length)*16) 140737488355328 then
    some ⟨[.agg [.agg [.int a0_1,.blob v1.toBlob,.blob v2.toBlob,.int a3_1],.slice a2_1]],[],f123_fresh⟩
  else none)))):=by kernel_rfl
theorem f123_run (ext:Run) (n:Nat) (a0_1:Int) (a1_1 a2_1:List AV) (a3_1:Int):runE G ext (n+1) 123 [.int a0_1,.slice a1_1,.slice a2_1,.int a3_1]=f123 (runE G ext n) n a0_1 a1_1 a2_1 a3_1:=runE_succ f123_at f123_in
noncomputable def f94 (run:Run) (n:Nat) (a0_1:Int) (a0_2 a0_3:List UInt8) (a0_4:Int) (a0_5:List AV) (a1_1:Int) (a2_1:List AV):Option Res:=evalK G run n f94_info.keep 0 f94_info.body (retE G f94_info) (f94_info.start [.agg [.agg [.int a0_1,.blob a0_2,.blob a0_3,.int a0_4],.slice a0_5],.int a1_1,.slice a2_1])
theorem f94_eq (run:Run) (n:Nat) (a0_1:Int) (a0_2 a0_3:List UInt8) (a0_4:Int) (a0_5:List AV) (a1_1:Int) (a2_1:List AV):f94 run n a0_1 a0_2 a0_3 a0_4 a0_5 a1_1 a2_1 =
  bif !(eqI a0_1 a1_1) then
    some ⟨[.int 8],[],f94_fresh⟩
  else
    (run 70 [.slice a0_5]).bind fun r1 =>
    nilV r1.outs (consV r1.vals fun v1 vs1 =>
    nilV vs1 (bif !(eqI v1.toInt 0) then
    some ⟨[.int v1.toInt],[],f94_fresh⟩
  else
    (run 123 [.int a1_1,.slice a2_1,.slice a0_5,.int a0_4]).bind fun r2 =>
    nilV r2.outs (consV r2.vals fun v2 vs2 =>
    nilV vs2 (bif !(eqI (((v2.fld 0).fld 0).toInt) a0_1&&(eqS (((v2.fld 0).fld 1).toBlob) a0_2&&(eqS (((v2.fld 0).fld 2).toBlob) a0_3&&(eqI (((v2.fld 0).fld 3).toInt) a0_4&&true)))) then
    some ⟨[.int 12],[],f94_fresh⟩
  else
    some ⟨[.int 0],[],f94_fresh⟩)))):=by kernel_rfl
theorem f94_run (ext:Run) (n:Nat) (a0_1:Int) (a0_2 a0_3:List UInt8) (a0_4:Int) (a0_5:List AV) (a1_1:Int) (a2_1:List AV):runE G ext (n+1) 94 [.agg [.agg [.int a0_1,.blob a0_2,.blob a0_3,.int a0_4],.slice a0_5],.int a1_1,.slice a2_1]=f94 (runE G ext n) n a0_1 a0_2 a0_3 a0_4 a0_5 a1_1 a2_1:=runE_succ f94_at f94_in
noncomputable def f60 (run:Run) (n:Nat) (a0_1:Int) (a0_2 a0_3:List UInt8) (a0_4:Int) (a0_5:List UInt8) (a0_6 a0_7:Int) (a0_8 a0_9:Int) (a0_10 a0_11:Int) (a0_12 a0_13:Int) (a0_14 a0_15:List UInt8) (a0_16:Int) (a0_17 a0_18:List AV):Option Res:=evalK G run n f60_info.keep 0 f60_info.body (retE G f60_info) (f60_info.start [.agg [.agg [.agg [.int a0_1,.blob a0_2,.blob a0_3,.int a0_4],.blob a0_5,.int a0_6,.int a0_7,.int a0_8,.int a0_9,.int a0_10,.int a0_11],.int a0_12,.agg [.agg [.int a0_13,.blob a0_14,.blob a0_15,.int a0_16],.slice a0_17],.slice a0_18]])
theorem f60_eq (run:Run) (n:Nat) (a0_1:Int) (a0_2 a0_3:List UInt8) (a0_4:Int) (a0_5:List UInt8) (a0_6 a0_7:Int) (a0_8 a0_9:Int) (a0_10 a0_11:Int) (a0_12 a0_13:Int) (a0_14 a0_15:List UInt8) (a0_16:Int) (a0_17 a0_18:List AV):f60 run n a0_1 a0_2 a0_3 a0_4 a0_5 a0_6 a0_7 a0_8 a0_9 a0_10 a0_11 a0_12 a0_13 a0_14 a0_15 a0_16 a0_17 a0_18 =
  (run 94 [.agg [.agg [.int a0_13,.blob a0_14,.blob a0_15,.int a0_16],.slice a0_17],.int (IntKind.wrap .u32 a0_12),.slice a0_18]).bind fun r1 =>
    nilV r1.outs (consV r1.vals fun v1 vs1 =>
    nilV vs1 (some ⟨[.int v1.toInt],[],f60_fresh⟩)):=by kernel_rfl
theorem f60_run (ext:Run) (n:Nat) (a0_1:Int) (a0_2 a0_3:List UInt8) (a0_4:Int) (a0_5:List UInt8) (a0_6 a0_7:Int) (a0_8 a0_9:Int) (a0_10 a0_11:Int) (a0_12 a0_13:Int) (a0_14 a0_15:List UInt8) (a0_16:Int) (a0_17 a0_18:List AV):runE G ext (n+1) 60 [.agg [.agg [.agg [.int a0_1,.blob a0_2,.blob a0_3,.int a0_4],.blob a0_5,.int a0_6,.int a0_7,.int a0_8,.int a0_9,.int a0_10,.int a0_11],.int a0_12,.agg [.agg [.int a0_13,.blob a0_14,.blob a0_15,.int a0_16],.slice a0_17],.slice a0_18]]=f60 (runE G ext n) n a0_1 a0_2 a0_3 a0_4 a0_5 a0_6 a0_7 a0_8 a0_9 a0_10 a0_11 a0_12 a0_13 a0_14 a0_15 a0_16 a0_17 a0_18:=runE_succ f60_at f60_in
noncomputable def f59 (run:Run) (n:Nat) (a0_1:Int) (a0_2 a0_3:List UInt8) (a0_4:Int) (a0_5:List UInt8) (a0_6 a0_7:Int) (a0_8 a0_9:Int) (a0_10 a0_11:Int) (a0_12 a0_13:Int) (a0_14 a0_15:List UInt8) (a0_16:Int) (a0_17 a0_18:List AV):Option Res:=evalK G run n f59_info.keep 0 f59_info.body (retE G f59_info) (f59_info.start [.agg [.agg [.agg [.int a0_1,.blob a0_2,.blob a0_3,.int a0_4],.blob a0_5,.int a0_6,.int a0_7,.int a0_8,.int a0_9,.int a0_10,.int a0_11],.int a0_12,.agg [.agg [.int a0_13,.blob a0_14,.blob a0_15,.int a0_16],.slice a0_17],.slice a0_18]])
theorem f59_eq (run:Run) (n:Nat) (a0_1:Int) (a0_2 a0_3:List UInt8) (a0_4:Int) (a0_5:List UInt8) (a0_6 a0_7:Int) (a0_8 a0_9:Int) (a0_10 a0_11:Int) (a0_12 a0_13:Int) (a0_14 a0_15:List UInt8) (a0_16:Int) (a0_17 a0_18:List AV):f59 run n a0_1 a0_2 a0_3 a0_4 a0_5 a0_6 a0_7 a0_8 a0_9 a0_10 a0_11 a0_12 a0_13 a0_14 a0_15 a0_16 a0_17 a0_18 =
  bif eqI a0_12 0 then
    bif !(eqI a0_13 a0_1&&(eqS a0_14 a0_2&&(eqS a0_15 a0_3&&(eqI a0_16 a0_4&&true)))) then
    some ⟨[.int 7],[],f59_fresh⟩
  else
    some ⟨[.int 0],[],f59_fresh⟩
  else
    some ⟨[.int 0],[],f59_fresh⟩:=by kernel_rfl
theorem f59_run (ext:Run) (n:Nat) (a0_1:Int) (a0_2 a0_3:List UInt8) (a0_4:Int) (a0_5:List UInt8) (a0_6 a0_7:Int) (a0_8 a0_9:Int) (a0_10 a0_11:Int) (a0_12 a0_13:Int) (a0_14 a0_15:List UInt8) (a0_16:Int) (a0_17 a0_18:List AV):runE G ext (n+1) 59 [.agg [.agg [.agg [.int a0_1,.blob a0_2,.blob a0_3,.int a0_4],.blob a0_5,.int a0_6,.int a0_7,.int a0_8,.int a0_9,.int a0_10,.int a0_11],.int a0_12,.agg [.agg [.int a0_13,.blob a0_14,.blob a0_15,.int a0_16],.slice a0_17],.slice a0_18]]=f59 (runE G ext n) n a0_1 a0_2 a0_3 a0_4 a0_5 a0_6 a0_7 a0_8 a0_9 a0_10 a0_11 a0_12 a0_13 a0_14 a0_15 a0_16 a0_17 a0_18:=runE_succ f59_at f59_in
noncomputable def f96 (run:Run) (n:Nat) (a0_1:List UInt8):Option Res:=evalK G run n f96_info.keep 0 f96_info.body (retE G f96_info) (f96_info.start [.blob a0_1])
theorem f96_eq (run:Run) (n:Nat) (a0_1:List UInt8):f96 run n a0_1 =
  some ⟨[.slice [.blob a0_1]],[],f96_fresh⟩:=by kernel_rfl
theorem f96_run (ext:Run) (n:Nat) (a0_1:List UInt8):runE G ext (n+1) 96 [.blob a0_1]=f96 (runE G ext n) n a0_1:=runE_succ f96_at f96_in
noncomputable def f85_l0 (run:Run) (n k0:Nat) (x6_1 x7_1:Int) (x21_1 x22_1:Int) (o2_1 o4_1 o5_1:List AV):Option Res :=
  iterK (evalK G run n f85_keep 0 (sub [1,1,1,1,1,0,1,0,0] f85_body)) f85_t0 f85_o0 (blockK 0 (seqK (evalK G run n f85_keep 0 (sub [1,1,1,1,1,1] f85_body) (retE G f85_info)) (retE G f85_info))) k0
    ⟨[qa,qa,.ptr ⟨(.arr 4 (.int .u64)),2,1,[]⟩,qa,.ptr ⟨(.arr 4 (.int .u64)),4,1,[]⟩,.ptr ⟨(.arr 4 (.int .u64)),5,1,[]⟩,.val (.int .i64) none (.int x6_1),.val (.int .u64) none (.int x7_1),qa,qa,qa,qa,qa,qa,qa,qa,qa,qa,qa,qa,qa,.val (.int .i64) none (.int x21_1),.val (.int .i64) none (.int x22_1),qa,qa,qa,qa,qa,qa,qa,qa,qa,qa,qa,qa,qa,qa,qa,qa,qa,qa,qa,qa,qa,qa,qa,qa,qa,qa,qa,qa,qa,qa,qa,qa,qa,qa,qa,.any],[qz,qz,⟨1,some ⟨(.arr 4 (.int .u64)),.agg o2_1⟩⟩,qz,⟨1,some ⟨(.arr 4 (.int .u64)),.agg o4_1⟩⟩,⟨1,some ⟨(.arr 4 (.int .u64)),.agg o5_1⟩⟩,qz,qz,qz,qz,qz,qz,qz,qz,qz,qz,qz,qz,qz,qz,qz,qz,qz,qz,qz,qz,qz,qz,qz,qz,qz,qz,qz,qz,qz,qz,qz,qz,qz,qz,qz,qz,qz,qz,qz,qz,qz,qz,qz,qz,qz,qz,qz,qz,qz,qz,qz,qz,qz],List.replicate 59 0⟩
theorem f85_l0_eq (run:Run) (n k0:Nat) (x6_1 x7_1:Int) (x21_1 x22_1:Int) (o2_1 o4_1 o5_1:List AV):f85_l0 run n (k0+1) x6_1 x7_1 x21_1 x22_1 o2_1 o4_1 o5_1 =
  bif ltI x22_1 x21_1 then
    bif inR (IntKind.wrap .i64 (x22_1+x6_1)) 4 then
    bif leI 0 x7_1 then
    bif inR x22_1 4 then
    bif ltI 0 x7_1 then
    bif ltI (IntKind.wrap .i64 (IntKind.wrap .i64 (x22_1+x6_1)+1)) 4 then
    bif inR x22_1 4 then
    bif inR (IntKind.wrap .i64 (IntKind.wrap .i64 (x22_1+x6_1)+1)) 4 then
    bif leI 0 (IntKind.wrap .u64 (64-x7_1)) then
    bif inR x22_1 4 then
    f85_l0 run n k0 x6_1 x7_1 x21_1 (IntKind.wrap .i64 (x22_1+1)) o2_1 o4_1 ((o5_1.set (Int.toNat x22_1) (.int (Int.fdiv ((AV.fld (.agg o2_1) (Int.toNat (IntKind.wrap .i64 (x22_1+x6_1)))).toInt) (2^(min (Int.toNat x7_1) 64))))).set (Int.toNat x22_1) (.int (IntKind.wrap .u64 (BitVec.toNat (BitVec.ofInt 64 ((AV.fld (.agg (o5_1.set (Int.toNat x22_1) (.int (Int.fdiv ((AV.fld (.agg o2_1) (Int.toNat (IntKind.wrap .i64 (x22_1+x6_1)))).toInt) (2^(min (Int.toNat x7_1) 64)))))) (Int.toNat x22_1)).toInt) ||| BitVec.ofInt 64 (IntKind.wrap .u64 ((AV.fld (.agg o2_1) (Int.toNat (IntKind.wrap .i64 (IntKind.wrap .i64 (x22_1+x6_1)+1)))).toInt*2^(min (Int.toNat (IntKind.wrap .u64 (64-x7_1))) 64))))))))
  else none
  else none
  else none
  else none
  else
    f85_l0 run n k0 x6_1 x7_1 x21_1 (IntKind.wrap .i64 (x22_1+1)) o2_1 o4_1 (o5_1.set (Int.toNat x22_1) (.int (Int.fdiv ((AV.fld (.agg o2_1) (Int.toNat (IntKind.wrap .i64 (x22_1+x6_1)))).toInt) (2^(min (Int.toNat x7_1) 64)))))
  else
    f85_l0 run n k0 x6_1 x7_1 x21_1 (IntKind.wrap .i64 (x22_1+1)) o2_1 o4_1 (o5_1.set (Int.toNat x22_1) (.int (Int.fdiv ((AV.fld (.agg o2_1) (Int.toNat (IntKind.wrap .i64 (x22_1+x6_1)))).toInt) (2^(min (Int.toNat x7_1) 64)))))
  else none
  else none
  else none
  else
    some ⟨[.agg o5_1],[],f85_fresh⟩:=by kernel_rfl
noncomputable def f85 (run:Run) (n:Nat) (a0_1:List AV) (a1_1:Int):Option Res:=evalK G run n f85_info.keep 0 f85_info.body (retE G f85_info) (f85_info.start [.agg a0_1,.int a1_1])
theorem f85_eq (run:Run) (n:Nat) (a0_1:List AV) (a1_1:Int):f85 run n a0_1 a1_1 =
  bif leI a1_1 0 then
    some ⟨[.agg a0_1],[],f85_fresh⟩
  else
    bif leI 256 a1_1 then
    some ⟨[.agg [.int 0,.int 0,.int 0,.int 0]],[],f85_fresh⟩
  else
    f85_l0 run n n (IntKind.wrap .i64 (Int.tdiv a1_1 64)) (IntKind.wrap .u64 (Int.tmod a1_1 64)) (IntKind.wrap .i64 (4-IntKind.wrap .i64 (Int.tdiv a1_1 64))) 0 a0_1 (List.replicate 4 (.int 0)) (List.replicate 4 (.int 0)):=by kernel_rfl
theorem f85_run (ext:Run) (n:Nat) (a0_1:List AV) (a1_1:Int):runE G ext (n+1) 85 [.agg a0_1,.int a1_1]=f85 (runE G ext n) n a0_1 a1_1:=runE_succ f85_at f85_in
end Go.Proofs.YteiahdlklppghaaGreat.Ev

