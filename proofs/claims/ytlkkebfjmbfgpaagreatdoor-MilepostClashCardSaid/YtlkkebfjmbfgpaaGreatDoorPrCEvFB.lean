import Derived.Test.YtlkkebfjmbfgpaaGreatDoorPrCEvFA
namespace Go.Proofs.YtlkkebfjmbfgpaaGreatDoor.Ev
open Go Go.RowKit
set_option maxRecDepth 100000
noncomputable def f100 (run:Run) (n:Nat) (a0_1:Int):Option Res:=evalK G run n f100_info.keep 0 f100_info.body (retE G f100_info) (f100_info.start [.int a0_1])
theorem f100_eq (run:Run) (n:Nat) (a0_1:Int):f100 run n a0_1 =
  some ⟨[.str (bytesOf [.int (IntKind.wrap .u8 a0_1)])],[],f100_fresh⟩:=by kernel_rfl
theorem f100_run (ext:Run) (n:Nat) (a0_1:Int):runE G ext (n+1) 100 [.int a0_1]=f100 (runE G ext n) n a0_1:=runE_succ f100_at f100_in
noncomputable def f103 (run:Run) (n:Nat) (a0_1:List UInt8):Option Res:=evalK G run n f103_info.keep 0 f103_info.body (retE G f103_info) (f103_info.start [.str a0_1])
theorem f103_eq (run:Run) (n:Nat) (a0_1:List UInt8):f103 run n a0_1 =
  (run 100 [.int 0]).bind fun r1 =>
    nilV r1.outs (consV r1.vals fun v1 vs1 =>
    nilV vs1 (bif Nat.ble (v1.toStr.length+a0_1.length) maxLen then
    some ⟨[.str (v1.toStr++a0_1)],[],f103_fresh⟩
  else none)):=by kernel_rfl
theorem f103_run (ext:Run) (n:Nat) (a0_1:List UInt8):runE G ext (n+1) 103 [.str a0_1]=f103 (runE G ext n) n a0_1:=runE_succ f103_at f103_in
noncomputable def f96 (run:Run) (n:Nat):Option Res:=evalK G run n f96_info.keep 0 f96_info.body (retE G f96_info) (f96_info.start [])
theorem f96_eq (run:Run) (n:Nat):f96 run n  =
  some ⟨[.agg [.int 1779033703,.int 3144134277,.int 1013904242,.int 2773480762,.int 1359893119,.int 2600822924,.int 528734635,.int 1541459225]],[],f96_fresh⟩:=by kernel_rfl
theorem f96_run (ext:Run) (n:Nat):runE G ext (n+1) 96 []=f96 (runE G ext n) n :=runE_succ f96_at f96_in
noncomputable def f99_l0 (run:Run) (n k0:Nat) (x0_1 x1_1:Int) (x5_1:List UInt8) (x6_1:Int):Option Res :=
  iterK (evalK G run n f99_keep 0 (sub [1,1,0,1,0,0] f99_body)) f99_t0 f99_o0 (blockK 0 (seqK (nextK G run n f99_keep 0 (sub [1,1,1] f99_body) (retE G f99_info)) (retE G f99_info))) k0
    ⟨[.val (.int .u64) none (.int x0_1),.val (.int .i64) none (.int x1_1),qa,qa,qa,.val .str none (.str x5_1),.val (.int .i64) none (.int x6_1),qa,qa,qa,qa,qa,qa,qa,qa,qa,qa,qa,qa,qa,.any],[qz,qz,qz,qz,qz,qz,qz,qz,qz,qz,qz,qz,qz,qz,qz,qz,qz,qz,qz,qz,qz],List.replicate 21 0⟩
theorem f99_l0_eq (run:Run) (n k0:Nat) (x0_1 x1_1:Int) (x5_1:List UInt8) (x6_1:Int):f99_l0 run n (k0+1) x0_1 x1_1 x5_1 x6_1 =
  bif ltI x6_1 x1_1 then
    (run 100 [.int (IntKind.wrap .i64 (Int.tmod x0_1 256))]).bind fun r1 =>
    nilV r1.outs (consV r1.vals fun v1 vs1 =>
    nilV vs1 (bif Nat.ble (v1.toStr.length+x5_1.length) maxLen then
    f99_l0 run n k0 (IntKind.wrap .u64 (Int.tdiv x0_1 256)) x1_1 (v1.toStr++x5_1) (IntKind.wrap .i64 (x6_1+1))
  else none))
  else
    some ⟨[.str x5_1],[],f99_fresh⟩:=by kernel_rfl
noncomputable def f99 (run:Run) (n:Nat) (a0_1 a1_1:Int):Option Res:=evalK G run n f99_info.keep 0 f99_info.body (retE G f99_info) (f99_info.start [.int a0_1,.int a1_1])
theorem f99_eq (run:Run) (n:Nat) (a0_1 a1_1:Int):f99 run n a0_1 a1_1 =
  f99_l0 run n n a0_1 a1_1 [] 0:=by kernel_rfl
theorem f99_run (ext:Run) (n:Nat) (a0_1 a1_1:Int):runE G ext (n+1) 99 [.int a0_1,.int a1_1]=f99 (runE G ext n) n a0_1 a1_1:=runE_succ f99_at f99_in
noncomputable def f97_l0 (run:Run) (n k0:Nat) (x0_1:Int) (x3_1:List UInt8):Option Res :=
  iterK (evalK G run n f97_keep 0 (sub [1,1,0,0,0] f97_body)) f97_t0 f97_o0 (blockK 0 (seqK (nextK G run n f97_keep 0 (sub [1,1,1] f97_body) (retE G f97_info)) (retE G f97_info))) k0
    ⟨[.val (.int .u64) none (.int x0_1),qa,qa,.val .str none (.str x3_1),qa,qa,qa,qa,qa,qa,qa,qa,qa,qa,qa,qa,qa,qa,qa,qa,qa,.any],[qz,qz,qz,qz,qz,qz,qz,qz,qz,qz,qz,qz,qz,qz,qz,qz,qz,qz,qz,qz,qz,qz],List.replicate 22 0⟩
theorem f97_l0_eq (run:Run) (n k0:Nat) (x0_1:Int) (x3_1:List UInt8):f97_l0 run n (k0+1) x0_1 x3_1 =
  bif !(eqI (Int.tmod (IntKind.wrap .u64 (IntKind.wrap .u64 (Int.tmod x0_1 64+IntKind.wrap .u64 (x3_1.length:Int))+8)) 64) 0) then
    (run 100 [.int 0]).bind fun r2 =>
    nilV r2.outs (consV r2.vals fun v2 vs2 =>
    nilV vs2 (bif Nat.ble (x3_1.length+v2.toStr.length) maxLen then
    f97_l0 run n k0 x0_1 (x3_1++v2.toStr)
  else none))
  else
    (run 99 [.int (IntKind.wrap .u64 (x0_1*8)),.int 8]).bind fun r3 =>
    nilV r3.outs (consV r3.vals fun v3 vs3 =>
    nilV vs3 (bif Nat.ble (x3_1.length+v3.toStr.length) maxLen then
    some ⟨[.str (x3_1++v3.toStr)],[],f97_fresh⟩
  else none)):=by kernel_rfl
noncomputable def f97 (run:Run) (n:Nat) (a0_1:Int):Option Res:=evalK G run n f97_info.keep 0 f97_info.body (retE G f97_info) (f97_info.start [.int a0_1])
theorem f97_eq (run:Run) (n:Nat) (a0_1:Int):f97 run n a0_1 =
  (run 100 [.int 128]).bind fun r1 =>
    nilV r1.outs (consV r1.vals fun v1 vs1 =>
    nilV vs1 (f97_l0 run n n a0_1 v1.toStr)):=by kernel_rfl
theorem f97_run (ext:Run) (n:Nat) (a0_1:Int):runE G ext (n+1) 97 [.int a0_1]=f97 (runE G ext n) n a0_1:=runE_succ f97_at f97_in
noncomputable def f211_l0 (run:Run) (n k0:Nat) (x0_1:List UInt8) (x1_1 x2_1:Int) (x7_1 x8_1:Int):Option Res :=
  iterK (evalK G run n f211_keep 0 (sub [1,1,0,1,0,0] f211_body)) f211_t0 f211_o0 (blockK 0 (seqK (nextK G run n f211_keep 0 (sub [1,1,1] f211_body) (retE G f211_info)) (retE G f211_info))) k0
    ⟨[.val .str none (.str x0_1),.val (.int .i64) none (.int x1_1),.val (.int .i64) none (.int x2_1),qa,qa,qa,qa,.val (.int .u64) none (.int x7_1),.val (.int .i64) none (.int x8_1),qa,qa,qa,qa,qa,qa,qa,qa,qa,qa,qa,qa,qa,qa,qa,qa,qa,qa,qa,qa,qa,qa,qa,qa,qa,qa,qa,qa,qa,qa,qa,.any],[qz,qz,qz,qz,qz,qz,qz,qz,qz,qz,qz,qz,qz,qz,qz,qz,qz,qz,qz,qz,qz,qz,qz,qz,qz,qz,qz,qz,qz,qz,qz,qz,qz,qz,qz,qz,qz,qz,qz,qz,qz],List.replicate 41 0⟩
theorem f211_l0_eq (run:Run) (n k0:Nat) (x0_1:List UInt8) (x1_1 x2_1:Int) (x7_1 x8_1:Int):f211_l0 run n (k0+1) x0_1 x1_1 x2_1 x7_1 x8_1 =
  bif ltI x8_1 x2_1 then
    bif leI 0 x1_1 then
    bif ltI x1_1 (x0_1.length:Int) then
    bif ltI x8_1 (IntKind.wrap .i64 ((x0_1.length:Int)-x1_1)) then
    bif inR (IntKind.wrap .i64 (x1_1+x8_1)) x0_1.length then
    f211_l0 run n k0 x0_1 x1_1 x2_1 (IntKind.wrap .u64 (IntKind.wrap .u64 (x7_1*256)+IntKind.wrap .u64 ((x0_1.getD (Int.toNat (IntKind.wrap .i64 (x1_1+x8_1))) 0).toNat:Int))) (IntKind.wrap .i64 (x8_1+1))
  else none
  else
    f211_l0 run n k0 x0_1 x1_1 x2_1 (IntKind.wrap .u64 (x7_1*256)) (IntKind.wrap .i64 (x8_1+1))
  else
    f211_l0 run n k0 x0_1 x1_1 x2_1 (IntKind.wrap .u64 (x7_1*256)) (IntKind.wrap .i64 (x8_1+1))
  else
    f211_l0 run n k0 x0_1 x1_1 x2_1 (IntKind.wrap .u64 (x7_1*256)) (IntKind.wrap .i64 (x8_1+1))
  else
    some ⟨[.int x7_1],[],f211_fresh⟩:=by kernel_rfl
noncomputable def f211 (run:Run) (n:Nat) (a0_1:List UInt8) (a1_1 a2_1:Int):Option Res:=evalK G run n f211_info.keep 0 f211_info.body (retE G f211_info) (f211_info.start [.str a0_1,.int a1_1,.int a2_1])
theorem f211_eq (run:Run) (n:Nat) (a0_1:List UInt8) (a1_1 a2_1:Int):f211 run n a0_1 a1_1 a2_1 =
  f211_l0 run n n a0_1 a1_1 a2_1 0 0:=by kernel_rfl
theorem f211_run (ext:Run) (n:Nat) (a0_1:List UInt8) (a1_1 a2_1:Int):runE G ext (n+1) 211 [.str a0_1,.int a1_1,.int a2_1]=f211 (runE G ext n) n a0_1 a1_1 a2_1:=runE_succ f211_at f211_in
noncomputable def f162 (run:Run) (n:Nat) (a0_1 a1_1:Int):Option Res:=evalK G run n f162_info.keep 0 f162_info.body (retE G f162_info) (f162_info.start [.int a0_1,.int a1_1])
theorem f162_eq (run:Run) (n:Nat) (a0_1 a1_1:Int):f162 run n a0_1 a1_1 =
  bif leI 0 a1_1 then
    bif leI 0 (IntKind.wrap .u64 (32-a1_1)) then
    some ⟨[.int (IntKind.wrap .u32 (Int.fdiv a0_1 (2^(min (Int.toNat a1_1) 32))+IntKind.wrap .u32 (a0_1*2^(min (Int.toNat (IntKind.wrap .u64 (32-a1_1))) 32))))],[],f162_fresh⟩
  else none
  else none:=by kernel_rfl
theorem f162_run (ext:Run) (n:Nat) (a0_1 a1_1:Int):runE G ext (n+1) 162 [.int a0_1,.int a1_1]=f162 (runE G ext n) n a0_1 a1_1:=runE_succ f162_at f162_in
noncomputable def f161_l2 (run:Run) (n _k0 k2:Nat) (x5_1:Int) (o2_3 o3_3:List AV):Option Res :=
  iterK (evalK G run n f161_keep 2 (sub [1,1,1,0,1,0,0] f161_body)) f161_t2 f161_o2 (blockK 2 (seqK (nextK G run n f161_keep 0 (sub [1,1,1,1] f161_body) (retE G f161_info)) (retE G f161_info))) k2
    ⟨[qa,qa,.ptr ⟨(.arr 64 (.int .u32)),2,1,[]⟩,.ptr ⟨(.arr 64 (.int .u32)),3,1,[]⟩,qa,.val (.int .i64) none (.int x5_1),qa,qa,qa,qa,qa,qa,qa,qa,qa,qa,qa,qa,qa,qa,qa,qa,qa,qa,qa,qa,qa,qa,qa,qa,qa,qa,qa,qa,qa,qa,qa,qa,qa,qa,qa,qa,qa,qa,qa,qa,qa,qa,qa,qa,qa,qa,qa,qa,qa,qa,qa,qa,qa,qa,.any],[qz,qz,⟨1,some ⟨(.arr 64 (.int .u32)),.agg o2_3⟩⟩,⟨1,some ⟨(.arr 64 (.int .u32)),.agg o3_3⟩⟩,qz,qz,qz,qz,qz,qz,qz,qz,qz,qz,qz,qz,qz,qz,qz,qz,qz,qz,qz,qz,qz,qz,qz,qz,qz,qz,qz,qz,qz,qz,qz,qz,qz,qz,qz,qz,qz,qz,qz,qz,qz,qz,qz,qz,qz,qz,qz,qz,qz,qz,qz,qz,qz,qz,qz,qz,qz],List.replicate 61 0⟩
noncomputable def f161_l0 (run:Run) (n k0:Nat) (x0_1:List UInt8) (x4_1:Int) (o2_1 o3_1:List AV):Option Res :=
  iterK (evalK G run n f161_keep 0 (sub [1,1,0,1,0,0] f161_body)) f161_t0 f161_o0 (blockK 0 (seqK (nextK G run n f161_keep 0 (sub [1,1,1] f161_body) (retE G f161_info)) (retE G f161_info))) k0
    ⟨[.val .str none (.str x0_1),qa,.ptr ⟨(.arr 64 (.int .u32)),2,1,[]⟩,.ptr ⟨(.arr 64 (.int .u32)),3,1,[]⟩,.val (.int .i64) none (.int x4_1),qa,qa,qa,qa,qa,qa,qa,qa,qa,qa,qa,qa,qa,qa,qa,qa,qa,qa,qa,qa,qa,qa,qa,qa,qa,qa,qa,qa,qa,qa,qa,qa,qa,qa,qa,qa,qa,qa,qa,qa,qa,qa,qa,qa,qa,qa,qa,qa,qa,qa,qa,qa,qa,qa,qa,.any],[qz,qz,⟨1,some ⟨(.arr 64 (.int .u32)),.agg o2_1⟩⟩,⟨1,some ⟨(.arr 64 (.int .u32)),.agg o3_1⟩⟩,qz,qz,qz,qz,qz,qz,qz,qz,qz,qz,qz,qz,qz,qz,qz,qz,qz,qz,qz,qz,qz,qz,qz,qz,qz,qz,qz,qz,qz,qz,qz,qz,qz,qz,qz,qz,qz,qz,qz,qz,qz,qz,qz,qz,qz,qz,qz,qz,qz,qz,qz,qz,qz,qz,qz,qz,qz],List.replicate 61 0⟩
theorem f161_l2_eq (run:Run) (n k0 k2:Nat) (x5_1:Int) (o2_3 o3_3:List AV):f161_l2 run n k0 (k2+1) x5_1 o2_3 o3_3 =
  bif ltI x5_1 64 then
    bif inR (IntKind.wrap .i64 (x5_1-15)) 64 then
    bif inR (IntKind.wrap .i64 (x5_1-2)) 64 then
    bif inR (IntKind.wrap .i64 (x5_1-16)) 64 then
    (run 162 [.int ((AV.fld (.agg o3_3) (Int.toNat (IntKind.wrap .i64 (x5_1-15)))).toInt),.int 7]).bind fun r2 =>
    nilV r2.outs (consV r2.vals fun v2 vs2 =>
    nilV vs2 ((run 162 [.int ((AV.fld (.agg o3_3) (Int.toNat (IntKind.wrap .i64 (x5_1-15)))).toInt),.int 18]).bind fun r3 =>
    nilV r3.outs (consV r3.vals fun v3 vs3 =>
    nilV vs3 (bif inR (IntKind.wrap .i64 (x5_1-7)) 64 then
    (run 162 [.int ((AV.fld (.agg o3_3) (Int.toNat (IntKind.wrap .i64 (x5_1-2)))).toInt),.int 17]).bind fun r4 =>
    nilV r4.outs (consV r4.vals fun v4 vs4 =>
    nilV vs4 ((run 162 [.int ((AV.fld (.agg o3_3) (Int.toNat (IntKind.wrap .i64 (x5_1-2)))).toInt),.int 19]).bind fun r5 =>
    nilV r5.outs (consV r5.vals fun v5 vs5 =>
    nilV vs5 (bif inR x5_1 64 then
    f161_l2 run n k0 k2 (IntKind.wrap .i64 (x5_1+1)) o2_3 (o3_3.set (Int.toNat x5_1) (.int (IntKind.wrap .u32 (IntKind.wrap .u32 (IntKind.wrap .u32 ((AV.fld (.agg o3_3) (Int.toNat (IntKind.wrap .i64 (x5_1-16)))).toInt+IntKind.wrap .u32 (BitVec.toNat (BitVec.ofInt 32 (IntKind.wrap .u32 (BitVec.toNat (BitVec.ofInt 32 v2.toInt ^^^ BitVec.ofInt 32 v3.toInt))) ^^^ BitVec.ofInt 32 (Int.fdiv ((AV.fld (.agg o3_3) (Int.toNat (IntKind.wrap .i64 (x5_1-15)))).toInt) (2^3)))))+(AV.fld (.agg o3_3) (Int.toNat (IntKind.wrap .i64 (x5_1-7)))).toInt)+IntKind.wrap .u32 (BitVec.toNat (BitVec.ofInt 32 (IntKind.wrap .u32 (BitVec.toNat (BitVec.ofInt 32 v4.toInt ^^^ BitVec.ofInt 32 v5.toInt))) ^^^ BitVec.ofInt 32 (Int.fdiv ((AV.fld (.agg o3_3) (Int.toNat (IntKind.wrap .i64 (x5_1-2)))).toInt) (2^10))))))))
  else none))))
  else none))))
  else none
  else none
  else none
  else
    some ⟨[.agg o3_3],[],f161_fresh⟩:=by kernel_rfl
theorem f161_l0_eq (run:Run) (n k0:Nat) (x0_1:List UInt8) (x4_1:Int) (o2_1 o3_1:List AV):f161_l0 run n (k0+1) x0_1 x4_1 o2_1 o3_1 =
  bif ltI x4_1 16 then
    (run 211 [.str x0_1,.int (IntKind.wrap .i64 (4*x4_1)),.int 4]).bind fun r1 =>
    nilV r1.outs (consV r1.vals fun v1 vs1 =>
    nilV vs1 (bif inR x4_1 64 then
    f161_l0 run n k0 x0_1 (IntKind.wrap .i64 (x4_1+1)) o2_1 (o3_1.set (Int.toNat x4_1) (.int (IntKind.wrap .u32 v1.toInt)))
  else none))
  else
    f161_l2 run n k0 n 16 o2_1 o3_1:=by kernel_rfl
noncomputable def f161 (run:Run) (n:Nat) (a0_1:List UInt8):Option Res:=evalK G run n f161_info.keep 0 f161_info.body (retE G f161_info) (f161_info.start [.str a0_1])
theorem f161_eq (run:Run) (n:Nat) (a0_1:List UInt8):f161 run n a0_1 =
  f161_l0 run n n a0_1 0 (List.replicate 64 (.int 0)) (List.replicate 64 (.int 0)):=by kernel_rfl
theorem f161_run (ext:Run) (n:Nat) (a0_1:List UInt8):runE G ext (n+1) 161 [.str a0_1]=f161 (runE G ext n) n a0_1:=runE_succ f161_at f161_in
noncomputable def f163 (run:Run) (n:Nat) (a0_1:Int):Option Res:=evalK G run n f163_info.keep 0 f163_info.body (retE G f163_info) (f163_info.start [.int a0_1])
theorem f163_eq (run:Run) (n:Nat) (a0_1:Int):f163 run n a0_1 =
  bif inR a0_1 64 then
    some ⟨[.int ((nth [.int 1116352408,.int 1899447441,.int 3049323471,.int 3921009573,.int 961987163,.int 1508970993,.int 2453635748,.int 2870763221,.int 3624381080,.int 310598401,.int 607225278,.int 1426881987,.int 1925078388,.int 2162078206,.int 2614888103,.int 3248222580,.int 3835390401,.int 4022224774,.int 264347078,.int 604807628,.int 770255983,.int 1249150122,.int 1555081692,.int 1996064986,.int 2554220882,.int 2821834349,.int 2952996808,.int 3210313671,.int 3336571891,.int 3584528711,.int 113926993,.int 338241895,.int 666307205,.int 773529912,.int 1294757372,.int 1396182291,.int 1695183700,.int 1986661051,.int 2177026350,.int 2456956037,.int 2730485921,.int 2820302411,.int 3259730800,.int 3345764771,.int 3516065817,.int 3600352804,.int 4094571909,.int 275423344,.int 430227734,.int 506948616,.int 659060556,.int 883997877,.int 958139571,.int 1322822218,.int 1537002063,.int 1747873779,.int 1955562222,.int 2024104815,.int 2227730452,.int 2361852424,.int 2428436474,.int 2756734187,.int 3204031479,.int 3329325298] (Int.toNat a0_1)).toInt)],[],f163_fresh⟩
  else none:=by kernel_rfl
theorem f163_run (ext:Run) (n:Nat) (a0_1:Int):runE G ext (n+1) 163 [.int a0_1]=f163 (runE G ext n) n a0_1:=runE_succ f163_at f163_in
noncomputable def f98_l2 (run:Run) (n k0 k2:Nat) (x7_2 x10_1:Int) (x11_1 x12_1:Int) (o2_2 o4_2:List AV) (o5_2 o6_2:List AV):Option Res :=
  iterK (evalK G run n f98_keep 2 (sub [1,1,1,0,1,0,0,1,0,0,1,1,1,1,0,1,0,0] f98_body)) f98_t2 f98_o2 (blockK 2 (seqK (nextK G run n f98_keep 1 (sub [1,1,1,0,1,0,0,1,0,0,1,1,1,1,1] f98_body) (blockK 1 (seqK (nextK G run n f98_keep 0 (sub [1,1,1,0,1,0,0,1,1] f98_body) (seqK (fun t=>iterK (evalK G run n f98_keep 0 (sub [1,1,1,0,1,0,0] f98_body)) f98_t0 f98_o0 (blockK 0 (seqK (nextK G run n f98_keep 0 (sub [1,1,1,1] f98_body) (retE G f98_info)) (retE G f98_info))) k0 (t.clear f98_t0 f98_o0)) (blockK 0 (seqK (nextK G run n f98_keep 0 (sub [1,1,1,1] f98_body) (retE G f98_info)) (retE G f98_info))))) (seqK (fun t=>iterK (evalK G run n f98_keep 0 (sub [1,1,1,0,1,0,0] f98_body)) f98_t0 f98_o0 (blockK 0 (seqK (nextK G run n f98_keep 0 (sub [1,1,1,1] f98_body) (retE G f98_info)) (retE G f98_info))) k0 (t.clear f98_t0 f98_o0)) (blockK 0 (seqK (nextK G run n f98_keep 0 (sub [1,1,1,1] f98_body) (retE G f98_info)) (retE G f98_info))))))) (blockK 1 (seqK (nextK G run n f98_keep 0 (sub [1,1,1,0,1,0,0,1,1] f98_body) (seqK (fun t=>iterK (evalK G run n f98_keep 0 (sub [1,1,1,0,1,0,0] f98_body)) f98_t0 f98_o0 (blockK 0 (seqK (nextK G run n f98_keep 0 (sub [1,1,1,1] f98_body) (retE G f98_info)) (retE G f98_info))) k0 (t.clear f98_t0 f98_o0)) (blockK 0 (seqK (nextK G run n f98_keep 0 (sub [1,1,1,1] f98_body) (retE G f98_info)) (retE G f98_info))))) (seqK (fun t=>iterK (evalK G run n f98_keep 0 (sub [1,1,1,0,1,0,0] f98_body)) f98_t0 f98_o0 (blockK 0 (seqK (nextK G run n f98_keep 0 (sub [1,1,1,1] f98_body) (retE G f98_info)) (retE G f98_info))) k0 (t.clear f98_t0 f98_o0)) (blockK 0 (seqK (nextK G run n f98_keep 0 (sub [1,1,1,1] f98_body) (retE G f98_info)) (retE G f98_info)))))))) k2
    ⟨[qa,qa,.ptr ⟨(.arr 8 (.int .u32)),2,1,[]⟩,qa,.ptr ⟨(.arr 8 (.int .u32)),4,1,[]⟩,.ptr ⟨(.arr 64 (.int .u32)),5,1,[]⟩,.ptr ⟨(.arr 8 (.int .u32)),6,1,[]⟩,.val (.int .i64) none (.int x7_2),qa,qa,.val (.int .u32) none (.int x10_1),.val (.int .u32) none (.int x11_1),.val (.int .i64) none (.int x12_1),qa,qa,qa,qa,qa,qa,qa,qa,qa,qa,qa,qa,qa,qa,qa,qa,qa,qa,qa,qa,qa,qa,qa,qa,qa,qa,qa,qa,qa,qa,qa,qa,qa,qa,qa,qa,qa,qa,qa,qa,qa,qa,qa,qa,qa,qa,qa,qa,qa,qa,qa,qa,qa,qa,qa,qa,qa,qa,qa,qa,qa,qa,qa,qa,qa,qa,qa,qa,qa,qa,qa,qa,qa,qa,qa,qa,qa,qa,qa,qa,qa,qa,qa,qa,qa,qa,qa,qa,qa,qa,qa,qa,qa,qa,qa,qa,.any],[qz,qz,⟨1,some ⟨(.arr 8 (.int .u32)),.agg o2_2⟩⟩,qz,⟨1,some ⟨(.arr 8 (.int .u32)),.agg o4_2⟩⟩,⟨1,some ⟨(.arr 64 (.int .u32)),.agg o5_2⟩⟩,⟨1,some ⟨(.arr 8 (.int .u32)),.agg o6_2⟩⟩,qz,qz,qz,qz,qz,qz,qz,qz,qz,qz,qz,qz,qz,qz,qz,qz,qz,qz,qz,qz,qz,qz,qz,qz,qz,qz,qz,qz,qz,qz,qz,qz,qz,qz,qz,qz,qz,qz,qz,qz,qz,qz,qz,qz,qz,qz,qz,qz,qz,qz,qz,qz,qz,qz,qz,qz,qz,qz,qz,qz,qz,qz,qz,qz,qz,qz,qz,qz,qz,qz,qz,qz,qz,qz,qz,qz,qz,qz,qz,qz,qz,qz,qz,qz,qz,qz,qz,qz,qz,qz,qz,qz,qz,qz,qz,qz,qz,qz,qz,qz,qz,qz,qz],List.replicate 110 0⟩
noncomputable def f98_l4 (run:Run) (n _k0 k4:Nat) (x13_1:Int) (o2_5 o4_5 o6_5:List AV):Option Res :=
  iterK (evalK G run n f98_keep 4 (sub [1,1,1,1,0,1,0,0] f98_body)) f98_t4 f98_o4 (blockK 4 (seqK (nextK G run n f98_keep 0 (sub [1,1,1,1,1] f98_body) (retE G f98_info)) (retE G f98_info))) k4
    ⟨[qa,qa,.ptr ⟨(.arr 8 (.int .u32)),2,1,[]⟩,qa,.ptr ⟨(.arr 8 (.int .u32)),4,1,[]⟩,qa,.ptr ⟨(.arr 8 (.int .u32)),6,1,[]⟩,qa,qa,qa,qa,qa,qa,.val (.int .i64) none (.int x13_1),qa,qa,qa,qa,qa,qa,qa,qa,qa,qa,qa,qa,qa,qa,qa,qa,qa,qa,qa,qa,qa,qa,qa,qa,qa,qa,qa,qa,qa,qa,qa,qa,qa,qa,qa,qa,qa,qa,qa,qa,qa,qa,qa,qa,qa,qa,qa,qa,qa,qa,qa,qa,qa,qa,qa,qa,qa,qa,qa,qa,qa,qa,qa,qa,qa,qa,qa,qa,qa,qa,qa,qa,qa,qa,qa,qa,qa,qa,qa,qa,qa,qa,qa,qa,qa,qa,qa,qa,qa,qa,qa,qa,qa,qa,qa,.any],[qz,qz,⟨1,some ⟨(.arr 8 (.int .u32)),.agg o2_5⟩⟩,qz,⟨1,some ⟨(.arr 8 (.int .u32)),.agg o4_5⟩⟩,qz,⟨1,some ⟨(.arr 8 (.int .u32)),.agg o6_5⟩⟩,qz,qz,qz,qz,qz,qz,qz,qz,qz,qz,qz,qz,qz,qz,qz,qz,qz,qz,qz,qz,qz,qz,qz,qz,qz,qz,qz,qz,qz,qz,qz,qz,qz,qz,qz,qz,qz,qz,qz,qz,qz,qz,qz,qz,qz,qz,qz,qz,qz,qz,qz,qz,qz,qz,qz,qz,qz,qz,qz,qz,qz,qz,qz,qz,qz,qz,qz,qz,qz,qz,qz,qz,qz,qz,qz,qz,qz,qz,qz,qz,qz,qz,qz,qz,qz,qz,qz,qz,qz,qz,qz,qz,qz,qz,qz,qz,qz,qz,qz,qz,qz,qz,qz],List.replicate 110 0⟩
noncomputable def f98_l0 (run:Run) (n k0:Nat) (x7_1:Int) (o2_1 o4_1:List AV) (o5_1 o6_1:List AV):Option Res :=
  iterK (evalK G run n f98_keep 0 (sub [1,1,1,0,1,0,0] f98_body)) f98_t0 f98_o0 (blockK 0 (seqK (nextK G run n f98_keep 0 (sub [1,1,1,1] f98_body) (retE G f98_info)) (retE G f98_info))) k0
    ⟨[qa,qa,.ptr ⟨(.arr 8 (.int .u32)),2,1,[]⟩,qa,.ptr ⟨(.arr 8 (.int .u32)),4,1,[]⟩,.ptr ⟨(.arr 64 (.int .u32)),5,1,[]⟩,.ptr ⟨(.arr 8 (.int .u32)),6,1,[]⟩,.val (.int .i64) none (.int x7_1),qa,qa,qa,qa,qa,qa,qa,qa,qa,qa,qa,qa,qa,qa,qa,qa,qa,qa,qa,qa,qa,qa,qa,qa,qa,qa,qa,qa,qa,qa,qa,qa,qa,qa,qa,qa,qa,qa,qa,qa,qa,qa,qa,qa,qa,qa,qa,qa,qa,qa,qa,qa,qa,qa,qa,qa,qa,qa,qa,qa,qa,qa,qa,qa,qa,qa,qa,qa,qa,qa,qa,qa,qa,qa,qa,qa,qa,qa,qa,qa,qa,qa,qa,qa,qa,qa,qa,qa,qa,qa,qa,qa,qa,qa,qa,qa,qa,qa,qa,qa,qa,.any],[qz,qz,⟨1,some ⟨(.arr 8 (.int .u32)),.agg o2_1⟩⟩,qz,⟨1,some ⟨(.arr 8 (.int .u32)),.agg o4_1⟩⟩,⟨1,some ⟨(.arr 64 (.int .u32)),.agg o5_1⟩⟩,⟨1,some ⟨(.arr 8 (.int .u32)),.agg o6_1⟩⟩,qz,qz,qz,qz,qz,qz,qz,qz,qz,qz,qz,qz,qz,qz,qz,qz,qz,qz,qz,qz,qz,qz,qz,qz,qz,qz,qz,qz,qz,qz,qz,qz,qz,qz,qz,qz,qz,qz,qz,qz,qz,qz,qz,qz,qz,qz,qz,qz,qz,qz,qz,qz,qz,qz,qz,qz,qz,qz,qz,qz,qz,qz,qz,qz,qz,qz,qz,qz,qz,qz,qz,qz,qz,qz,qz,qz,qz,qz,qz,qz,qz,qz,qz,qz,qz,qz,qz,qz,qz,qz,qz,qz,qz,qz,qz,qz,qz,qz,qz,qz,qz,qz,qz],List.replicate 110 0⟩
theorem f98_l2_eq (run:Run) (n k0 k2:Nat) (x7_2 x10_1:Int) (x11_1 x12_1:Int) (o2_2 o4_2:List AV) (o5_2 o6_2:List AV):f98_l2 run n k0 (k2+1) x7_2 x10_1 x11_1 x12_1 o2_2 o4_2 o5_2 o6_2 =
  bif ltI 0 x12_1 then
    bif inR (IntKind.wrap .i64 (x12_1-1)) 8 then
    bif inR x12_1 8 then
    f98_l2 run n k0 k2 x7_2 x10_1 x11_1 (IntKind.wrap .i64 (x12_1-1)) (o2_2.set (Int.toNat x12_1) (.int ((AV.fld (.agg o2_2) (Int.toNat (IntKind.wrap .i64 (x12_1-1)))).toInt))) o4_2 o5_2 o6_2
  else none
  else none
  else
    f98_l0 run n k0 (IntKind.wrap .i64 (x7_2+1)) ((o2_2.set 4 (.int (IntKind.wrap .u32 ((AV.fld (.agg o2_2) 4).toInt+x10_1)))).set 0 (.int (IntKind.wrap .u32 (x10_1+x11_1)))) o4_2 o5_2 o6_2:=by kernel_rfl
theorem f98_l4_eq (run:Run) (n k0 k4:Nat) (x13_1:Int) (o2_5 o4_5 o6_5:List AV):f98_l4 run n k0 (k4+1) x13_1 o2_5 o4_5 o6_5 =
  bif ltI x13_1 8 then
    bif inR x13_1 8 then
    bif inR x13_1 8 then
    bif inR x13_1 8 then
    f98_l4 run n k0 k4 (IntKind.wrap .i64 (x13_1+1)) (o2_5.set (Int.toNat x13_1) (.int (IntKind.wrap .u32 ((AV.fld (.agg o2_5) (Int.toNat x13_1)).toInt+(AV.fld (.agg o6_5) (Int.toNat x13_1)).toInt)))) o4_5 o6_5
  else none
  else none
  else none
  else
    some ⟨[.agg o2_5],[],f98_fresh⟩:=by kernel_rfl
theorem f98_l0_eq (run:Run) (n k0:Nat) (x7_1:Int) (o2_1 o4_1:List AV) (o5_1 o6_1:List AV):f98_l0 run n (k0+1) x7_1 o2_1 o4_1 o5_1 o6_1 =
  bif ltI x7_1 64 then
    (run 162 [.int ((AV.fld (.agg o2_1) 4).toInt),.int 6]).bind fun r2 =>
    nilV r2.outs (consV r2.vals fun v2 vs2 =>
    nilV vs2 ((run 162 [.int ((AV.fld (.agg o2_1) 4).toInt),.int 11]).bind fun r3 =>
    nilV r3.outs (consV r3.vals fun v3 vs3 =>
    nilV vs3 ((run 162 [.int ((AV.fld (.agg o2_1) 4).toInt),.int 25]).bind fun r4 =>
    nilV r4.outs (consV r4.vals fun v4 vs4 =>
    nilV vs4 ((run 163 [.int x7_1]).bind fun r5 =>
    nilV r5.outs (consV r5.vals fun v5 vs5 =>
    nilV vs5 (bif inR x7_1 64 then
    (run 162 [.int ((AV.fld (.agg o2_1) 0).toInt),.int 2]).bind fun r6 =>
    nilV r6.outs (consV r6.vals fun v6 vs6 =>
    nilV vs6 ((run 162 [.int ((AV.fld (.agg o2_1) 0).toInt),.int 13]).bind fun r7 =>
    nilV r7.outs (consV r7.vals fun v7 vs7 =>
    nilV vs7 ((run 162 [.int ((AV.fld (.agg o2_1) 0).toInt),.int 22]).bind fun r8 =>
    nilV r8.outs (consV r8.vals fun v8 vs8 =>
    nilV vs8 (f98_l2 run n k0 n x7_1 (IntKind.wrap .u32 (IntKind.wrap .u32 (IntKind.wrap .u32 (IntKind.wrap .u32 ((AV.fld (.agg o2_1) 7).toInt+IntKind.wrap .u32 (BitVec.toNat (BitVec.ofInt 32 (IntKind.wrap .u32 (BitVec.toNat (BitVec.ofInt 32 v2.toInt ^^^ BitVec.ofInt 32 v3.toInt))) ^^^ BitVec.ofInt 32 v4.toInt)))+IntKind.wrap .u32 (BitVec.toNat (BitVec.ofInt 32 (IntKind.wrap .u32 (BitVec.toNat (BitVec.ofInt 32 ((AV.fld (.agg o2_1) 4).toInt) &&& BitVec.ofInt 32 ((AV.fld (.agg o2_1) 5).toInt)))) ^^^ BitVec.ofInt 32 (IntKind.wrap .u32 (BitVec.toNat (BitVec.ofInt 32 (IntKind.wrap .u32 (4294967295-(AV.fld (.agg o2_1) 4).toInt)) &&& BitVec.ofInt 32 ((AV.fld (.agg o2_1) 6).toInt)))))))+v5.toInt)+(AV.fld (.agg o5_1) (Int.toNat x7_1)).toInt)) (IntKind.wrap .u32 (IntKind.wrap .u32 (BitVec.toNat (BitVec.ofInt 32 (IntKind.wrap .u32 (BitVec.toNat (BitVec.ofInt 32 v6.toInt ^^^ BitVec.ofInt 32 v7.toInt))) ^^^ BitVec.ofInt 32 v8.toInt))+IntKind.wrap .u32 (BitVec.toNat (BitVec.ofInt 32 (IntKind.wrap .u32 (BitVec.toNat (BitVec.ofInt 32 (IntKind.wrap .u32 (BitVec.toNat (BitVec.ofInt 32 ((AV.fld (.agg o2_1) 0).toInt) &&& BitVec.ofInt 32 ((AV.fld (.agg o2_1) 1).toInt)))) ^^^ BitVec.ofInt 32 (IntKind.wrap .u32 (BitVec.toNat (BitVec.ofInt 32 ((AV.fld (.agg o2_1) 0).toInt) &&& BitVec.ofInt 32 ((AV.fld (.agg o2_1) 2).toInt))))))) ^^^ BitVec.ofInt 32 (IntKind.wrap .u32 (BitVec.toNat (BitVec.ofInt 32 ((AV.fld (.agg o2_1) 1).toInt) &&& BitVec.ofInt 32 ((AV.fld (.agg o2_1) 2).toInt)))))))) 7 o2_1 o4_1 o5_1 o6_1))))))
  else none))))))))
  else
    f98_l4 run n k0 n 0 o2_1 o4_1 o6_1:=by kernel_rfl
noncomputable def f98 (run:Run) (n:Nat) (a0_1:List AV) (a1_1:List UInt8):Option Res:=evalK G run n f98_info.keep 0 f98_info.body (retE G f98_info) (f98_info.start [.agg a0_1,.str a1_1])
theorem f98_eq (run:Run) (n:Nat) (a0_1:List AV) (a1_1:List UInt8):f98 run n a0_1 a1_1 =
  (run 161 [.str a1_1]).bind fun r1 =>
    nilV r1.outs (consV r1.vals fun v1 vs1 =>
    nilV vs1 (f98_l0 run n n 0 a0_1 (List.replicate 8 (.int 0)) v1.toAgg a0_1)):=by kernel_rfl
theorem f98_run (ext:Run) (n:Nat) (a0_1:List AV) (a1_1:List UInt8):runE G ext (n+1) 98 [.agg a0_1,.str a1_1]=f98 (runE G ext n) n a0_1 a1_1:=runE_succ f98_at f98_in
noncomputable def f46_l4 (run:Run) (n _k0:Nat) (k2 k4:Nat) (x6_2:Int) (x7_1:List UInt8) (x8_1:Int) (o2_4:List UInt8) (o3_4:List AV) (o5_2:List UInt8):Option Res :=
  iterK (evalK G run n f46_keep 4 (sub [1,1,1,1,1,0,1,0,0,1,0,0,1,1,0,0] f46_body)) f46_t4 f46_o4 (blockK 4 (blockK 3 (seqK (nextK G run n f46_keep 2 (sub [1,1,1,1,1,0,1,0,0,1,1] f46_body) (seqK (fun t=>iterK (evalK G run n f46_keep 2 (sub [1,1,1,1,1,0,1,0,0] f46_body)) f46_t2 f46_o2 (blockK 2 (seqK (nextK G run n f46_keep 0 (sub [1,1,1,1,1,1] f46_body) (retE G f46_info)) (retE G f46_info))) k2 (t.clear f46_t2 f46_o2)) (blockK 2 (seqK (nextK G run n f46_keep 0 (sub [1,1,1,1,1,1] f46_body) (retE G f46_info)) (retE G f46_info))))) (seqK (fun t=>iterK (evalK G run n f46_keep 2 (sub [1,1,1,1,1,0,1,0,0] f46_body)) f46_t2 f46_o2 (blockK 2 (seqK (nextK G run n f46_keep 0 (sub [1,1,1,1,1,1] f46_body) (retE G f46_info)) (retE G f46_info))) k2 (t.clear f46_t2 f46_o2)) (blockK 2 (seqK (nextK G run n f46_keep 0 (sub [1,1,1,1,1,1] f46_body) (retE G f46_info)) (retE G f46_info))))))) k4
    ⟨[qa,qa,.ptr ⟨(.blob 32),2,1,[]⟩,.ptr ⟨(.arr 8 (.int .u32)),3,1,[]⟩,qa,.ptr ⟨(.blob 32),5,1,[]⟩,.val (.int .i64) none (.int x6_2),.val .str none (.str x7_1),.val (.int .i64) none (.int x8_1),qa,qa,qa,qa,qa,qa,qa,qa,qa,qa,qa,qa,qa,qa,qa,qa,qa,qa,qa,qa,qa,qa,qa,qa,qa,qa,qa,qa,qa,qa,qa,qa,qa,qa,qa,qa,qa,qa,qa,qa,qa,.any],[qz,qz,⟨1,some ⟨(.blob 32),.blob o2_4⟩⟩,⟨1,some ⟨(.arr 8 (.int .u32)),.agg o3_4⟩⟩,qz,⟨1,some ⟨(.blob 32),.blob o5_2⟩⟩,qz,qz,qz,qz,qz,qz,qz,qz,qz,qz,qz,qz,qz,qz,qz,qz,qz,qz,qz,qz,qz,qz,qz,qz,qz,qz,qz,qz,qz,qz,qz,qz,qz,qz,qz,qz,qz,qz,qz,qz,qz,qz,qz,qz,qz],List.replicate 51 0⟩
noncomputable def f46_l2 (run:Run) (n _k0 k2:Nat) (x6_1:Int) (o2_3:List UInt8) (o3_3:List AV) (o5_1:List UInt8):Option Res :=
  iterK (evalK G run n f46_keep 2 (sub [1,1,1,1,1,0,1,0,0] f46_body)) f46_t2 f46_o2 (blockK 2 (seqK (nextK G run n f46_keep 0 (sub [1,1,1,1,1,1] f46_body) (retE G f46_info)) (retE G f46_info))) k2
    ⟨[qa,qa,.ptr ⟨(.blob 32),2,1,[]⟩,.ptr ⟨(.arr 8 (.int .u32)),3,1,[]⟩,qa,.ptr ⟨(.blob 32),5,1,[]⟩,.val (.int .i64) none (.int x6_1),qa,qa,qa,qa,qa,qa,qa,qa,qa,qa,qa,qa,qa,qa,qa,qa,qa,qa,qa,qa,qa,qa,qa,qa,qa,qa,qa,qa,qa,qa,qa,qa,qa,qa,qa,qa,qa,qa,qa,qa,qa,qa,qa,.any],[qz,qz,⟨1,some ⟨(.blob 32),.blob o2_3⟩⟩,⟨1,some ⟨(.arr 8 (.int .u32)),.agg o3_3⟩⟩,qz,⟨1,some ⟨(.blob 32),.blob o5_1⟩⟩,qz,qz,qz,qz,qz,qz,qz,qz,qz,qz,qz,qz,qz,qz,qz,qz,qz,qz,qz,qz,qz,qz,qz,qz,qz,qz,qz,qz,qz,qz,qz,qz,qz,qz,qz,qz,qz,qz,qz,qz,qz,qz,qz,qz,qz],List.replicate 51 0⟩
noncomputable def f46_l0 (run:Run) (n k0:Nat) (x0_1:List UInt8) (x4_1:Int) (o2_1:List UInt8) (o3_1:List AV):Option Res :=
  iterK (evalK G run n f46_keep 0 (sub [1,1,1,0,1,0,0] f46_body)) f46_t0 f46_o0 (blockK 0 (seqK (nextK G run n f46_keep 0 (sub [1,1,1,1] f46_body) (retE G f46_info)) (retE G f46_info))) k0
    ⟨[.val .str none (.str x0_1),qa,.ptr ⟨(.blob 32),2,1,[]⟩,.ptr ⟨(.arr 8 (.int .u32)),3,1,[]⟩,.val (.int .i64) none (.int x4_1),qa,qa,qa,qa,qa,qa,qa,qa,qa,qa,qa,qa,qa,qa,qa,qa,qa,qa,qa,qa,qa,qa,qa,qa,qa,qa,qa,qa,qa,qa,qa,qa,qa,qa,qa,qa,qa,qa,qa,qa,qa,qa,qa,qa,qa,.any],[qz,qz,⟨1,some ⟨(.blob 32),.blob o2_1⟩⟩,⟨1,some ⟨(.arr 8 (.int .u32)),.agg o3_1⟩⟩,qz,qz,qz,qz,qz,qz,qz,qz,qz,qz,qz,qz,qz,qz,qz,qz,qz,qz,qz,qz,qz,qz,qz,qz,qz,qz,qz,qz,qz,qz,qz,qz,qz,qz,qz,qz,qz,qz,qz,qz,qz,qz,qz,qz,qz,qz,qz],List.replicate 51 0⟩
theorem f46_l4_eq (run:Run) (n k0:Nat) (k2 k4:Nat) (x6_2:Int) (x7_1:List UInt8) (x8_1:Int) (o2_4:List UInt8) (o3_4:List AV) (o5_2:List UInt8):f46_l4 run n k0 k2 (k4+1) x6_2 x7_1 x8_1 o2_4 o3_4 o5_2 =
  bif ltI x8_1 4 then
    bif inR x8_1 x7_1.length then
    bif inR (IntKind.wrap .i64 (IntKind.wrap .i64 (4*x6_2)+x8_1)) 32 then
    f46_l4 run n k0 k2 k4 x6_2 x7_1 (IntKind.wrap .i64 (x8_1+1)) o2_4 o3_4 (o5_2.set (Int.toNat (IntKind.wrap .i64 (IntKind.wrap .i64 (4*x6_2)+x8_1))) (UInt8.ofNat (Int.toNat ((x7_1.getD (Int.toNat x8_1) 0).toNat:Int))))
  else none
  else none
  else
    f46_l2 run n k0 k2 (IntKind.wrap .i64 (x6_2+1)) o2_4 o3_4 o5_2:=by kernel_rfl
theorem f46_l2_eq (run:Run) (n k0 k2:Nat) (x6_1:Int) (o2_3:List UInt8) (o3_3:List AV) (o5_1:List UInt8):f46_l2 run n k0 (k2+1) x6_1 o2_3 o3_3 o5_1 =
  bif ltI x6_1 8 then
    bif inR x6_1 8 then
    (run 99 [.int (IntKind.wrap .u64 ((AV.fld (.agg o3_3) (Int.toNat x6_1)).toInt)),.int 4]).bind fun r4 =>
    nilV r4.outs (consV r4.vals fun v4 vs4 =>
    nilV vs4 (f46_l4 run n k0 k2 n x6_1 v4.toStr 0 o2_3 o3_3 o5_1))
  else none
  else
    some ⟨[.blob o5_1],[],f46_fresh⟩:=by kernel_rfl
theorem f46_l0_eq (run:Run) (n k0:Nat) (x0_1:List UInt8) (x4_1:Int) (o2_1:List UInt8) (o3_1:List AV):f46_l0 run n (k0+1) x0_1 x4_1 o2_1 o3_1 =
  bif ltI x4_1 (x0_1.length:Int) then
    bif boundsOk x4_1 (IntKind.wrap .i64 (x4_1+64)) (x0_1.length:Int) (x0_1.length:Int) then
    (run 98 [.agg o3_1,.str (List.drop (Int.toNat x4_1) (List.take (Int.toNat (IntKind.wrap .i64 (x4_1+64))) x0_1))]).bind fun r3 =>
    nilV r3.outs (consV r3.vals fun v3 vs3 =>
    nilV vs3 (f46_l0 run n k0 x0_1 (IntKind.wrap .i64 (x4_1+64)) o2_1 v3.toAgg))
  else none
  else
    f46_l2 run n k0 n 0 o2_1 o3_1 (List.replicate 32 0):=by kernel_rfl
noncomputable def f46 (run:Run) (n:Nat) (a0_1:List UInt8):Option Res:=evalK G run n f46_info.keep 0 f46_info.body (retE G f46_info) (f46_info.start [.str a0_1])
theorem f46_eq (run:Run) (n:Nat) (a0_1:List UInt8):f46 run n a0_1 =
  (run 96 []).bind fun r1 =>
    nilV r1.outs (consV r1.vals fun v1 vs1 =>
    nilV vs1 ((run 97 [.int (IntKind.wrap .u64 (a0_1.length:Int))]).bind fun r2 =>
    nilV r2.outs (consV r2.vals fun v2 vs2 =>
    nilV vs2 (bif Nat.ble (a0_1.length+v2.toStr.length) maxLen then
    f46_l0 run n n (a0_1++v2.toStr) 0 (List.replicate 32 0) v1.toAgg
  else none)))):=by kernel_rfl
theorem f46_run (ext:Run) (n:Nat) (a0_1:List UInt8):runE G ext (n+1) 46 [.str a0_1]=f46 (runE G ext n) n a0_1:=runE_succ f46_at f46_in
noncomputable def f50 (run:Run) (n:Nat) (a0_1:List UInt8):Option Res:=evalK G run n f50_info.keep 0 f50_info.body (retE G f50_info) (f50_info.start [.str a0_1])
theorem f50_eq (run:Run) (n:Nat) (a0_1:List UInt8):f50 run n a0_1 =
  (run 103 [.str a0_1]).bind fun r1 =>
    nilV r1.outs (consV r1.vals fun v1 vs1 =>
    nilV vs1 ((run 46 [.str v1.toStr]).bind fun r2 =>
    nilV r2.outs (consV r2.vals fun v2 vs2 =>
    nilV vs2 (some ⟨[.blob v2.toBlob],[],f50_fresh⟩)))):=by kernel_rfl
theorem f50_run (ext:Run) (n:Nat) (a0_1:List UInt8):runE G ext (n+1) 50 [.str a0_1]=f50 (runE G ext n) n a0_1:=runE_succ f50_at f50_in
noncomputable def f21_l0 (run:Run) (n k0:Nat) (x0_1 x3_1:List AV) (x4_1:Int):Option Res :=
  iterK (evalK G run n f21_keep 0 (sub [1,1,0,1,0,0] f21_body)) f21_t0 f21_o0 (blockK 0 (seqK (nextK G run n f21_keep 0 (sub [1,1,1] f21_body) (retE G f21_info)) (retE G f21_info))) k0
    ⟨[.val (.slice .str) none (.slice x0_1),qa,qa,.val (.slice (.blob 32)) (some (3,0)) (.slice x3_1),.val (.int .i64) none (.int x4_1),qa,qa,qa,qa,qa,qa,qa,qa,qa,qa,qa,qa,qa,qa,.any],[qz,qz,qz,qz,qz,qz,qz,qz,qz,qz,qz,qz,qz,qz,qz,qz,qz,qz,qz,qz],List.replicate 20 0⟩
theorem f21_l0_eq (run:Run) (n k0:Nat) (x0_1 x3_1:List AV) (x4_1:Int):f21_l0 run n (k0+1) x0_1 x3_1 x4_1 =
  bif ltI x4_1 (x0_1.length:Int) then
    bif inR x4_1 x0_1.length then
    (run 50 [.str ((nth x0_1 (Int.toNat x4_1)).toStr)]).bind fun r1 =>
    nilV r1.outs (consV r1.vals fun v1 vs1 =>
    nilV vs1 (bif Nat.ble ((x3_1.length+1)*32) 140737488355328 then
    f21_l0 run n k0 x0_1 (x3_1++[.blob v1.toBlob]) (IntKind.wrap .i64 (x4_1+1))
  else none))
  else none
  else
    some ⟨[.slice x3_1],[],f21_fresh⟩:=by kernel_rfl
noncomputable def f21 (run:Run) (n:Nat) (a0_1:List AV):Option Res:=evalK G run n f21_info.keep 0 f21_info.body (retE G f21_info) (f21_info.start [.slice a0_1])
theorem f21_eq (run:Run) (n:Nat) (a0_1:List AV):f21 run n a0_1 =
  f21_l0 run n n a0_1 [] 0:=by kernel_rfl
theorem f21_run (ext:Run) (n:Nat) (a0_1:List AV):runE G ext (n+1) 21 [.slice a0_1]=f21 (runE G ext n) n a0_1:=runE_succ f21_at f21_in
noncomputable def f48_l0 (run:Run) (n k0:Nat) (x0_1 x3_1 x4_1:Int):Option Res :=
  iterK (evalK G run n f48_keep 0 (sub [1,1,0,1,0,0] f48_body)) f48_t0 f48_o0 (blockK 0 (seqK (nextK G run n f48_keep 0 (sub [1,1,1] f48_body) (retE G f48_info)) (retE G f48_info))) k0
    ⟨[.val (.int .i64) none (.int x0_1),qa,qa,.val (.int .i64) none (.int x3_1),.val (.int .i64) none (.int x4_1),qa,qa,qa,qa,qa,qa,qa,qa,qa,qa,.any],[qz,qz,qz,qz,qz,qz,qz,qz,qz,qz,qz,qz,qz,qz,qz,qz],List.replicate 16 0⟩
theorem f48_l0_eq (run:Run) (n k0:Nat) (x0_1 x3_1 x4_1:Int):f48_l0 run n (k0+1) x0_1 x3_1 x4_1 =
  bif ltI x4_1 x0_1 then
    bif ltI 0 x4_1 then
    f48_l0 run n k0 x0_1 x4_1 (IntKind.wrap .i64 (x4_1*2))
  else
    some ⟨[.int x3_1],[],f48_fresh⟩
  else
    some ⟨[.int x3_1],[],f48_fresh⟩:=by kernel_rfl
noncomputable def f48 (run:Run) (n:Nat) (a0_1:Int):Option Res:=evalK G run n f48_info.keep 0 f48_info.body (retE G f48_info) (f48_info.start [.int a0_1])
theorem f48_eq (run:Run) (n:Nat) (a0_1:Int):f48 run n a0_1 =
  f48_l0 run n n a0_1 0 1:=by kernel_rfl
theorem f48_run (ext:Run) (n:Nat) (a0_1:Int):runE G ext (n+1) 48 [.int a0_1]=f48 (runE G ext n) n a0_1:=runE_succ f48_at f48_in
noncomputable def f101_l0 (run:Run) (n k0:Nat) (x4_1:Int) (o1_1:List UInt8) (o5_1:List AV):Option Res :=
  iterK (evalK G run n f101_keep 0 (sub [1,1,0,1,0,0] f101_body)) f101_t0 f101_o0 (blockK 0 (seqK (nextK G run n f101_keep 0 (sub [1,1,1] f101_body) (retE G f101_info)) (retE G f101_info))) k0
    ⟨[qa,.ptr ⟨(.blob 32),1,1,[]⟩,qa,.ref ⟨(.arr 32 (.int .u8)),5,1,[]⟩ 0 32,.val (.int .i64) none (.int x4_1),qa,qa,qa,qa,qa,qa,qa,qa,qa,qa,qa,qa,.any],[qz,⟨1,some ⟨(.blob 32),.blob o1_1⟩⟩,qz,qz,qz,⟨1,some ⟨(.arr 32 (.int .u8)),.agg o5_1⟩⟩,qz,qz,qz,qz,qz,qz,qz,qz,qz,qz,qz,qz],List.replicate 18 0⟩
theorem f101_l0_eq (run:Run) (n k0:Nat) (x4_1:Int) (o1_1:List UInt8) (o5_1:List AV):f101_l0 run n (k0+1) x4_1 o1_1 o5_1 =
  bif ltI x4_1 32 then
    bif inR x4_1 32 then
    bif inR x4_1 32 then
    f101_l0 run n k0 (IntKind.wrap .i64 (x4_1+1)) o1_1 (o5_1.set (0+(Int.toNat x4_1)) (.int (((o1_1).getD (Int.toNat x4_1) 0).toNat:Int)))
  else none
  else none
  else
    some ⟨[.str (bytesOf (List.drop 0 (List.take 32 o5_1)))],[],f101_fresh⟩:=by kernel_rfl
noncomputable def f101 (run:Run) (n:Nat) (a0_1:List UInt8):Option Res:=evalK G run n f101_info.keep 0 f101_info.body (retE G f101_info) (f101_info.start [.blob a0_1])
theorem f101_eq (run:Run) (n:Nat) (a0_1:List UInt8):f101 run n a0_1 =
  f101_l0 run n n 0 a0_1 (List.replicate 32 (.int 0)):=by kernel_rfl
theorem f101_run (ext:Run) (n:Nat) (a0_1:List UInt8):runE G ext (n+1) 101 [.blob a0_1]=f101 (runE G ext n) n a0_1:=runE_succ f101_at f101_in
noncomputable def f102 (run:Run) (n:Nat) (a0_1 a1_1:List UInt8):Option Res:=evalK G run n f102_info.keep 0 f102_info.body (retE G f102_info) (f102_info.start [.blob a0_1,.blob a1_1])
theorem f102_eq (run:Run) (n:Nat) (a0_1 a1_1:List UInt8):f102 run n a0_1 a1_1 =
  (run 100 [.int 1]).bind fun r1 =>
    nilV r1.outs (consV r1.vals fun v1 vs1 =>
    nilV vs1 ((run 101 [.blob a0_1]).bind fun r2 =>
    nilV r2.outs (consV r2.vals fun v2 vs2 =>
    nilV vs2 (bif Nat.ble (v1.toStr.length+v2.toStr.length) maxLen then
    (run 101 [.blob a1_1]).bind fun r3 =>
    nilV r3.outs (consV r3.vals fun v3 vs3 =>
    nilV vs3 (bif Nat.ble ((v1.toStr++v2.toStr).length+v3.toStr.length) maxLen then
    some ⟨[.str ((v1.toStr++v2.toStr)++v3.toStr)],[],f102_fresh⟩
  else none))
  else none)))):=by kernel_rfl
theorem f102_run (ext:Run) (n:Nat) (a0_1 a1_1:List UInt8):runE G ext (n+1) 102 [.blob a0_1,.blob a1_1]=f102 (runE G ext n) n a0_1 a1_1:=runE_succ f102_at f102_in
noncomputable def f49 (run:Run) (n:Nat) (a0_1 a1_1:List UInt8):Option Res:=evalK G run n f49_info.keep 0 f49_info.body (retE G f49_info) (f49_info.start [.blob a0_1,.blob a1_1])
theorem f49_eq (run:Run) (n:Nat) (a0_1 a1_1:List UInt8):f49 run n a0_1 a1_1 =
  (run 102 [.blob a0_1,.blob a1_1]).bind fun r1 =>
    nilV r1.outs (consV r1.vals fun v1 vs1 =>
    nilV vs1 ((run 46 [.str v1.toStr]).bind fun r2 =>
    nilV r2.outs (consV r2.vals fun v2 vs2 =>
    nilV vs2 (some ⟨[.blob v2.toBlob],[],f49_fresh⟩)))):=by kernel_rfl
theorem f49_run (ext:Run) (n:Nat) (a0_1 a1_1:List UInt8):runE G ext (n+1) 49 [.blob a0_1,.blob a1_1]=f49 (runE G ext n) n a0_1 a1_1:=runE_succ f49_at f49_in
noncomputable def f20 (run:Run) (n:Nat) (a0_1:List AV):Option Res:=evalK G run n f20_info.keep 0 f20_info.body (retE G f20_info) (f20_info.start [.slice a0_1])
theorem f20_eq (run:Run) (n:Nat) (a0_1:List AV):f20 run n a0_1 =
  bif eqI (a0_1.length:Int) 0 then
    some ⟨[.blob [0,0,0,0,0,0,0,0,0,0,0,0,0,0,0,0,0,0,0,0,0,0,0,0,0,0,0,0,0,0,0,0]],[],f20_fresh⟩
  else
    bif eqI (a0_1.length:Int) 1 then
    bif inR 0 a0_1.length then
    some ⟨[.blob ((nth a0_1 0).toBlob)],[],f20_fresh⟩
  else none
  else
    (run 48 [.int (a0_1.length:Int)]).bind fun r1 =>
    nilV r1.outs (consV r1.vals fun v1 vs1 =>
    nilV vs1 (bif boundsOk 0 v1.toInt (a0_1.length:Int) (a0_1.length:Int)&&true then
    (run 20 [.slice (List.drop 0 (List.take (Int.toNat v1.toInt) a0_1))]).bind fun r2 =>
    nilV r2.outs (consV r2.vals fun v2 vs2 =>
    nilV vs2 (bif boundsOk v1.toInt (a0_1.length:Int) (a0_1.length:Int) (a0_1.length:Int)&&true then
    (run 20 [.slice (List.drop (Int.toNat v1.toInt) (List.take (Int.toNat (a0_1.length:Int)) a0_1))]).bind fun r3 =>
    nilV r3.outs (consV r3.vals fun v3 vs3 =>
    nilV vs3 ((run 49 [.blob v2.toBlob,.blob v3.toBlob]).bind fun r4 =>
    nilV r4.outs (consV r4.vals fun v4 vs4 =>
    nilV vs4 (some ⟨[.blob v4.toBlob],[],f20_fresh⟩))))
  else none))
  else none)):=by kernel_rfl
theorem f20_run (ext:Run) (n:Nat) (a0_1:List AV):runE G ext (n+1) 20 [.slice a0_1]=f20 (runE G ext n) n a0_1:=runE_succ f20_at f20_in
noncomputable def f47 (run:Run) (n:Nat) (a0_1:Int) (a1_1:List UInt8):Option Res:=evalK G run n f47_info.keep 0 f47_info.body (retE G f47_info) (f47_info.start [.int a0_1,.blob a1_1])
theorem f47_eq (run:Run) (n:Nat) (a0_1:Int) (a1_1:List UInt8):f47 run n a0_1 a1_1 =
  (run 100 [.int 2]).bind fun r1 =>
    nilV r1.outs (consV r1.vals fun v1 vs1 =>
    nilV vs1 ((run 99 [.int a0_1,.int 8]).bind fun r2 =>
    nilV r2.outs (consV r2.vals fun v2 vs2 =>
    nilV vs2 (bif Nat.ble (v1.toStr.length+v2.toStr.length) maxLen then
    (run 101 [.blob a1_1]).bind fun r3 =>
    nilV r3.outs (consV r3.vals fun v3 vs3 =>
    nilV vs3 (bif Nat.ble ((v1.toStr++v2.toStr).length+v3.toStr.length) maxLen then
    some ⟨[.str ((v1.toStr++v2.toStr)++v3.toStr)],[],f47_fresh⟩
  else none))
  else none)))):=by kernel_rfl
theorem f47_run (ext:Run) (n:Nat) (a0_1:Int) (a1_1:List UInt8):runE G ext (n+1) 47 [.int a0_1,.blob a1_1]=f47 (runE G ext n) n a0_1 a1_1:=runE_succ f47_at f47_in
noncomputable def f19 (run:Run) (n:Nat) (a0_1:Int) (a1_1:List UInt8):Option Res:=evalK G run n f19_info.keep 0 f19_info.body (retE G f19_info) (f19_info.start [.int a0_1,.blob a1_1])
theorem f19_eq (run:Run) (n:Nat) (a0_1:Int) (a1_1:List UInt8):f19 run n a0_1 a1_1 =
  (run 47 [.int a0_1,.blob a1_1]).bind fun r1 =>
    nilV r1.outs (consV r1.vals fun v1 vs1 =>
    nilV vs1 ((run 46 [.str v1.toStr]).bind fun r2 =>
    nilV r2.outs (consV r2.vals fun v2 vs2 =>
    nilV vs2 (some ⟨[.blob v2.toBlob],[],f19_fresh⟩)))):=by kernel_rfl
theorem f19_run (ext:Run) (n:Nat) (a0_1:Int) (a1_1:List UInt8):runE G ext (n+1) 19 [.int a0_1,.blob a1_1]=f19 (runE G ext n) n a0_1 a1_1:=runE_succ f19_at f19_in
noncomputable def f5 (run:Run) (n:Nat) (a0_1:List AV):Option Res:=evalK G run n f5_info.keep 0 f5_info.body (retE G f5_info) (f5_info.start [.slice a0_1])
theorem f5_eq (run:Run) (n:Nat) (a0_1:List AV):f5 run n a0_1 =
  (run 21 [.slice a0_1]).bind fun r1 =>
    bif r1.fresh then
    nilV r1.outs (consV r1.vals fun v1 vs1 =>
    nilV vs1 ((run 20 [.slice v1.toSlice]).bind fun r2 =>
    nilV r2.outs (consV r2.vals fun v2 vs2 =>
    nilV vs2 ((run 19 [.int (IntKind.wrap .u64 (a0_1.length:Int)),.blob v2.toBlob]).bind fun r3 =>
    nilV r3.outs (consV r3.vals fun v3 vs3 =>
    nilV vs3 (some ⟨[.blob v3.toBlob],[],f5_fresh⟩))))))
  else none:=by kernel_rfl
theorem f5_run (ext:Run) (n:Nat) (a0_1:List AV):runE G ext (n+1) 5 [.slice a0_1]=f5 (runE G ext n) n a0_1:=runE_succ f5_at f5_in
noncomputable def f22 (run:Run) (n:Nat) (a0_1:List AV) (a1_1:Int):Option Res:=evalK G run n f22_info.keep 0 f22_info.body (retE G f22_info) (f22_info.start [.slice a0_1,.int a1_1])
theorem f22_eq (run:Run) (n:Nat) (a0_1:List AV) (a1_1:Int):f22 run n a0_1 a1_1 =
  bif eqI (a0_1.length:Int) 1 then
    some ⟨[.slice []],[],f22_fresh⟩
  else
    (run 48 [.int (a0_1.length:Int)]).bind fun r1 =>
    nilV r1.outs (consV r1.vals fun v1 vs1 =>
    nilV vs1 (bif ltI a1_1 v1.toInt then
    bif boundsOk 0 v1.toInt (a0_1.length:Int) (a0_1.length:Int)&&true then
    (run 22 [.slice (List.drop 0 (List.take (Int.toNat v1.toInt) a0_1)),.int a1_1]).bind fun r2 =>
    bif r2.fresh then
    nilV r2.outs (consV r2.vals fun v2 vs2 =>
    nilV vs2 (bif boundsOk v1.toInt (a0_1.length:Int) (a0_1.length:Int) (a0_1.length:Int)&&true then
    (run 20 [.slice (List.drop (Int.toNat v1.toInt) (List.take (Int.toNat (a0_1.length:Int)) a0_1))]).bind fun r3 =>
    nilV r3.outs (consV r3.vals fun v3 vs3 =>
    nilV vs3 (bif Nat.ble ((v2.toSlice.length+1)*32) 140737488355328 then
    some ⟨[.slice (v2.toSlice++[.blob v3.toBlob])],[],f22_fresh⟩
  else none))
  else none))
  else none
  else none
  else
    bif boundsOk v1.toInt (a0_1.length:Int) (a0_1.length:Int) (a0_1.length:Int)&&true then
    (run 22 [.slice (List.drop (Int.toNat v1.toInt) (List.take (Int.toNat (a0_1.length:Int)) a0_1)),.int (IntKind.wrap .i64 (a1_1-v1.toInt))]).bind fun r4 =>
    bif r4.fresh then
    nilV r4.outs (consV r4.vals fun v4 vs4 =>
    nilV vs4 (bif boundsOk 0 v1.toInt (a0_1.length:Int) (a0_1.length:Int)&&true then
    (run 20 [.slice (List.drop 0 (List.take (Int.toNat v1.toInt) a0_1))]).bind fun r5 =>
    nilV r5.outs (consV r5.vals fun v5 vs5 =>
    nilV vs5 (bif Nat.ble ((v4.toSlice.length+1)*32) 140737488355328 then
    some ⟨[.slice (v4.toSlice++[.blob v5.toBlob])],[],f22_fresh⟩
  else none))
  else none))
  else none
  else none)):=by kernel_rfl
theorem f22_run (ext:Run) (n:Nat) (a0_1:List AV) (a1_1:Int):runE G ext (n+1) 22 [.slice a0_1,.int a1_1]=f22 (runE G ext n) n a0_1 a1_1:=runE_succ f22_at f22_in
noncomputable def f6 (run:Run) (n:Nat) (a0_1:List AV) (a1_1:Int):Option Res:=evalK G run n f6_info.keep 0 f6_info.body (retE G f6_info) (f6_info.start [.slice a0_1,.int a1_1])
theorem f6_eq (run:Run) (n:Nat) (a0_1:List AV) (a1_1:Int):f6 run n a0_1 a1_1 =
  bif ltI 1048576 (a0_1.length:Int) then
    some ⟨[.agg [.int 0,.int 0,.slice []],.int 4],[],f6_fresh⟩
  else
    bif ltI a1_1 0 then
    some ⟨[.agg [.int 0,.int 0,.slice []],.int 3],[],f6_fresh⟩
  else
    bif leI (a0_1.length:Int) a1_1 then
    some ⟨[.agg [.int 0,.int 0,.slice []],.int 3],[],f6_fresh⟩
  else
    (run 21 [.slice a0_1]).bind fun r1 =>
    bif r1.fresh then
    nilV r1.outs (consV r1.vals fun v1 vs1 =>
    nilV vs1 ((run 22 [.slice v1.toSlice,.int a1_1]).bind fun r2 =>
    bif r2.fresh then
    nilV r2.outs (consV r2.vals fun v2 vs2 =>
    nilV vs2 (some ⟨[.agg [.int a1_1,.int (a0_1.length:Int),.slice v2.toSlice],.int 0],[],f6_fresh⟩))
  else none))
  else none:=by kernel_rfl
theorem f6_run (ext:Run) (n:Nat) (a0_1:List AV) (a1_1:Int):runE G ext (n+1) 6 [.slice a0_1,.int a1_1]=f6 (runE G ext n) n a0_1 a1_1:=runE_succ f6_at f6_in
noncomputable def f109 (run:Run) (n:Nat) (a0_1 a1_1:Int):Option Res:=evalK G run n f109_info.keep 0 f109_info.body (retE G f109_info) (f109_info.start [.int a0_1,.int a1_1])
theorem f109_eq (run:Run) (n:Nat) (a0_1 a1_1:Int):f109 run n a0_1 a1_1 =
  bif ltI a1_1 0 then
    some ⟨[.int (-1)],[],f109_fresh⟩
  else
    bif leI a0_1 a1_1 then
    some ⟨[.int (-1)],[],f109_fresh⟩
  else
    (run 55 [.int a0_1,.int a1_1]).bind fun r1 =>
    bif r1.fresh then
    nilV r1.outs (consV r1.vals fun v1 vs1 =>
    nilV vs1 (some ⟨[.int (v1.toSlice.length:Int)],[],f109_fresh⟩))
  else none:=by kernel_rfl
theorem f109_run (ext:Run) (n:Nat) (a0_1 a1_1:Int):runE G ext (n+1) 109 [.int a0_1,.int a1_1]=f109 (runE G ext n) n a0_1 a1_1:=runE_succ f109_at f109_in
noncomputable def f57 (run:Run) (n:Nat) (a0_1 a0_2:Int) (a0_3:List AV):Option Res:=evalK G run n f57_info.keep 0 f57_info.body (retE G f57_info) (f57_info.start [.agg [.int a0_1,.int a0_2,.slice a0_3]])
theorem f57_eq (run:Run) (n:Nat) (a0_1 a0_2:Int) (a0_3:List AV):f57 run n a0_1 a0_2 a0_3 =
  bif ltI a0_2 1 then
    some ⟨[.int 3],[],f57_fresh⟩
  else
    bif ltI 1048576 a0_2 then
    some ⟨[.int 3],[],f57_fresh⟩
  else
    bif ltI a0_1 0 then
    some ⟨[.int 3],[],f57_fresh⟩
  else
    bif leI a0_2 a0_1 then
    some ⟨[.int 3],[],f57_fresh⟩
  else
    (run 109 [.int a0_2,.int a0_1]).bind fun r1 =>
    nilV r1.outs (consV r1.vals fun v1 vs1 =>
    nilV vs1 (bif !(eqI (a0_3.length:Int) v1.toInt) then
    some ⟨[.int 2],[],f57_fresh⟩
  else
    some ⟨[.int 0],[],f57_fresh⟩)):=by kernel_rfl
theorem f57_run (ext:Run) (n:Nat) (a0_1 a0_2:Int) (a0_3:List AV):runE G ext (n+1) 57 [.agg [.int a0_1,.int a0_2,.slice a0_3]]=f57 (runE G ext n) n a0_1 a0_2 a0_3:=runE_succ f57_at f57_in
noncomputable def f106 (run:Run) (n:Nat) (a0_1:Int) (a1_1:List AV):Option Res:=evalK G run n f106_info.keep 0 f106_info.body (retE G f106_info) (f106_info.start [.int a0_1,.slice a1_1])
theorem f106_eq (run:Run) (n:Nat) (a0_1:Int) (a1_1:List AV):f106 run n a0_1 a1_1 =
  (run 164 [.slice a1_1,.str []]).bind fun r1 =>
    nilV r1.outs (consV r1.vals fun v1 vs1 =>
    nilV vs1 (bif Nat.ble ((bytesOf [.int a0_1]).length+v1.toStr.length) maxLen then
    some ⟨[.str ((bytesOf [.int a0_1])++v1.toStr)],[],f106_fresh⟩
  else none)):=by kernel_rfl
theorem f106_run (ext:Run) (n:Nat) (a0_1:Int) (a1_1:List AV):runE G ext (n+1) 106 [.int a0_1,.slice a1_1]=f106 (runE G ext n) n a0_1 a1_1:=runE_succ f106_at f106_in
noncomputable def f52 (run:Run) (n:Nat) (a0_1:List UInt8):Option Res:=evalK G run n f52_info.keep 0 f52_info.body (retE G f52_info) (f52_info.start [.str a0_1])
theorem f52_eq (run:Run) (n:Nat) (a0_1:List UInt8):f52 run n a0_1 =
  (run 106 [.int 0,.slice [.str a0_1]]).bind fun r1 =>
    nilV r1.outs (consV r1.vals fun v1 vs1 =>
    nilV vs1 (some ⟨[.str v1.toStr],[],f52_fresh⟩)):=by kernel_rfl
theorem f52_run (ext:Run) (n:Nat) (a0_1:List UInt8):runE G ext (n+1) 52 [.str a0_1]=f52 (runE G ext n) n a0_1:=runE_succ f52_at f52_in
noncomputable def f110 (run:Run) (n:Nat):Option Res:=evalK G run n f110_info.keep 0 f110_info.body (retE G f110_info) (f110_info.start [])
theorem f110_eq (run:Run) (n:Nat):f110 run n  =
  some ⟨[.agg [.agg (List.replicate 8 (.int 0)),.str [],.int 0,.bool false]],[],f110_fresh⟩:=by kernel_rfl
theorem f110_run (ext:Run) (n:Nat):runE G ext (n+1) 110 []=f110 (runE G ext n) n :=runE_succ f110_at f110_in
noncomputable def f166 (run:Run) (n:Nat):Option Res:=evalK G run n f166_info.keep 0 f166_info.body (retE G f166_info) (f166_info.start [])
theorem f166_eq (run:Run) (n:Nat):f166 run n  =
  some ⟨[.agg [.int 1779033703,.int 3144134277,.int 1013904242,.int 2773480762,.int 1359893119,.int 2600822924,.int 528734635,.int 1541459225]],[],f166_fresh⟩:=by kernel_rfl
theorem f166_run (ext:Run) (n:Nat):runE G ext (n+1) 166 []=f166 (runE G ext n) n :=runE_succ f166_at f166_in
noncomputable def f225_l0 (run:Run) (n k0:Nat) (x0_1:List UInt8) (x1_1 x7_1:Int) (x9_1 x10_1:Int):Option Res :=
  iterK (evalK G run n f225_keep 0 (sub [1,1,0,1,0,0] f225_body)) f225_t0 f225_o0 (blockK 0 (seqK (nextK G run n f225_keep 0 (sub [1,1,1] f225_body) (retE G f225_info)) (retE G f225_info))) k0
    ⟨[.val .str none (.str x0_1),.val (.int .i64) none (.int x1_1),qa,qa,qa,qa,qa,.val (.int .u64) none (.int x7_1),qa,.val (.int .i64) none (.int x9_1),.val (.int .i64) none (.int x10_1),qa,qa,qa,qa,qa,qa,qa,qa,qa,qa,qa,qa,qa,qa,qa,qa,qa,qa,qa,qa,qa,qa,qa,qa,qa,qa,qa,qa,qa,.any],[qz,qz,qz,qz,qz,qz,qz,qz,qz,qz,qz,qz,qz,qz,qz,qz,qz,qz,qz,qz,qz,qz,qz,qz,qz,qz,qz,qz,qz,qz,qz,qz,qz,qz,qz,qz,qz,qz,qz,qz,qz],List.replicate 41 0⟩
theorem f225_l0_eq (run:Run) (n k0:Nat) (x0_1:List UInt8) (x1_1 x7_1:Int) (x9_1 x10_1:Int):f225_l0 run n (k0+1) x0_1 x1_1 x7_1 x9_1 x10_1 =
  bif ltI x10_1 x9_1 then
    bif leI 0 x1_1 then
    bif ltI x1_1 (x0_1.length:Int) then
    bif ltI x10_1 (IntKind.wrap .i64 ((x0_1.length:Int)-x1_1)) then
    bif inR (IntKind.wrap .i64 (x1_1+x10_1)) x0_1.length then
    f225_l0 run n k0 x0_1 x1_1 (IntKind.wrap .u64 (BitVec.toNat (BitVec.ofInt 64 (IntKind.wrap .u64 (x7_1*2^8)) ||| BitVec.ofInt 64 (IntKind.wrap .u64 ((x0_1.getD (Int.toNat (IntKind.wrap .i64 (x1_1+x10_1))) 0).toNat:Int))))) x9_1 (IntKind.wrap .i64 (x10_1+1))
  else none
  else
    f225_l0 run n k0 x0_1 x1_1 (IntKind.wrap .u64 (x7_1*2^8)) x9_1 (IntKind.wrap .i64 (x10_1+1))
  else
    f225_l0 run n k0 x0_1 x1_1 (IntKind.wrap .u64 (x7_1*2^8)) x9_1 (IntKind.wrap .i64 (x10_1+1))
  else
    f225_l0 run n k0 x0_1 x1_1 (IntKind.wrap .u64 (x7_1*2^8)) x9_1 (IntKind.wrap .i64 (x10_1+1))
  else
    some ⟨[.int x7_1],[],f225_fresh⟩:=by kernel_rfl
noncomputable def f225 (run:Run) (n:Nat) (a0_1:List UInt8) (a1_1 a2_1:Int):Option Res:=evalK G run n f225_info.keep 0 f225_info.body (retE G f225_info) (f225_info.start [.str a0_1,.int a1_1,.int a2_1])
theorem f225_eq (run:Run) (n:Nat) (a0_1:List UInt8) (a1_1 a2_1:Int):f225 run n a0_1 a1_1 a2_1 =
  f225_l0 run n n a0_1 a1_1 0 a2_1 0:=by kernel_rfl
theorem f225_run (ext:Run) (n:Nat) (a0_1:List UInt8) (a1_1 a2_1:Int):runE G ext (n+1) 225 [.str a0_1,.int a1_1,.int a2_1]=f225 (runE G ext n) n a0_1 a1_1 a2_1:=runE_succ f225_at f225_in
noncomputable def f252 (run:Run) (n:Nat) (a0_1:List UInt8) (a1_1:Int):Option Res:=evalK G run n f252_info.keep 0 f252_info.body (retE G f252_info) (f252_info.start [.str a0_1,.int a1_1])
theorem f252_eq (run:Run) (n:Nat) (a0_1:List UInt8) (a1_1:Int):f252 run n a0_1 a1_1 =
  (run 225 [.str a0_1,.int a1_1,.int 4]).bind fun r1 =>
    nilV r1.outs (consV r1.vals fun v1 vs1 =>
    nilV vs1 (some ⟨[.int (IntKind.wrap .u32 v1.toInt)],[],f252_fresh⟩)):=by kernel_rfl
theorem f252_run (ext:Run) (n:Nat) (a0_1:List UInt8) (a1_1:Int):runE G ext (n+1) 252 [.str a0_1,.int a1_1]=f252 (runE G ext n) n a0_1 a1_1:=runE_succ f252_at f252_in
noncomputable def f215 (run:Run) (n:Nat) (a0_1 a1_1:Int):Option Res:=evalK G run n f215_info.keep 0 f215_info.body (retE G f215_info) (f215_info.start [.int a0_1,.int a1_1])
theorem f215_eq (run:Run) (n:Nat) (a0_1 a1_1:Int):f215 run n a0_1 a1_1 =
  bif leI 0 (IntKind.wrap .u64 (BitVec.toNat (BitVec.ofInt 64 (IntKind.wrap .u64 a1_1) &&& BitVec.ofInt 64 31))) then
    bif leI 0 (IntKind.wrap .u64 (32-IntKind.wrap .u64 (BitVec.toNat (BitVec.ofInt 64 (IntKind.wrap .u64 a1_1) &&& BitVec.ofInt 64 31)))) then
    some ⟨[.int (IntKind.wrap .u32 (BitVec.toNat (BitVec.ofInt 32 (Int.fdiv a0_1 (2^(min (Int.toNat (IntKind.wrap .u64 (BitVec.toNat (BitVec.ofInt 64 (IntKind.wrap .u64 a1_1) &&& BitVec.ofInt 64 31)))) 32))) ||| BitVec.ofInt 32 (IntKind.wrap .u32 (a0_1*2^(min (Int.toNat (IntKind.wrap .u64 (32-IntKind.wrap .u64 (BitVec.toNat (BitVec.ofInt 64 (IntKind.wrap .u64 a1_1) &&& BitVec.ofInt 64 31))))) 32))))))],[],f215_fresh⟩
  else none
  else none:=by kernel_rfl
theorem f215_run (ext:Run) (n:Nat) (a0_1 a1_1:Int):runE G ext (n+1) 215 [.int a0_1,.int a1_1]=f215 (runE G ext n) n a0_1 a1_1:=runE_succ f215_at f215_in
noncomputable def f213_l0 (run:Run) (n k0:Nat) (x0_1:List UInt8) (x9_1:Int) (o2_1 o3_1:List AV):Option Res :=
  iterK (evalK G run n f213_keep 0 (sub [1,1,0,1,0,0] f213_body)) f213_t0 f213_o0 (blockK 0 (seqK (nextK G run n f213_keep 0 (sub [1,1,1] f213_body) (retE G f213_info)) (retE G f213_info))) k0
    ⟨[.val .str none (.str x0_1),qa,.ptr ⟨(.arr 64 (.int .u32)),2,1,[]⟩,.ptr ⟨(.arr 64 (.int .u32)),3,1,[]⟩,qa,qa,qa,qa,qa,.val (.int .i64) none (.int x9_1),qa,qa,qa,qa,qa,qa,qa,qa,qa,qa,qa,qa,qa,qa,qa,qa,qa,qa,qa,qa,qa,qa,qa,qa,qa,qa,qa,qa,qa,qa,qa,qa,qa,qa,qa,qa,qa,qa,qa,qa,qa,qa,qa,qa,qa,qa,qa,qa,qa,qa,.any],[qz,qz,⟨1,some ⟨(.arr 64 (.int .u32)),.agg o2_1⟩⟩,⟨1,some ⟨(.arr 64 (.int .u32)),.agg o3_1⟩⟩,qz,qz,qz,qz,qz,qz,qz,qz,qz,qz,qz,qz,qz,qz,qz,qz,qz,qz,qz,qz,qz,qz,qz,qz,qz,qz,qz,qz,qz,qz,qz,qz,qz,qz,qz,qz,qz,qz,qz,qz,qz,qz,qz,qz,qz,qz,qz,qz,qz,qz,qz,qz,qz,qz,qz,qz,qz],List.replicate 61 0⟩
theorem f213_l0_eq (run:Run) (n k0:Nat) (x0_1:List UInt8) (x9_1:Int) (o2_1 o3_1:List AV):f213_l0 run n (k0+1) x0_1 x9_1 o2_1 o3_1 =
  bif ltI x9_1 64 then
    bif ltI x9_1 16 then
    (run 252 [.str x0_1,.int (IntKind.wrap .i64 (4*x9_1))]).bind fun r1 =>
    nilV r1.outs (consV r1.vals fun v1 vs1 =>
    nilV vs1 (bif inR x9_1 64 then
    f213_l0 run n k0 x0_1 (IntKind.wrap .i64 (x9_1+1)) o2_1 (o3_1.set (Int.toNat x9_1) (.int v1.toInt))
  else none))
  else
    bif inR (IntKind.wrap .i64 (x9_1-15)) 64 then
    bif inR (IntKind.wrap .i64 (x9_1-2)) 64 then
    (run 215 [.int ((AV.fld (.agg o3_1) (Int.toNat (IntKind.wrap .i64 (x9_1-15)))).toInt),.int 7]).bind fun r2 =>
    nilV r2.outs (consV r2.vals fun v2 vs2 =>
    nilV vs2 ((run 215 [.int ((AV.fld (.agg o3_1) (Int.toNat (IntKind.wrap .i64 (x9_1-15)))).toInt),.int 18]).bind fun r3 =>
    nilV r3.outs (consV r3.vals fun v3 vs3 =>
    nilV vs3 ((run 215 [.int ((AV.fld (.agg o3_1) (Int.toNat (IntKind.wrap .i64 (x9_1-2)))).toInt),.int 17]).bind fun r4 =>
    nilV r4.outs (consV r4.vals fun v4 vs4 =>
    nilV vs4 ((run 215 [.int ((AV.fld (.agg o3_1) (Int.toNat (IntKind.wrap .i64 (x9_1-2)))).toInt),.int 19]).bind fun r5 =>
    nilV r5.outs (consV r5.vals fun v5 vs5 =>
    nilV vs5 (bif inR (IntKind.wrap .i64 (x9_1-16)) 64 then
    bif inR (IntKind.wrap .i64 (x9_1-7)) 64 then
    bif inR x9_1 64 then
    f213_l0 run n k0 x0_1 (IntKind.wrap .i64 (x9_1+1)) o2_1 (o3_1.set (Int.toNat x9_1) (.int (IntKind.wrap .u32 (IntKind.wrap .u32 (IntKind.wrap .u32 ((AV.fld (.agg o3_1) (Int.toNat (IntKind.wrap .i64 (x9_1-16)))).toInt+IntKind.wrap .u32 (BitVec.toNat (BitVec.ofInt 32 (IntKind.wrap .u32 (BitVec.toNat (BitVec.ofInt 32 v2.toInt ^^^ BitVec.ofInt 32 v3.toInt))) ^^^ BitVec.ofInt 32 (Int.fdiv ((AV.fld (.agg o3_1) (Int.toNat (IntKind.wrap .i64 (x9_1-15)))).toInt) (2^3)))))+(AV.fld (.agg o3_1) (Int.toNat (IntKind.wrap .i64 (x9_1-7)))).toInt)+IntKind.wrap .u32 (BitVec.toNat (BitVec.ofInt 32 (IntKind.wrap .u32 (BitVec.toNat (BitVec.ofInt 32 v4.toInt ^^^ BitVec.ofInt 32 v5.toInt))) ^^^ BitVec.ofInt 32 (Int.fdiv ((AV.fld (.agg o3_1) (Int.toNat (IntKind.wrap .i64 (x9_1-2)))).toInt) (2^10))))))))
  else none
  else none
  else none))))))))
  else none
  else none
  else
    some ⟨[.agg o3_1],[],f213_fresh⟩:=by kernel_rfl
noncomputable def f213 (run:Run) (n:Nat) (a0_1:List UInt8):Option Res:=evalK G run n f213_info.keep 0 f213_info.body (retE G f213_info) (f213_info.start [.str a0_1])
theorem f213_eq (run:Run) (n:Nat) (a0_1:List UInt8):f213 run n a0_1 =
  f213_l0 run n n a0_1 0 (List.replicate 64 (.int 0)) (List.replicate 64 (.int 0)):=by kernel_rfl
theorem f213_run (ext:Run) (n:Nat) (a0_1:List UInt8):runE G ext (n+1) 213 [.str a0_1]=f213 (runE G ext n) n a0_1:=runE_succ f213_at f213_in
noncomputable def f214 (run:Run) (n:Nat):Option Res:=evalK G run n f214_info.keep 0 f214_info.body (retE G f214_info) (f214_info.start [])
theorem f214_eq (run:Run) (n:Nat):f214 run n  =
  some ⟨[.agg [.int 1116352408,.int 1899447441,.int 3049323471,.int 3921009573,.int 961987163,.int 1508970993,.int 2453635748,.int 2870763221,.int 3624381080,.int 310598401,.int 607225278,.int 1426881987,.int 1925078388,.int 2162078206,.int 2614888103,.int 3248222580,.int 3835390401,.int 4022224774,.int 264347078,.int 604807628,.int 770255983,.int 1249150122,.int 1555081692,.int 1996064986,.int 2554220882,.int 2821834349,.int 2952996808,.int 3210313671,.int 3336571891,.int 3584528711,.int 113926993,.int 338241895,.int 666307205,.int 773529912,.int 1294757372,.int 1396182291,.int 1695183700,.int 1986661051,.int 2177026350,.int 2456956037,.int 2730485921,.int 2820302411,.int 3259730800,.int 3345764771,.int 3516065817,.int 3600352804,.int 4094571909,.int 275423344,.int 430227734,.int 506948616,.int 659060556,.int 883997877,.int 958139571,.int 1322822218,.int 1537002063,.int 1747873779,.int 1955562222,.int 2024104815,.int 2227730452,.int 2361852424,.int 2428436474,.int 2756734187,.int 3204031479,.int 3329325298]],[],f214_fresh⟩:=by kernel_rfl
theorem f214_run (ext:Run) (n:Nat):runE G ext (n+1) 214 []=f214 (runE G ext n) n :=runE_succ f214_at f214_in
noncomputable def f167_l2 (run:Run) (n _k0 k2:Nat) (x109_1:Int) (o2_3 o4_3 o7_3:List AV):Option Res :=
  iterK (evalK G run n f167_keep 2 (sub [1,1,1,1,0,1,0,0] f167_body)) f167_t2 f167_o2 (blockK 2 (seqK (nextK G run n f167_keep 0 (sub [1,1,1,1,1] f167_body) (retE G f167_info)) (retE G f167_info))) k2
    ⟨[qa,qa,.ptr ⟨(.arr 8 (.int .u32)),2,1,[]⟩,qa,.ptr ⟨(.arr 8 (.int .u32)),4,1,[]⟩,qa,qa,.ptr ⟨(.arr 8 (.int .u32)),7,1,[]⟩,qa,qa,qa,qa,qa,qa,qa,qa,qa,qa,qa,qa,qa,qa,qa,qa,qa,qa,qa,qa,qa,qa,qa,qa,qa,qa,qa,qa,qa,qa,qa,qa,qa,qa,qa,qa,qa,qa,qa,qa,qa,qa,qa,qa,qa,qa,qa,qa,qa,qa,qa,qa,qa,qa,qa,qa,qa,qa,qa,qa,qa,qa,qa,qa,qa,qa,qa,qa,qa,qa,qa,qa,qa,qa,qa,qa,qa,qa,qa,qa,qa,qa,qa,qa,qa,qa,qa,qa,qa,qa,qa,qa,qa,qa,qa,qa,qa,qa,qa,qa,qa,.val (.int .i64) none (.int x109_1),qa,qa,qa,qa,qa,qa,qa,qa,qa,qa,qa,.any],[qz,qz,⟨1,some ⟨(.arr 8 (.int .u32)),.agg o2_3⟩⟩,qz,⟨1,some ⟨(.arr 8 (.int .u32)),.agg o4_3⟩⟩,qz,qz,⟨1,some ⟨(.arr 8 (.int .u32)),.agg o7_3⟩⟩,qz,qz,qz,qz,qz,qz,qz,qz,qz,qz,qz,qz,qz,qz,qz,qz,qz,qz,qz,qz,qz,qz,qz,qz,qz,qz,qz,qz,qz,qz,qz,qz,qz,qz,qz,qz,qz,qz,qz,qz,qz,qz,qz,qz,qz,qz,qz,qz,qz,qz,qz,qz,qz,qz,qz,qz,qz,qz,qz,qz,qz,qz,qz,qz,qz,qz,qz,qz,qz,qz,qz,qz,qz,qz,qz,qz,qz,qz,qz,qz,qz,qz,qz,qz,qz,qz,qz,qz,qz,qz,qz,qz,qz,qz,qz,qz,qz,qz,qz,qz,qz,qz,qz,qz,qz,qz,qz,qz,qz,qz,qz,qz,qz,qz],List.replicate 122 0⟩
noncomputable def f167_l0 (run:Run) (n k0:Nat) (x18_1:Int) (o2_1 o4_1:List AV) (o5_1 o6_1 o7_1:List AV):Option Res :=
  iterK (evalK G run n f167_keep 0 (sub [1,1,1,0,1,0,0] f167_body)) f167_t0 f167_o0 (blockK 0 (seqK (nextK G run n f167_keep 0 (sub [1,1,1,1] f167_body) (retE G f167_info)) (retE G f167_info))) k0
    ⟨[qa,qa,.ptr ⟨(.arr 8 (.int .u32)),2,1,[]⟩,qa,.ptr ⟨(.arr 8 (.int .u32)),4,1,[]⟩,.ptr ⟨(.arr 64 (.int .u32)),5,1,[]⟩,.ptr ⟨(.arr 64 (.int .u32)),6,1,[]⟩,.ptr ⟨(.arr 8 (.int .u32)),7,1,[]⟩,qa,qa,qa,qa,qa,qa,qa,qa,qa,qa,.val (.int .i64) none (.int x18_1),qa,qa,qa,qa,qa,qa,qa,qa,qa,qa,qa,qa,qa,qa,qa,qa,qa,qa,qa,qa,qa,qa,qa,qa,qa,qa,qa,qa,qa,qa,qa,qa,qa,qa,qa,qa,qa,qa,qa,qa,qa,qa,qa,qa,qa,qa,qa,qa,qa,qa,qa,qa,qa,qa,qa,qa,qa,qa,qa,qa,qa,qa,qa,qa,qa,qa,qa,qa,qa,qa,qa,qa,qa,qa,qa,qa,qa,qa,qa,qa,qa,qa,qa,qa,qa,qa,qa,qa,qa,qa,qa,qa,qa,qa,qa,qa,qa,qa,qa,qa,qa,qa,.any],[qz,qz,⟨1,some ⟨(.arr 8 (.int .u32)),.agg o2_1⟩⟩,qz,⟨1,some ⟨(.arr 8 (.int .u32)),.agg o4_1⟩⟩,⟨1,some ⟨(.arr 64 (.int .u32)),.agg o5_1⟩⟩,⟨1,some ⟨(.arr 64 (.int .u32)),.agg o6_1⟩⟩,⟨1,some ⟨(.arr 8 (.int .u32)),.agg o7_1⟩⟩,qz,qz,qz,qz,qz,qz,qz,qz,qz,qz,qz,qz,qz,qz,qz,qz,qz,qz,qz,qz,qz,qz,qz,qz,qz,qz,qz,qz,qz,qz,qz,qz,qz,qz,qz,qz,qz,qz,qz,qz,qz,qz,qz,qz,qz,qz,qz,qz,qz,qz,qz,qz,qz,qz,qz,qz,qz,qz,qz,qz,qz,qz,qz,qz,qz,qz,qz,qz,qz,qz,qz,qz,qz,qz,qz,qz,qz,qz,qz,qz,qz,qz,qz,qz,qz,qz,qz,qz,qz,qz,qz,qz,qz,qz,qz,qz,qz,qz,qz,qz,qz,qz,qz,qz,qz,qz,qz,qz,qz,qz,qz,qz,qz,qz],List.replicate 122 0⟩
theorem f167_l2_eq (run:Run) (n k0 k2:Nat) (x109_1:Int) (o2_3 o4_3 o7_3:List AV):f167_l2 run n k0 (k2+1) x109_1 o2_3 o4_3 o7_3 =
  bif ltI x109_1 8 then
    bif inR x109_1 8 then
    bif inR x109_1 8 then
    bif inR x109_1 8 then
    f167_l2 run n k0 k2 (IntKind.wrap .i64 (x109_1+1)) (o2_3.set (Int.toNat x109_1) (.int (IntKind.wrap .u32 ((AV.fld (.agg o2_3) (Int.toNat x109_1)).toInt+(AV.fld (.agg o7_3) (Int.toNat x109_1)).toInt)))) o4_3 o7_3
  else none
  else none
  else none
  else
    some ⟨[.agg o2_3],[],f167_fresh⟩:=by kernel_rfl
theorem f167_l0_eq (run:Run) (n k0:Nat) (x18_1:Int) (o2_1 o4_1:List AV) (o5_1 o6_1 o7_1:List AV):f167_l0 run n (k0+1) x18_1 o2_1 o4_1 o5_1 o6_1 o7_1 =
  bif ltI x18_1 64 then
    (run 215 [.int ((AV.fld (.agg o7_1) 4).toInt),.int 6]).bind fun r3 =>
    nilV r3.outs (consV r3.vals fun v3 vs3 =>
    nilV vs3 ((run 215 [.int ((AV.fld (.agg o7_1) 4).toInt),.int 11]).bind fun r4 =>
    nilV r4.outs (consV r4.vals fun v4 vs4 =>
    nilV vs4 ((run 215 [.int ((AV.fld (.agg o7_1) 4).toInt),.int 25]).bind fun r5 =>
    nilV r5.outs (consV r5.vals fun v5 vs5 =>
    nilV vs5 (bif inR x18_1 64 then
    bif inR x18_1 64 then
    (run 215 [.int ((AV.fld (.agg o7_1) 0).toInt),.int 2]).bind fun r6 =>
    nilV r6.outs (consV r6.vals fun v6 vs6 =>
    nilV vs6 ((run 215 [.int ((AV.fld (.agg o7_1) 0).toInt),.int 13]).bind fun r7 =>
    nilV r7.outs (consV r7.vals fun v7 vs7 =>
    nilV vs7 ((run 215 [.int ((AV.fld (.agg o7_1) 0).toInt),.int 22]).bind fun r8 =>
    nilV r8.outs (consV r8.vals fun v8 vs8 =>
    nilV vs8 (f167_l0 run n k0 (IntKind.wrap .i64 (x18_1+1)) o2_1 o4_1 o5_1 o6_1 [.int (IntKind.wrap .u32 (IntKind.wrap .u32 (IntKind.wrap .u32 (IntKind.wrap .u32 (IntKind.wrap .u32 (IntKind.wrap .u32 ((AV.fld (.agg o7_1) 7).toInt+IntKind.wrap .u32 (BitVec.toNat (BitVec.ofInt 32 (IntKind.wrap .u32 (BitVec.toNat (BitVec.ofInt 32 v3.toInt ^^^ BitVec.ofInt 32 v4.toInt))) ^^^ BitVec.ofInt 32 v5.toInt)))+IntKind.wrap .u32 (BitVec.toNat (BitVec.ofInt 32 (IntKind.wrap .u32 (BitVec.toNat (BitVec.ofInt 32 ((AV.fld (.agg o7_1) 4).toInt) &&& BitVec.ofInt 32 ((AV.fld (.agg o7_1) 5).toInt)))) ^^^ BitVec.ofInt 32 (IntKind.wrap .u32 (BitVec.toNat (BitVec.ofInt 32 (IntKind.wrap .u32 (BitVec.toNat (BitVec.ofInt 32 4294967295 ^^^ BitVec.ofInt 32 ((AV.fld (.agg o7_1) 4).toInt)))) &&& BitVec.ofInt 32 ((AV.fld (.agg o7_1) 6).toInt)))))))+(AV.fld (.agg o6_1) (Int.toNat x18_1)).toInt)+(AV.fld (.agg o5_1) (Int.toNat x18_1)).toInt)+IntKind.wrap .u32 (BitVec.toNat (BitVec.ofInt 32 (IntKind.wrap .u32 (BitVec.toNat (BitVec.ofInt 32 v6.toInt ^^^ BitVec.ofInt 32 v7.toInt))) ^^^ BitVec.ofInt 32 v8.toInt)))+IntKind.wrap .u32 (BitVec.toNat (BitVec.ofInt 32 (IntKind.wrap .u32 (BitVec.toNat (BitVec.ofInt 32 (IntKind.wrap .u32 (BitVec.toNat (BitVec.ofInt 32 ((AV.fld (.agg o7_1) 0).toInt) &&& BitVec.ofInt 32 ((AV.fld (.agg o7_1) 1).toInt)))) ^^^ BitVec.ofInt 32 (IntKind.wrap .u32 (BitVec.toNat (BitVec.ofInt 32 ((AV.fld (.agg o7_1) 0).toInt) &&& BitVec.ofInt 32 ((AV.fld (.agg o7_1) 2).toInt))))))) ^^^ BitVec.ofInt 32 (IntKind.wrap .u32 (BitVec.toNat (BitVec.ofInt 32 ((AV.fld (.agg o7_1) 1).toInt) &&& BitVec.ofInt 32 ((AV.fld (.agg o7_1) 2).toInt)))))))),.int ((AV.fld (.agg o7_1) 0).toInt),.int ((AV.fld (.agg o7_1) 1).toInt),.int ((AV.fld (.agg o7_1) 2).toInt),.int (IntKind.wrap .u32 ((AV.fld (.agg o7_1) 3).toInt+IntKind.wrap .u32 (IntKind.wrap .u32 (IntKind.wrap .u32 (IntKind.wrap .u32 ((AV.fld (.agg o7_1) 7).toInt+IntKind.wrap .u32 (BitVec.toNat (BitVec.ofInt 32 (IntKind.wrap .u32 (BitVec.toNat (BitVec.ofInt 32 v3.toInt ^^^ BitVec.ofInt 32 v4.toInt))) ^^^ BitVec.ofInt 32 v5.toInt)))+IntKind.wrap .u32 (BitVec.toNat (BitVec.ofInt 32 (IntKind.wrap .u32 (BitVec.toNat (BitVec.ofInt 32 ((AV.fld (.agg o7_1) 4).toInt) &&& BitVec.ofInt 32 ((AV.fld (.agg o7_1) 5).toInt)))) ^^^ BitVec.ofInt 32 (IntKind.wrap .u32 (BitVec.toNat (BitVec.ofInt 32 (IntKind.wrap .u32 (BitVec.toNat (BitVec.ofInt 32 4294967295 ^^^ BitVec.ofInt 32 ((AV.fld (.agg o7_1) 4).toInt)))) &&& BitVec.ofInt 32 ((AV.fld (.agg o7_1) 6).toInt)))))))+(AV.fld (.agg o6_1) (Int.toNat x18_1)).toInt)+(AV.fld (.agg o5_1) (Int.toNat x18_1)).toInt))),.int ((AV.fld (.agg o7_1) 4).toInt),.int ((AV.fld (.agg o7_1) 5).toInt),.int ((AV.fld (.agg o7_1) 6).toInt)]))))))
  else none
  else none))))))
  else
    f167_l2 run n k0 n 0 o2_1 o4_1 o7_1:=by kernel_rfl
noncomputable def f167 (run:Run) (n:Nat) (a0_1:List AV) (a1_1:List UInt8):Option Res:=evalK G run n f167_info.keep 0 f167_info.body (retE G f167_info) (f167_info.start [.agg a0_1,.str a1_1])
theorem f167_eq (run:Run) (n:Nat) (a0_1:List AV) (a1_1:List UInt8):f167 run n a0_1 a1_1 =
  (run 213 [.str a1_1]).bind fun r1 =>
    nilV r1.outs (consV r1.vals fun v1 vs1 =>
    nilV vs1 ((run 214 []).bind fun r2 =>
    nilV r2.outs (consV r2.vals fun v2 vs2 =>
    nilV vs2 (f167_l0 run n n 0 a0_1 (List.replicate 8 (.int 0)) v1.toAgg v2.toAgg a0_1)))):=by kernel_rfl
theorem f167_run (ext:Run) (n:Nat) (a0_1:List AV) (a1_1:List UInt8):runE G ext (n+1) 167 [.agg a0_1,.str a1_1]=f167 (runE G ext n) n a0_1 a1_1:=runE_succ f167_at f167_in
noncomputable def f111_l0 (run:Run) (n k0:Nat) (x4_1:Int) (o0_1:List AV) (o0_2:List UInt8) (o0_3:Int) (o0_4:Bool):Option Res :=
  iterK (evalK G run n f111_keep 0 (sub [1,1,1,1,1,0,0,0] f111_body)) f111_t0 f111_o0 (blockK 0 (seqK (nextK G run n f111_keep 0 (sub [1,1,1,1,1,1] f111_body) (retE G f111_info)) (retE G f111_info))) k0
    ⟨[.ptr ⟨(.struct [(.arr 8 (.int .u32)),.str,(.int .u64),.bool]),0,0,[]⟩,qa,qa,qa,.val (.int .i64) none (.int x4_1),qa,qa,qa,qa,qa,qa,qa,qa,qa,qa,qa,qa,qa,qa,qa,qa,qa,qa,qa,qa,qa,qa,qa,qa,qa,qa,qa,qa,qa,qa,qa,qa,qa,qa,qa,qa,qa,qa,qa,qa,qa,qa,qa,qa,qa,qa,qa,qa,qa,qa,qa,qa,qa,qa,qa,qa,qa,qa,qa,qa,qa,qa,qa,qa,qa,qa,.any],[⟨0,some ⟨(.struct [(.arr 8 (.int .u32)),.str,(.int .u64),.bool]),.agg [.agg o0_1,.str o0_2,.int o0_3,.bool o0_4]⟩⟩,qz,qz,qz,qz,qz,qz,qz,qz,qz,qz,qz,qz,qz,qz,qz,qz,qz,qz,qz,qz,qz,qz,qz,qz,qz,qz,qz,qz,qz,qz,qz,qz,qz,qz,qz,qz,qz,qz,qz,qz,qz,qz,qz,qz,qz,qz,qz,qz,qz,qz,qz,qz,qz,qz,qz,qz,qz,qz,qz,qz,qz,qz,qz,qz,qz,qz,qz,qz,qz,qz,qz],List.replicate 72 0⟩
theorem f111_l0_eq (run:Run) (n k0:Nat) (x4_1:Int) (o0_1:List AV) (o0_2:List UInt8) (o0_3:Int) (o0_4:Bool):f111_l0 run n (k0+1) x4_1 o0_1 o0_2 o0_3 o0_4 =
  bif leI 64 (IntKind.wrap .i64 ((o0_2.length:Int)-x4_1)) then
    bif boundsOk x4_1 (IntKind.wrap .i64 (x4_1+64)) (o0_2.length:Int) (o0_2.length:Int) then
    (run 167 [.agg o0_1,.str (List.drop (Int.toNat x4_1) (List.take (Int.toNat (IntKind.wrap .i64 (x4_1+64))) o0_2))]).bind fun r2 =>
    nilV r2.outs (consV r2.vals fun v2 vs2 =>
    nilV vs2 (f111_l0 run n k0 (IntKind.wrap .i64 (x4_1+64)) v2.toAgg o0_2 o0_3 o0_4))
  else none
  else
    bif boundsOk x4_1 (o0_2.length:Int) (o0_2.length:Int) (o0_2.length:Int) then
    some ⟨[],[.agg [.agg o0_1,.str (List.drop (Int.toNat x4_1) (List.take (Int.toNat (o0_2.length:Int)) o0_2)),.int o0_3,.bool o0_4]],f111_fresh⟩
  else none:=by kernel_rfl
noncomputable def f111 (run:Run) (n:Nat) (a0_1:List AV) (a0_2:List UInt8) (a0_3:Int) (a0_4:Bool) (a1_1:List UInt8):Option Res:=evalK G run n f111_info.keep 0 f111_info.body (retE G f111_info) (f111_info.start [.agg [.agg a0_1,.str a0_2,.int a0_3,.bool a0_4],.str a1_1])
theorem f111_eq (run:Run) (n:Nat) (a0_1:List AV) (a0_2:List UInt8) (a0_3:Int) (a0_4:Bool) (a1_1:List UInt8):f111 run n a0_1 a0_2 a0_3 a0_4 a1_1 =
  bif !a0_4 then
    (run 166 []).bind fun r1 =>
    nilV r1.outs (consV r1.vals fun v1 vs1 =>
    nilV vs1 (bif Nat.ble (a0_2.length+a1_1.length) maxLen then
    f111_l0 run n n 0 v1.toAgg (a0_2++a1_1) (IntKind.wrap .u64 (a0_3+IntKind.wrap .u64 (a1_1.length:Int))) true
  else none))
  else
    bif Nat.ble (a0_2.length+a1_1.length) maxLen then
    f111_l0 run n n 0 a0_1 (a0_2++a1_1) (IntKind.wrap .u64 (a0_3+IntKind.wrap .u64 (a1_1.length:Int))) a0_4
  else none:=by kernel_rfl
theorem f111_run (ext:Run) (n:Nat) (a0_1:List AV) (a0_2:List UInt8) (a0_3:Int) (a0_4:Bool) (a1_1:List UInt8):runE G ext (n+1) 111 [.agg [.agg a0_1,.str a0_2,.int a0_3,.bool a0_4],.str a1_1]=f111 (runE G ext n) n a0_1 a0_2 a0_3 a0_4 a1_1:=runE_succ f111_at f111_in
end Go.Proofs.YtlkkebfjmbfgpaaGreatDoor.Ev

