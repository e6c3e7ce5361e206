import Derived.Test.YtlkkebfjmbfgpaaGreatDoorPrCEvFA
namespace Go.Proofs.YtlkkebfjmbfgpaaGreatDoor.Ev
open Go Go.RowKit
set_option maxRecDepth 100000
noncomputable def f236 (run:Run) (n:Nat) (a0_1 a1_1:List AV):Option Res:=evalK G run n f236_info.keep 0 f236_info.body (retE G f236_info) (f236_info.start [.agg a0_1,.agg a1_1])
noncomputable def f273_l0 (run:Run) (n k0:Nat) (x0_1:List AV) (x1_1 x8_1:Int) (o4_1:List AV) (o4_2:Int) (o5_1:List AV) (o5_2:Int):Option Res :=
  iterK (evalK G run n f273_keep 0 (sub [1,1,0,1,0,0] f273_body)) f273_t0 f273_o0 (blockK 0 (seqK (nextK G run n f273_keep 0 (sub [1,1,1] f273_body) (retE G f273_info)) (retE G f273_info))) k0
    ⟨[.val (.slice (.int .i64)) none (.slice x0_1),.val (.int .i64) none (.int x1_1),qa,qa,.ptr ⟨(.struct [(.arr 5 (.int .u64)),(.int .i64)]),4,1,[]⟩,.ptr ⟨(.struct [(.arr 5 (.int .u64)),(.int .i64)]),5,1,[]⟩,qa,qa,.val (.int .i64) none (.int x8_1),qa,qa,qa,qa,qa,qa,qa,qa,qa,qa,qa,qa,qa,qa,qa,qa,qa,qa,qa,qa,qa,qa,qa,qa,qa,.any],[qz,qz,qz,qz,⟨1,some ⟨(.struct [(.arr 5 (.int .u64)),(.int .i64)]),.agg [.agg o4_1,.int o4_2]⟩⟩,⟨1,some ⟨(.struct [(.arr 5 (.int .u64)),(.int .i64)]),.agg [.agg o5_1,.int o5_2]⟩⟩,qz,qz,qz,qz,qz,qz,qz,qz,qz,qz,qz,qz,qz,qz,qz,qz,qz,qz,qz,qz,qz,qz,qz,qz,qz,qz,qz,qz,qz],List.replicate 35 0⟩
theorem f273_l0_eq (run:Run) (n k0:Nat) (x0_1:List AV) (x1_1 x8_1:Int) (o4_1:List AV) (o4_2:Int) (o5_1:List AV) (o5_2:Int):f273_l0 run n (k0+1) x0_1 x1_1 x8_1 o4_1 o4_2 o5_1 o5_2 =
  bif ltI x8_1 256 then
    (run 297 [.slice x0_1,.int x8_1]).bind fun r1 =>
    nilV r1.outs (consV r1.vals fun v1 vs1 =>
    nilV vs1 (bif (((List.range 5).all fun i=>eqI ((AV.fld (.agg v1.toAgg) i).toInt) ((AV.fld (.agg o5_1) i).toInt))&&(eqI x8_1 o5_2&&true)) then
    f273_l0 run n k0 x0_1 x1_1 (IntKind.wrap .i64 (x8_1+1)) o4_1 o4_2 o5_1 o5_2
  else
    (run 298 [.slice x0_1,.int x8_1,.int x1_1]).bind fun r2 =>
    nilV r2.outs (consV r2.vals fun v2 vs2 =>
    nilV vs2 (bif !v2.toBool then
    f273_l0 run n k0 x0_1 x1_1 (IntKind.wrap .i64 (x8_1+1)) o4_1 o4_2 o5_1 o5_2
  else
    (run 236 [.agg v1.toAgg,.agg o5_1]).bind fun r3 =>
    nilV r3.outs (consV r3.vals fun v3 vs3 =>
    nilV vs3 (bif ltI 0 v3.toInt then
    f273_l0 run n k0 x0_1 x1_1 (IntKind.wrap .i64 (x8_1+1)) o4_1 o4_2 v1.toAgg x8_1
  else
    f273_l0 run n k0 x0_1 x1_1 (IntKind.wrap .i64 (x8_1+1)) o4_1 o4_2 o5_1 o5_2))))))
  else
    some ⟨[.agg [.agg o5_1,.int o5_2]],[],f273_fresh⟩:=by kernel_rfl
noncomputable def f273 (run:Run) (n:Nat) (a0_1:List AV) (a1_1:Int):Option Res:=evalK G run n f273_info.keep 0 f273_info.body (retE G f273_info) (f273_info.start [.slice a0_1,.int a1_1])
theorem f273_eq (run:Run) (n:Nat) (a0_1:List AV) (a1_1:Int):f273 run n a0_1 a1_1 =
  f273_l0 run n n a0_1 a1_1 0 (List.replicate 5 (.int 0)) 0 (List.replicate 5 (.int 0)) 0:=by kernel_rfl
theorem f273_run (ext:Run) (n:Nat) (a0_1:List AV) (a1_1:Int):runE G ext (n+1) 273 [.slice a0_1,.int a1_1]=f273 (runE G ext n) n a0_1 a1_1:=runE_succ f273_at f273_in
end Go.Proofs.YtlkkebfjmbfgpaaGreatDoor.Ev

