import Derived.Test.YtlkkebfjmbfgpaaGreatDoorRows
import Derived.Test.YtlkkebfjmbfgpaaGreatDoorPrCJD
import Derived.WalkKit
import Derived.ProofKit
import Derived.OpenShut
import Derived.ShutString
import Derived.ChangeOld
import Derived.Below
import Derived.SizedLaws
import Derived.LaidLaws
import Derived.LaidHandle
import Derived.Stop.Joined
import Derived.Test.YtlkkebfjmbfgpaaGreatDoorCards
import Derived.Test.YtlkkebfjmbfgpaaGreatDoorTie
namespace Go.Proofs.YtlkkebfjmbfgpaaGreatDoor.milepostClash
open Go.ChangeShapes Go.WideShapes Go.ChangeAt Go.RowKit Go.Proofs.YtlkkebfjmbfgpaaGreatDoor.Ev
theorem own:ownKnob Tryz.prog.godebug=none:=by kernel_rfl
theorem laidOut:laidOutB Tryz.prog=true:=by kernel_rfl
set_option maxRecDepth 100000 in
theorem lifted (os:Os) (started:os.Started) (H:Type) (enc:TypeId × Value→H) :
    ReturnsInHanded {} Tryz.checked os 3 .any (fun w args=>(Rows.milepostClashSpec.pre enc Tryz.prog Tryz.f3 Rows.milepostClashRow.domain false w args∧laidMetH Tryz.prog Rows.milepostClashRow.laid w)∧sizedMet enc Tryz.prog Tryz.f3 (OpenSpec.ofChange Rows.milepostClashSpec) false w args)
      (Rows.milepostClashSpec.post enc Tryz.prog Tryz.f3 false true false false):=by
  refine returnsInHanded_of_change_and (C:=Tryz.checked) (X:=fun w _=>laidMetH Tryz.prog Rows.milepostClashRow.laid w) (fun _ _ _ hh h=>h.of_heap hh) own started (by kernel_rfl) Tryz.func3
    (ChangeSpec.witness_at (enc:=enc) (C:=Tryz.checked) (os:=os) (X:=fun w _=>laidMetH Tryz.prog Rows.milepostClashRow.laid w) false (laidWorld os) witArgs 8 rfl (wit_vars os) (wit_rest os) (wit_ok os) (wit_pre os enc) (wit_size os enc) (laid_met os)) ?_
  intro W base args ds gs before hval0 hW hcnd hsz0 _ _
  have hsz:(DataW.weightsEach Tryz.prog (Tryz.f3.params.toList++Rows.milepostClashSpec.plain.varTypes Tryz.prog) (ds++gs)).all (·≤reachBytes)=true:=hsz0
  have hval:∀ (j:Nat) t v,Tryz.f3.params[j]?=some t→args[j]?=some v→Value.okWide Tryz.prog W .any base t v:=hval0
  have hW':=hW
  obtain ⟨p,q,hA0,hV,rfl,hfz,hnd⟩:=hW
  have hA:DataW.TrodAll enc Tryz.prog W 0 (fun _=>true) true Tryz.f3.params.toList args.toList ds p:=hA0
  have hk:=hA
  obtain ⟨rfl,rfl⟩:=trodVars_none hV
  have hc:chkArgs Tryz.prog [.slice .str,.arr 2 (.int .i64),.arr 2 (.struct [.str,.struct [.int .i64,.int .i64,.slice (.blob 32)]])] Tryz.f3.params.toList=true:=by kernel_rfl
  have hw:(DataW.weightsEach Tryz.prog Tryz.f3.params.toList ds).all (·≤reachBytes)=true:=by
    have e:Rows.milepostClashSpec.plain.varTypes Tryz.prog=[]:=by kernel_rfl
    rw [e,List.append_nil,List.append_nil] at hsz
    exact hsz
  have hcall:=law_calls (i:=f3_info) (f:=3) (Ts:=[.slice .str,.arr 2 (.int .i64),.arr 2 (.struct [.str,.struct [.int .i64,.int .i64,.slice (.blob 32)]])]) (by kernel_rfl) (by kernel_rfl) hc milepostClash_sat hA
    (fun j t v ht hv=>hval j t v (by rw [← Array.getElem?_toList]; exact ht) (by rw [← Array.getElem?_toList]; exact hv)) hw
  refine hcall.mono fun e W' ⟨he,bel⟩=>?_
  subst he
  have hb:=args_below laidOut bel _ _ _ _ _ hc hk
  rw [Tryz.params3] at hk hb
  obtain ⟨v0,vs0,d0,ds0,p0,q0,hargs,rfl,rfl,h0,r0⟩:=trodAll_cons hk
  obtain ⟨v1,vs1,d1,ds1,p1,q1,rfl,rfl,rfl,h1,r1⟩:=trodAll_cons r0
  obtain ⟨v2,vs2,d2,ds2,p2,q2,rfl,rfl,rfl,h2,r2⟩:=trodAll_cons r1
  obtain ⟨rfl,rfl,rfl⟩:=trodAll_nil r2
  exact ⟨_,rfl,_,_,_,[],_,[],hW',trodAll_mk1 (shut_bool Tryz.underlying4 _),hb,rfl,bel.frame _,fun h=>by cases h⟩
theorem j10:(Rows.milepostClashRow.inPlace == Tryz.pinned.checked.prog.inPlace 3)=true:=by kernel_rfl
theorem j11:(Rows.milepostClashRow.unfollowed == Tryz.pinned.checked.prog.unfollowed 3)=true:=by kernel_rfl
theorem j12:(Rows.milepostClashRow.recurses == Tryz.pinned.checked.prog.recurses 3)=true:=by kernel_rfl
theorem j13:(Rows.milepostClashRow.named == Tryz.pinned.checked.prog.varsNamed 3)=true:=by kernel_rfl
theorem jf:joinedFacts Tryz.pinned.checked.prog 3 Tryz.f3 Rows.milepostClashSpec Rows.milepostClashRow=true:=by
  unfold joinedFacts
  rw [j10,j11,j12,j13]
  kernel_rfl
theorem over:Rows.milepostClashRow.holds Tryz.pinned (OpenSpec.ofChange Rows.milepostClashSpec) :=
  OpenClaim.holds_of_wide 3 Tryz.f3 rfl rfl rfl rfl rfl rfl rfl ⟨rfl,rfl,rfl,rfl,rfl⟩ rfl rfl rfl rfl rfl (by kernel_rfl) Tryz.func3 jf
    (of_decide_eq_true (by kernel_rfl)) (by unfold Func.isWrapper; first | (rw [if_pos (by decide +kernel)]; kernel_rfl) | (rw [if_neg (by decide +kernel)]; exact ⟨rfl,rfl⟩))
    (fun os started H enc _=>lifted os started H enc)
end Go.Proofs.YtlkkebfjmbfgpaaGreatDoor.milepostClash
namespace Go.Proofs.YtlkkebfjmbfgpaaGreatDoor
theorem milepostClash_holds:Rows.MilepostClashCardSaid :=
  Claim7.holds_tied_plain_at .later [] [.data,.data,.data,.data,.handle,.pinned] true (true, "c56f9f5d8a71ec598b77aa2ba694e2b01847806666368549383b95ebf065cb16") true
    milepostClash.over (fun _ h=>by cases h) (by kernel_rfl) (fun _ h=>by cases h) milepostClash_row_tie rfl ⟨rfl,rfl⟩ (by kernel_rfl) rfl
    (fun f fn hf hfn=>by
      obtain rfl:f=3:=Option.some.inj ((show Tryz.prog.funcNamed "milepost/mileposttop.MilepostClash"=some 3 by kernel_rfl).symm.trans hf) |>.symm
      obtain rfl:fn=Tryz.f3:=(Option.some.inj (Tryz.func3.symm.trans hfn)).symm
      refine ⟨by kernel_rfl,fun j t ht=>?_⟩
      have hall:(Tryz.f3.params.toList.all fun t=>!Tryz.prog.wantsStandIn t)=true:=by kernel_rfl
      have:=List.all_eq_true.1 hall t (List.mem_of_getElem? (by rw [Array.getElem?_toList]; exact ht))
      exact (Bool.not_eq_true' _).mp this)
    (by kernel_rfl)
#print axioms milepostClash_holds
end Go.Proofs.YtlkkebfjmbfgpaaGreatDoor

