import Derived.Test.YteiahdlklppghaaGreatRows
import Derived.Test.YteiahdlklppghaaGreatPrWJD
import Derived.WalkKit
import Derived.ProofKit
import Derived.OpenShut
import Derived.ShutString
import Derived.ChangeOld
import Derived.Below
import Derived.SizedLaws
namespace Go.Proofs.YteiahdlklppghaaGreat.wayMakes
open Go.ChangeShapes Go.WideShapes Go.ChangeAt Go.RowKit Go.Proofs.YteiahdlklppghaaGreat.Ev
theorem own:ownKnob Tryz.prog.godebug=none:=by kernel_rfl
theorem laidOut:laidOutB Tryz.prog=true:=by kernel_rfl
set_option maxRecDepth 100000 in
theorem lifted (os:Os) (started:os.Started) (H:Type) (enc:TypeId × Value→H) :
    ReturnsInHanded {} Tryz.checked os 5 .any (Rows.wayMakesSpec.pre6 enc Tryz.prog Tryz.f5 Rows.wayMakesRow.domain false) (Rows.wayMakesSpec.post enc Tryz.prog Tryz.f5 false true false false):=by
  refine returnsInHanded_of_change_sized (C:=Tryz.checked) own started (by kernel_rfl) Tryz.func5
    (ChangeSpec.witness6 (enc:=enc) (C:=Tryz.checked) false ⟨#[],#[.agg (#[.int .u32 0]++Array.replicate 64 (.int .u8 0)++#[.int .u64 0]++Array.replicate 32 (.int .u8 0)++Array.replicate 6 (.int .i64 0)),.slice none 0 0,.agg #[.int .i64 0,.int .i64 0]],[]⟩ 8 (by kernel_rfl) (by kernel_rfl) (by kernel_rfl) (by kernel_rfl)) ?_
  intro W base args ds gs before hval0 hW hcnd hsz0 _
  have hsz:(DataW.weightsEach Tryz.prog (Tryz.f5.params.toList++Rows.wayMakesSpec.plain.varTypes Tryz.prog) (ds++gs)).all (·≤reachBytes)=true:=hsz0
  have hval:∀ (j:Nat) t v,Tryz.f5.params[j]?=some t→args[j]?=some v→Value.okWide Tryz.prog W .any base t v:=hval0
  have hW':=hW
  obtain ⟨p,q,hA0,hV,rfl,hfz,hnd⟩:=hW
  have hA:DataW.TrodAll enc Tryz.prog W 0 (fun _=>true) true Tryz.f5.params.toList args.toList ds p:=hA0
  have hk:=hA
  obtain ⟨rfl,rfl⟩:=trodVars_none hV
  have hc:chkArgs Tryz.prog [.struct [.struct [.int .u32,.blob 32,.blob 32,.int .u64],.blob 32,.int .i64,.int .i64,.int .i64,.int .i64,.int .i64,.int .i64],.slice (.struct [.struct [.int .u32,.blob 32,.blob 32,.int .u64],.slice .str]),.arr 2 (.int .i64)] Tryz.f5.params.toList=true:=by kernel_rfl
  have hw:(DataW.weightsEach Tryz.prog Tryz.f5.params.toList ds).all (·≤reachBytes)=true:=by
    have e:Rows.wayMakesSpec.plain.varTypes Tryz.prog=[]:=by kernel_rfl
    rw [e,List.append_nil,List.append_nil] at hsz
    exact hsz
  have hcall:=law_calls (i:=f5_info) (f:=5) (Ts:=[.struct [.struct [.int .u32,.blob 32,.blob 32,.int .u64],.blob 32,.int .i64,.int .i64,.int .i64,.int .i64,.int .i64,.int .i64],.slice (.struct [.struct [.int .u32,.blob 32,.blob 32,.int .u64],.slice .str]),.arr 2 (.int .i64)]) (by kernel_rfl) (by kernel_rfl) hc wayMakes_sat hA
    (fun j t v ht hv=>hval j t v (by rw [← Array.getElem?_toList]; exact ht) (by rw [← Array.getElem?_toList]; exact hv)) hw
  refine hcall.mono fun e W' ⟨he,bel⟩=>?_
  subst he
  have hb:=args_below laidOut bel _ _ _ _ _ hc hk
  rw [Tryz.params5] at hk hb
  obtain ⟨v0,vs0,d0,ds0,p0,q0,hargs,rfl,rfl,h0,r0⟩:=trodAll_cons hk
  obtain ⟨v1,vs1,d1,ds1,p1,q1,rfl,rfl,rfl,h1,r1⟩:=trodAll_cons r0
  obtain ⟨v2,vs2,d2,ds2,p2,q2,rfl,rfl,rfl,h2,r2⟩:=trodAll_cons r1
  obtain ⟨rfl,rfl,rfl⟩:=trodAll_nil r2
  exact ⟨_,rfl,_,_,_,[],_,[],hW',trodAll_mk1 (shut_bool Tryz.underlying4 _),hb,rfl,bel.frame _,fun h=>by cases h⟩
theorem over:Rows.wayMakesRow.holds Tryz.pinned (OpenSpec.ofChange Rows.wayMakesSpec) :=
  OpenClaim.holds_of_wide 5 Tryz.f5 rfl rfl rfl rfl rfl rfl rfl ⟨rfl,rfl,rfl,rfl,rfl⟩ rfl rfl rfl rfl rfl (by kernel_rfl) Tryz.func5 (by kernel_rfl)
    (of_decide_eq_true (by kernel_rfl)) (by unfold Func.isWrapper; first | (rw [if_pos (by decide +kernel)]; kernel_rfl) | (rw [if_neg (by decide +kernel)]; exact ⟨rfl,rfl⟩))
    (fun os started H enc _=>lifted os started H enc)
end Go.Proofs.YteiahdlklppghaaGreat.wayMakes
namespace Go.Proofs.YteiahdlklppghaaGreat
theorem wayMakes_holds:Rows.WayMakesSaid:=wayMakes.over
#print axioms wayMakes_holds
end Go.Proofs.YteiahdlklppghaaGreat

