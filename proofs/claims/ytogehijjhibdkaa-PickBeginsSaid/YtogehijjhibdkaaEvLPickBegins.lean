/- The law PickBegins returns true for every input: the row as it is given. -/
import Derived.Test.YtogehijjhibdkaaRows
import Derived.Test.YtogehijjhibdkaaEvPPickL
import Derived.WalkKit
import Derived.ProofKit
import Derived.OpenShut
import Derived.ShutString
import Derived.ChangeOld
import Derived.Below
import Derived.SizedLaws
namespace Go.Proofs.Ytogehijjhibdkaa.pickBegins
open Go.ChangeShapes Go.WideShapes Go.ChangeAt Go.RowKit Go.Proofs.Ytogehijjhibdkaa.Ev

theorem own : ownKnob Try.prog.godebug = none := by kernel_rfl
theorem laidOut : laidOutB Try.prog = true := by kernel_rfl

set_option maxRecDepth 100000 in
theorem lifted (os : Os) (started : os.Started) (H : Type) (enc : TypeId × Value → H) :
    ReturnsInHanded {} Try.checked os 4 .any (Rows.pickBeginsSpec.pre6 enc Try.prog Try.f4 Rows.pickBeginsRow.domain false) (Rows.pickBeginsSpec.post enc Try.prog Try.f4 false true false false) := by
  refine returnsInHanded_of_change_sized (C := Try.checked) own started (by kernel_rfl) Try.func4
    (ChangeSpec.witness6 (enc := enc) (C := Try.checked) false ⟨#[], #[.slice none 0 0, .agg #[.int .i64 0, .int .i64 0, .int .i64 0], .agg #[.int .i64 0, .int .i64 0]], []⟩ 8 (by kernel_rfl) (by kernel_rfl) (by kernel_rfl) (by kernel_rfl)) ?_
  intro W base args ds gs before hval0 hW hcnd hsz0 _
  have hsz : (DataW.weightsEach Try.prog (Try.f4.params.toList ++ Rows.pickBeginsSpec.plain.varTypes Try.prog) (ds ++ gs)).all (· ≤ reachBytes) = true := hsz0
  have hval : ∀ (j : Nat) t v, Try.f4.params[j]? = some t → args[j]? = some v → Value.okWide Try.prog W .any base t v := hval0
  have hW' := hW
  obtain ⟨p, q, hA0, hV, rfl, hfz, hnd⟩ := hW
  have hA : DataW.TrodAll enc Try.prog W 0 (fun _ => true) true Try.f4.params.toList args.toList ds p := hA0
  have hk := hA
  obtain ⟨rfl, rfl⟩ := trodVars_none hV
  have hc : chkArgs Try.prog [.slice (.int .i64), .arr 3 (.int .i64), .arr 2 (.int .i64)] Try.f4.params.toList = true := by kernel_rfl
  have hw : (DataW.weightsEach Try.prog Try.f4.params.toList ds).all (· ≤ reachBytes) = true := by
    have e : Rows.pickBeginsSpec.plain.varTypes Try.prog = [] := by kernel_rfl
    rw [e, List.append_nil, List.append_nil] at hsz
    exact hsz
  have hcall := law_calls (i := f4_info) (f := 4) (Ts := [.slice (.int .i64), .arr 3 (.int .i64), .arr 2 (.int .i64)]) (by kernel_rfl) (by kernel_rfl) hc pickBegins_sat hA
    (fun j t v ht hv => hval j t v (by rw [← Array.getElem?_toList]; exact ht) (by rw [← Array.getElem?_toList]; exact hv)) hw
  refine hcall.mono fun e W' ⟨he, bel⟩ => ?_
  subst he
  have hb := args_below laidOut bel _ _ _ _ _ hc hk
  rw [Try.params4] at hk hb
  obtain ⟨v0, vs0, d0, ds0, p0, q0, hargs, rfl, rfl, h0, r0⟩ := trodAll_cons hk
  obtain ⟨v1, vs1, d1, ds1, p1, q1, rfl, rfl, rfl, h1, r1⟩ := trodAll_cons r0
  obtain ⟨v2, vs2, d2, ds2, p2, q2, rfl, rfl, rfl, h2, r2⟩ := trodAll_cons r1
  obtain ⟨rfl, rfl, rfl⟩ := trodAll_nil r2
  exact ⟨_, rfl, _, _, _, [], _, [], hW', trodAll_mk1 (shut_bool Try.underlying4 _), hb, rfl, bel.frame _, fun h => by cases h⟩

theorem over : Rows.pickBeginsRow.holds Try.pinned (OpenSpec.ofChange Rows.pickBeginsSpec) :=
  OpenClaim.holds_of_wide 4 Try.f4 rfl rfl rfl rfl rfl rfl rfl ⟨rfl, rfl, rfl, rfl, rfl⟩ rfl rfl rfl rfl rfl (by kernel_rfl) Try.func4 (by kernel_rfl)
    (of_decide_eq_true (by kernel_rfl)) (by unfold Func.isWrapper; first | (rw [if_pos (by decide +kernel)]; kernel_rfl) | (rw [if_neg (by decide +kernel)]; exact ⟨rfl, rfl⟩))
    (fun os started H enc _ => lifted os started H enc)
end Go.Proofs.Ytogehijjhibdkaa.pickBegins
namespace Go.Proofs.Ytogehijjhibdkaa
/-- The law PickBegins, for every input. -/
theorem pickBegins_holds : Rows.PickBeginsSaid := pickBegins.over
#print axioms pickBegins_holds
end Go.Proofs.Ytogehijjhibdkaa
