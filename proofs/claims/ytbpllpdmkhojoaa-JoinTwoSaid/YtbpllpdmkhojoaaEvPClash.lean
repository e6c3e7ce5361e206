/- Clashes. -/
import Derived.Test.YtbpllpdmkhojoaaEvPHold
namespace Go.Proofs.Ytbpllpdmkhojoaa.Ev
open Go Go.RowKit

theorem eqO_self' (a : Bool) : eqO a a = true := by cases a <;> rfl

def isV (a b : List UInt8) : Bool := bif !(eqS a b) then eqS (hashV a) (hashV b) else false
theorem is_runs {a b : List UInt8} (ha : a.length ≤ 1152921504606840000) (hb : b.length ≤ 1152921504606840000) : RunsX 18 [.str a, .str b] ⟨[.bool (isV a b)], [], false⟩ := by
  have s1 : RunsX 61 [.str a] ⟨[.blob (hashV a)], [], false⟩ := by
    refine Evt.succ ((sha_runs ha).mono fun m hm => ?_)
    rw [f61_run, f61_eq, hm, step1]; rfl
  have s2 : RunsX 61 [.str b] ⟨[.blob (hashV b)], [], false⟩ := by
    refine Evt.succ ((sha_runs hb).mono fun m hm => ?_)
    rw [f61_run, f61_eq, hm, step1]; rfl
  refine Evt.succ ((s1.and s2).mono fun m hm => ?_)
  unfold isV
  rw [f18_run, f18_eq, hm.1, step1, hm.2, step1]
  cases eqS a b <;> rfl

theorem findSame_runs {root s : List UInt8} {i n i' n' : Int} {P P' : List AV} (hs : s.length ≤ 140737488355328) (hb : Blob32 P) (hb' : Blob32 P') :
    RunsX 16 [.blob root, .agg [.str s, .agg [.int i, .int n, .slice P]], .agg [.str s, .agg [.int i', .int n', .slice P']]] ⟨[.str [], .str [], .bool false], [], false⟩ := by
  have r1 := holdCheck_runs (root := root) (s := s) (i := i) (n := n) (P := P) hs hb
  have r2 := holdCheck_runs (root := root) (s := s) (i := i') (n := n') (P := P') hs hb'
  refine Evt.succ ((r1.and r2).mono fun m hm => ?_)
  rw [f16_run, f16_eq, hm.1, step1, toBool_b, hm.2, step1, toBool_b, eqS_t rfl]
  cases checkH root s i n P <;> cases checkH root s i' n' P' <;> cases eqI i i' <;> rfl

theorem clashAwake : RunsX 15 [] ⟨[.bool true], [], false⟩ := by
  have r1 := refTreeRoot_runs (l := [AV.str [97]]) (by simp) one_short
  have r2 := holdCheck_runs (root := rootH 1 (leafH [97])) (s := [97]) (i := 0) (n := 1) (P := []) (by simp) no_blobs
  have r3 := findSame_runs (root := rootH 1 (leafH [97])) (s := [97]) (i := 0) (n := 1) (P := []) (i' := 0) (n' := 1) (P' := []) (by simp) no_blobs no_blobs
  have r4 := is_runs (a := [97]) (b := [97]) (by simp) (by simp)
  have e4 : isV [97] [97] = false := by unfold isV; rw [eqS_t rfl]; rfl
  rw [one_root] at r1
  rw [one_check] at r2
  rw [e4] at r4
  refine Evt.succ (((r1.and r2).and (r3.and r4)).mono fun m hn => ?_)
  obtain ⟨⟨e1, e2⟩, e3, e4⟩ := hn
  have step3 : ∀ {α : Type} (a b c : AV) (fr : Bool) (K : AV → AV → AV → Option α), (some (⟨[a, b, c], [], fr⟩ : Res)).bind (fun r => nilV r.outs (consV r.vals fun v vs => consV vs fun u us => consV us fun w ws => nilV ws (K v u w))) = K a b c := fun _ _ _ _ _ => rfl
  rw [f15_run, f15_eq, e1, step1, toBlob_b, e3, step3, toBool_b, not_f, cond_true, e2, step1, toBool_b, cond_true, e4, step1]
  rfl



end Go.Proofs.Ytbpllpdmkhojoaa.Ev
