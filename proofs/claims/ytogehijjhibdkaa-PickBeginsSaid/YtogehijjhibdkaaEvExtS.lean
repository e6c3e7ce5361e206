/- strings.Join and strings.Repeat answer as told: by the shelf's contracts. -/
import Derived.Test.YtogehijjhibdkaaEvExt
import Derived.Test.YtogehijjhibdkaaEvFZ
import Derived.Test.YtogehijjhibdkaaShelf
import Derived.Test.YtogehijjhibdkaaEvSSides
import Derived.Test.YtogehijjhibdkaaEvSPlC
namespace Go.Proofs.Ytogehijjhibdkaa.Ev
open Go Go.RowKit

/-- A text is handed back, and nothing turns. -/
theorem str_back {S0 : Snap} {w0 w : World} {l : List UInt8} (ha : ∀ p v, S0 p = some v → w0.cell? p = some v) (hb : Below w0.heap.size w0 w) (hl : l.length ≤ maxLen) :
    ∃ S v, (Ending.returned (.string ⟨l.toArray⟩)) = .returned v ∧ S0.le S ∧ (∀ p u, S p = some u → S0 p = some u ∨ w0.heap.size ≤ p.block) ∧ (∀ p u, S p = some u → w.cell? p = some u) ∧
      Keep w0.heap.size [] w0 w ∧ ResRel S w w0.heap.size [.val .str] ⟨[.str l], [], false⟩ v ∧ OutsRel S w [] [] [] := by
  refine ⟨S0, _, rfl, Snap.le_refl _, fun p u h => .inl h, fun p u h => ?_, keep_of_below hb, ⟨.str l, rfl, ⟨[.string ⟨l.toArray⟩], (val_one rfl _).symm, l, rfl, rfl, hl⟩, fun h => by cases h⟩, rfl, rfl⟩
  have h1 := ha p u h
  exact (hb.cell (cell_parts h1).2).trans h1

/-- Each entry of the list answers as told. -/
inductive AllSat : List (FuncId × (List AV → Option Res)) → Prop
  | nil : AllSat []
  | cons {f : FuncId} {g : List AV → Option Res} {l : List (FuncId × (List AV → Option Res))} {i : FnInfo} (hi : assoc G.fns f = some i) (h : ∀ xs r, g xs = some r → Sat Try.prog i f xs r) (hl : AllSat l) : AllSat ((f, g) :: l)

theorem AllSat.at {l : List (FuncId × (List AV → Option Res))} (h : AllSat l) : ∀ f g i xs r, assoc G.fns f = some i → assoc l f = some g → g xs = some r → Sat Try.prog i f xs r := by
  induction h with
  | nil => intro f g i xs r _ e; cases e
  | @cons f0 g0 l i0 hi0 h0 _ ih =>
    intro f g i xs r hi e hr
    simp only [assoc] at e
    cases hb : Nat.beq f0 f with
    | false => rw [hb, cond_false] at e; exact ih f g i xs r hi e hr
    | true =>
      have : f0 = f := Nat.eq_of_beq_eq_true hb
      subst this
      rw [hb, cond_true] at e
      cases e
      rw [hi0] at hi
      cases hi
      exact h0 xs r hr

theorem ext_all : AllSat extL :=
  .cons f15_at (fun _ _ h => places_sat h) <|
  .nil

theorem ext_sat : ∀ f i xs r, assoc G.fns f = some i → ext f xs = some r → Sat Try.prog i f xs r := by
  intro f i xs r hi h
  unfold ext at h
  cases hg : assoc extL f with
  | none => rw [hg] at h; cases h
  | some g => rw [hg] at h; exact ext_all.at f g i xs r hi hg h

/-- A law's row, from what the evaluator tells. -/
theorem sat_of_runsX {f : FuncId} {i : FnInfo} {xs : List AV} {r : Res} (hi : assoc G.fns f = some i) (h : RunsX f xs r) : Sat Try.prog i f xs r := by
  obtain ⟨n, h⟩ := h.ex
  exact (runE_sound types_ok fns_ok ext_sat n).sat f i xs r hi h

end Go.Proofs.Ytogehijjhibdkaa.Ev
