/- Several leaves under one root: both programs tell the same. -/
import Derived.Test.YtncajhkogppojaaEvPMulO
namespace Go.Proofs.Ytncajhkogppojaa.Ev
open Go Go.RowKit

theorem runs_det {f : FuncId} {xs : List AV} {r r' : Res} (h : RunsX f xs r) (h' : RunsX f xs r') : r = r' := by
  obtain ⟨n, h1, h2⟩ := (Evt.and h h').ex
  rw [h1] at h2
  exact Option.some.inj h2

/-- How many places stand ahead of one. -/
def cntB (P : List Int) (a : Int) : Nat := (P.filter fun x => decide (x < a)).length

theorem cntB_add (a s : Int) (hs : 0 ≤ s) : ∀ P : List Int, cntB P (a + s) = cntB P a + (sub_ P a (a + s)).length
  | [] => rfl
  | x :: P => by
    have ih := cntB_add a s hs P
    unfold cntB sub_ inB at ih ⊢
    rw [List.length_map] at ih ⊢
    simp only [List.filter_cons]
    by_cases h1 : x < a
    · rw [dec_t h1, dec_t (show x < a + s by omega), dec_f (show ¬ a ≤ x by omega)]
      simp only [if_true, Bool.false_and, List.length_cons, Bool.false_eq_true, if_false]
      omega
    · rw [dec_f h1]
      by_cases h2 : x < a + s
      · rw [dec_t h2, dec_t (show a ≤ x by omega)]
        simp only [if_true, Bool.and_true, List.length_cons, Bool.false_eq_true, if_false]
        omega
      · rw [dec_f h2]
        simp only [Bool.and_false, Bool.false_eq_true, if_false]
        exact ih

theorem cntB_at {P : List Int} (hs : P.Pairwise (· < ·)) {i : Nat} (hi : i < P.length) : cntB P P[i] = i := by
  have h1 : ∀ x ∈ P.take i, x < P[i] := by
    intro x hx
    obtain ⟨j, hj, rfl⟩ := List.getElem_of_mem hx
    rw [List.length_take] at hj
    rw [List.getElem_take]
    exact List.pairwise_iff_getElem.1 hs j i (by omega) hi (by omega)
  have := (split_sorted hs h1 (fun _ => Int.le_refl _)).1
  unfold cntB
  rw [← this, List.length_take]; omega

theorem cntB_le (P : List Int) (a : Int) : cntB P a ≤ P.length := List.length_filter_le _ _

end Go.Proofs.Ytncajhkogppojaa.Ev
