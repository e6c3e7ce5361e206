/- Places between two, through a third one. -/
import Derived.Test.YtogehijjhibdkaaGreatEvPDownX
import Derived.Test.YtogehijjhibdkaaGreatEvSBet
import Derived.Test.YtogehijjhibdkaaGreatEvExtS
namespace Go.Proofs.YtogehijjhibdkaaGreat.Ev
open Go Go.RowKit

theorem walkG_last {L : List AV} {«to» : Int} (h0 : 0 ≤ «to») : ∀ (j : Nat) (x : Int) (r : List AV), «to» ≤ x → x ≤ j → walkG L «to» j x = some r → (AV.int x :: r).getLast? = some (.int «to»)
  | 0, x, r, h1, h2, h => by
    cases h
    obtain rfl : x = «to» := by omega
    rfl
  | j + 1, x, r, h1, h2, h => by
    simp only [walkG] at h
    by_cases hc : «to» < x
    · rw [ltI_t hc, cond_true] at h
      cases hf : (farV L x «to»).2 with
      | false => rw [hf] at h; cases h
      | true =>
        rw [hf, cond_true] at h
        obtain ⟨r', h3, rfl⟩ := Option.map_eq_some_iff.1 h
        have hin := farV_in hf
        have := walkG_last h0 j _ r' hin.1 (by omega) h3
        rw [List.getLast?_cons_cons]
        exact this
    · rw [ltI_f hc, cond_false] at h
      cases h
      obtain rfl : x = «to» := by omega
      rfl

/-- A walk that leads somewhere begins and ends as told. -/
theorem walkV_ends {L : List AV} {x «to» : Int} (h : (walkV L x «to»).length ≠ 0) (hlt : «to» < x) : ∃ M, walkV L x «to» = .int x :: (M ++ [.int «to»]) := by
  unfold walkV at h ⊢
  by_cases hc : «to» < 0 ∨ x < «to» ∨ (L.length : Int) ≤ x
  · rw [if_pos hc] at h; exact absurd rfl h
  rw [if_neg hc] at h ⊢
  cases hw : walkG L «to» x.toNat x with
  | none => rw [hw] at h; exact absurd rfl h
  | some r =>
    have hl := walkG_last (by omega) _ _ _ (by omega) (by omega) hw
    show ∃ M, AV.int x :: r = _
    rcases List.eq_nil_or_concat r with rfl | ⟨M, y, rfl⟩
    · simp at hl; omega
    · refine ⟨M, ?_⟩
      rw [List.concat_eq_append, ← List.cons_append, List.getLast?_concat] at hl
      cases hl
      rw [List.concat_eq_append]

theorem between_runs {L : List AV} {a b c : Int} (hL : L.length ≤ 100000) : RunsX 27 [.slice L, .int a, .int b, .int c] ⟨[.slice (betV L a b c)], [], false⟩ := by
  refine RunsX.of_eval 0 ?_
  show ext 27 _ = _
  have e : ext 27 [.slice L, .int a, .int b, .int c] = betweenX [.slice L, .int a, .int b, .int c] := by
    unfold ext
    rw [show assoc extL 27 = some betweenX from by rfl]
    rfl
  rw [e]
  show (bif Nat.ble L.length 100000 then some (⟨[.slice (betV L a b c)], [], false⟩ : Res) else none) = _
  rw [Nat.ble_eq_true_of_le hL, cond_true]

theorem betV_le {L : List AV} {a b c : Int} : (betV L a b c).length ≤ 2 * L.length := by
  have h1 := walkV_le (L := L) (x := a) («to» := b)
  have h2 := walkV_le (L := L) (x := b) («to» := c)
  unfold betV
  split
  · simp
  · simp; omega

theorem three_ints' {l : List AV} (h : l.length = 3) (hy : ∀ (i : Nat) y, l[i]? = some y → (Ty.int .i64).Has y) : ∃ x y z : Int, l = [.int x, .int y, .int z] := by
  match l, h with
  | [p, q, r], _ =>
    obtain ⟨x, rfl, _⟩ := hy 0 p rfl
    obtain ⟨y, rfl, wy⟩ := hy 1 q rfl
    obtain ⟨z, rfl, wz⟩ := hy 2 r rfl
    exact ⟨x, y, z, rfl⟩
end Go.Proofs.YtogehijjhibdkaaGreat.Ev
