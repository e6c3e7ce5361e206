/- The laws PickPicks and PickBegins. -/
import Derived.Test.YtogehijjhibdkaaGreatEvPPick
namespace Go.Proofs.YtogehijjhibdkaaGreat.Ev
open Go Go.RowKit

theorem same_self {X : List AV} (hX : X.length ≤ 100000) : RunsX 20 [.slice X, .slice X] ⟨[.bool true], [], false⟩ := by
  refine Evt.succ ((Evt.ge (X.length + 2)).mono fun n hn => ?_)
  have key : ∀ (j k i : Nat), i + j = X.length → j < k → f20_l0 (runE G ext n) n k X X (i : Int) = some ⟨[.bool true], [], false⟩ := by
    intro j
    induction j with
    | zero =>
      intro k i hi hk
      obtain ⟨k, rfl⟩ : ∃ j, k = j + 1 := ⟨k - 1, by omega⟩
      rw [f20_l0_eq, ltI_f (by omega), cond_false]; rfl
    | succ j ih =>
      intro k i hi hk
      obtain ⟨k, rfl⟩ : ∃ j, k = j + 1 := ⟨k - 1, by omega⟩
      have ih' := ih k (i + 1) (by omega) (by omega)
      rw [f20_l0_eq, ltI_t (by omega), cond_true, inR_nat (by omega), cond_true, cond_true, eqI_t rfl, not_t, cond_false, w64 (x := (i : Int) + 1) (by omega) (by omega), show (i : Int) + 1 = ((i + 1 : Nat) : Int) by omega, ih']
  rw [f20_run, f20_eq, eqI_t rfl, not_t, cond_false]
  exact key X.length n 0 (by omega) (by omega)

theorem pickAwake : RunsX 12 [] ⟨[.bool true], [], false⟩ := by
  have h1 := pick_runs (L := [.int 256, .int 0, .int 0]) (m := 1) (k := 1) (a := 1) (b := 2) (by simp)
  rw [show pickV [.int 256, .int 0, .int 0] 1 1 1 2 = [.int 0, .int 1] by kernel_rfl] at h1
  have h2 := mayP_runs (m := 1) (k := 1) (a := 1) (b := 2)
  rw [show mayP 1 1 1 2 = true by decide] at h2
  have h3 := mayP_runs (m := 0) (k := 1) (a := 1) (b := 2)
  rw [show mayP 0 1 1 2 = false by decide] at h3
  refine Evt.succ (((h1.and (same_self (X := [.int 0, .int 1]) (by simp))).and (h2.and h3)).mono fun n h => ?_)
  obtain ⟨⟨g1, g2⟩, g3, g4⟩ := h
  rw [f12_run, f12_eq, g1, step1f, toSlice_s, g2, step1, toBool_b, cond_true, g3, step1, toBool_b, cond_true, g4]; rfl

theorem topF_low {L : List AV} {N : Nat} (h : ∀ i, 1 ≤ i → i < L.length → lev L i ≤ 6) : ∀ i, i ≤ N → N ≤ L.length → topF (L.take N) i ≤ 6
  | 0, _, _ => by show (0 : Int) ≤ 6; omega
  | i + 1, h1, h2 => by
    have ih := topF_low h i (by omega) h2
    have e : lev (L.take N) i = lev L i := by
      unfold lev nth
      rw [List.getD_eq_getElem?_getD, List.getD_eq_getElem?_getD, List.getElem?_take, if_pos (by omega)]
    simp only [topF]
    split
    · have := h i (by omega) (by omega)
      rw [e]; omega
    · exact ih

theorem two_ints {l : List AV} (h : l.length = 2) (hy : ∀ (i : Nat) y, l[i]? = some y → (Ty.int .i64).Has y) : ∃ x y : Int, l = [.int x, .int y] ∧ (-9223372036854775808 ≤ x ∧ x ≤ 9223372036854775807) := by
  match l, h with
  | [p, q], _ =>
    obtain ⟨x, rfl, wx⟩ := hy 0 p rfl
    obtain ⟨y, rfl, _⟩ := hy 1 q rfl
    exact ⟨x, y, rfl, wf64 wx⟩
theorem three_ints {l : List AV} (h : l.length = 3) (hy : ∀ (i : Nat) y, l[i]? = some y → (Ty.int .i64).Has y) : ∃ x y z : Int, l = [.int x, .int y, .int z] ∧ (-9223372036854775808 ≤ y ∧ z ≤ 9223372036854775807) := by
  match l, h with
  | [p, q, r], _ =>
    obtain ⟨x, rfl, _⟩ := hy 0 p rfl
    obtain ⟨y, rfl, wy⟩ := hy 1 q rfl
    obtain ⟨z, rfl, wz⟩ := hy 2 r rfl
    exact ⟨x, y, z, rfl, (wf64 wy).1, (wf64 wz).2⟩
end Go.Proofs.YtogehijjhibdkaaGreat.Ev
