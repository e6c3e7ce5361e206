/- Opening several leaves: both programs tell the same. -/
import Derived.Test.YtncajhkogppojaaEvPMulX
import Derived.Test.YtncajhkogppojaaEvPOpen
namespace Go.Proofs.Ytncajhkogppojaa.Ev
open Go Go.RowKit

def cut (L : List AV) (a b : Nat) : List AV := (L.take b).drop a
theorem cut_len {L : List AV} {a b : Nat} (h1 : a ≤ b) (h2 : b ≤ L.length) : (cut L a b).length = b - a := by simp [cut]; omega
theorem cut_take {L : List AV} {a s p : Nat} (hp : p ≤ s) : (cut L a (a + s)).take p = cut L a (a + p) := by
  unfold cut
  rw [List.take_drop, List.take_take, show min (a + p) (a + s) = a + p by omega]
theorem cut_drop (L : List AV) (a s p : Nat) : (cut L a (a + s)).drop p = cut L (a + p) (a + s) := by
  unfold cut
  rw [List.drop_drop]
theorem cut_blob {L : List AV} (h : Blob32 L) (a b : Nat) : Blob32 (cut L a b) := fun y hy => h y (List.mem_of_mem_take (List.mem_of_mem_drop hy))

/-- Places that rise. -/
theorem rising_facts {P : List Int} {n : Int} (h : risV P n P.length 0 = true) : 0 < P.length ∧ 1 ≤ n ∧ P.Pairwise (· < ·) ∧ sub_ P 0 n = P := by
  obtain ⟨hp, hall⟩ := risV_of P.length 0 (by omega) h
  have hr0 : ∀ x ∈ P, 0 ≤ x ∧ x < n := by
    intro x hx
    obtain ⟨i, hi, rfl⟩ := List.getElem_of_mem hx
    have := hall i (by omega) hi
    rw [gd hi] at this
    exact ⟨this.1, this.2.1⟩
  refine ⟨hp, by have := hall 0 (by omega) hp; omega, pairwise_of fun m h3 h4 => (hall m (by omega) h3).2.2 h4, ?_⟩
  unfold sub_
  rw [List.filter_eq_self.2 (fun x hx => by have := hr0 x hx; simp [inB, this])]
  simp

end Go.Proofs.Ytncajhkogppojaa.Ev
