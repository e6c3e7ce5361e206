/- What is opened climbs to the top. -/
import Derived.Test.YtogehijjhibdkaaGreatEvPHold
namespace Go.Proofs.YtogehijjhibdkaaGreat.Ev
open Go Go.RowKit

theorem topV_more : ∀ (k : Nat) (l : List AV), l.length ≤ k → topV (k + 1) l = topV k l
  | 0, l, h => by
    have : l.length = 0 := by omega
    simp only [topV, if_pos this]
  | k + 1, l, h => by
    rw [topV]
    conv => rhs; rw [topV]
    by_cases h0 : l.length = 0
    · rw [if_pos h0, if_pos h0]
    · by_cases h1 : l.length = 1
      · rw [if_neg h0, if_neg h0, if_pos h1, if_pos h1]
      · obtain ⟨p1, p2⟩ := leftV_range (n := (l.length : Int)) (by omega)
        rw [if_neg h0, if_neg h0, if_neg h1, if_neg h1, topV_more k (l.take (leftV (l.length : Int)).toNat) (by rw [List.length_take]; omega), topV_more k (l.drop (leftV (l.length : Int)).toNat) (by rw [List.length_drop]; omega)]
theorem topV_at (k : Nat) (l : List AV) (h : l.length ≤ k) : topV k l = topV l.length l := by
  obtain ⟨d, rfl⟩ : ∃ d, k = l.length + d := ⟨k - l.length, by omega⟩
  clear h
  induction d with
  | zero => rfl
  | succ d ih => rw [show l.length + (d + 1) = (l.length + d) + 1 by omega, topV_more _ _ (by omega), ih]

theorem open_climbs : ∀ (k : Nat) (l : List AV) (i : Int), l.length ≤ k → 0 ≤ i → i < l.length → climb ((sidesV k (l.length : Int) i).zip (pathV k l i)) (nth l i.toNat).toBlob = topV k l
  | 0, l, i, hk, h0, h1 => by omega
  | k + 1, l, i, hk, h0, h1 => by
    simp only [sidesV, pathV, topV]
    by_cases h2 : l.length < 2
    · have hl : l.length = 1 := by omega
      have hi : i = 0 := by omega
      subst hi
      rw [if_pos (show (l.length : Int) < 2 by omega), if_pos h2, if_neg (show ¬ l.length = 0 by omega), if_pos hl]; rfl
    · obtain ⟨p1, p2⟩ := leftV_range (n := (l.length : Int)) (by omega)
      have pe : (leftV (l.length : Int)) = (((leftV (l.length : Int)).toNat : Nat) : Int) := by omega
      rw [if_neg (show ¬ (l.length : Int) < 2 by omega), if_neg h2, if_neg (show ¬ l.length = 0 by omega), if_neg (show ¬ l.length = 1 by omega)]
      generalize (leftV (l.length : Int)).toNat = p at pe
      rw [pe] at p1 p2 ⊢
      have la : (l.take p).length = p := by simp; omega
      have lb : (l.drop p).length = l.length - p := by simp
      have lb2 : (((l.drop p).length : Nat) : Int) = (l.length : Int) - (p : Int) := by rw [lb]; omega
      by_cases hi : i < (p : Int)
      · rw [if_pos hi, if_pos hi]
        have ih := open_climbs k (l.take p) i (by omega) h0 (by omega)
        have ps := path_sides k (l.take p) i (by omega)
        rw [la] at ih ps
        rw [List.zip_append ps.symm]
        rw [show ([AV.bool false].zip [AV.blob (topV (l.length - p) (l.drop p))]) = [(AV.bool false, AV.blob (topV (l.length - p) (l.drop p)))] from rfl, climb_snoc]
        have en : nth (l.take p) i.toNat = nth l i.toNat := by
          rw [nth_lt (by omega), nth_lt (by omega), List.getElem_take]
        rw [en] at ih
        rw [ih]
        show nodeH _ (topV (l.length - p) (l.drop p)) = _
        rw [topV_at k (l.drop p) (by omega), lb]
      · rw [if_neg hi, if_neg hi]
        have ih := open_climbs k (l.drop p) (i - p) (by omega) (by omega) (by omega)
        have ps := path_sides k (l.drop p) (i - p) (by omega)
        rw [lb2] at ih ps
        rw [List.zip_append ps.symm]
        rw [show ([AV.bool true].zip [AV.blob (topV p (l.take p))]) = [(AV.bool true, AV.blob (topV p (l.take p)))] from rfl, climb_snoc]
        have en : nth (l.drop p) (i - p).toNat = nth l i.toNat := by
          rw [nth_lt (by omega), nth_lt (by omega), List.getElem_drop]
          congr 1
          omega
        rw [en] at ih
        rw [ih]
        show nodeH (topV p (l.take p)) _ = _
        rw [topV_at k (l.take p) (by omega), la]

theorem pathV_blob : ∀ (k : Nat) (l : List AV) (i : Int), Blob32 l → Blob32 (pathV k l i)
  | 0, _, _, _ => fun y hy => by cases hy
  | k + 1, l, i, h => by
    simp only [pathV]
    have ha : ∀ p, Blob32 (l.take p) := fun p y hy => h y (List.mem_of_mem_take hy)
    have hb : ∀ p, Blob32 (l.drop p) := fun p y hy => h y (List.mem_of_mem_drop hy)
    split
    · intro y hy; cases hy
    · split
      · intro y hy
        rcases List.mem_append.1 hy with h1 | h1
        · exact pathV_blob k _ i (ha _) y h1
        · rw [List.mem_singleton] at h1
          exact ⟨_, h1, topV_len _ _ (hb _)⟩
      · intro y hy
        rcases List.mem_append.1 hy with h1 | h1
        · exact pathV_blob k _ _ (hb _) y h1
        · rw [List.mem_singleton] at h1
          exact ⟨_, h1, topV_len _ _ (ha _)⟩

/-- What is opened. -/
def pathL (l : List AV) (i : Int) : List AV := pathV l.length (leavesV l) i
theorem pathL_blob (l : List AV) (i : Int) : Blob32 (pathL l i) := pathV_blob _ _ _ (leavesV_blob l)
theorem pathL_len (l : List AV) (i : Int) : (pathL l i).length = (sidesV l.length (l.length : Int) i).length := by
  have := path_sides l.length (leavesV l) i (by rw [leavesV_len]; omega)
  rwa [leavesV_len] at this
theorem opened_may {l : List AV} {i : Int} (hl : l.length ≤ 1048576) (h0 : 0 ≤ i) (h1 : i < l.length) : mayH i (l.length : Int) (pathL l i) = 0 := by
  unfold mayH
  rw [if_neg (by omega), if_pos]
  rw [pathL_len, Int.toNat_natCast]
theorem opened_climbs {l : List AV} {i : Int} (h0 : 0 ≤ i) (h1 : i < l.length) : climb (waysH i (l.length : Int) (pathL l i)) (leafH (nth l i.toNat).toStr) = topV l.length (leavesV l) := by
  have e : (nth (leavesV l) i.toNat).toBlob = leafH (nth l i.toNat).toStr := by
    rw [nth_lt (l := leavesV l) (by rw [leavesV_len]; omega), nth_lt (l := l) (by omega)]
    simp only [leavesV, List.getElem_map]
    rfl
  have := open_climbs l.length (leavesV l) i (by rw [leavesV_len]; omega) h0 (by rw [leavesV_len]; omega)
  rw [leavesV_len, e] at this
  unfold waysH pathL
  rw [Int.toNat_natCast]
  exact this
theorem opened_told {l : List AV} {i : Int} (hl : l.length ≤ 1048576) (h0 : 0 ≤ i) (h1 : i < l.length) : toldH (nth l i.toNat).toStr i (l.length : Int) (pathL l i) = rootV l := by
  unfold toldH
  rw [if_pos (opened_may hl h0 h1), opened_climbs h0 h1, Int.toNat_natCast]; rfl
theorem opened_check {l : List AV} {i : Int} (hl : l.length ≤ 1048576) (h0 : 0 ≤ i) (h1 : i < l.length) : checkH (rootV l) (nth l i.toNat).toStr i (l.length : Int) (pathL l i) = true := by
  unfold checkH
  rw [eqI_t (opened_may hl h0 h1), opened_told hl h0 h1, eqS_t rfl]; rfl
theorem openV_in {l : List AV} {i : Int} (h0 : 0 ≤ i) (h1 : i < l.length) : openV l i = [.agg [.int i, .int (l.length : Int), .slice (pathL l i)], .int 0] := by
  unfold openV
  rw [if_neg (by omega)]; rfl
theorem openV_out {l : List AV} {i : Int} (h : ¬ (0 ≤ i ∧ i < l.length)) : openV l i = [.agg [.int 0, .int 0, .slice []], .int 3] := by
  unfold openV
  rw [if_pos (by omega)]

end Go.Proofs.YtogehijjhibdkaaGreat.Ev
