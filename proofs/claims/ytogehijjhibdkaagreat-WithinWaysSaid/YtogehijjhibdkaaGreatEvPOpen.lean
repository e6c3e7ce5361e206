/- Openings: both programs tell the same. -/
import Derived.Test.YtogehijjhibdkaaGreatEvPRoots
namespace Go.Proofs.YtogehijjhibdkaaGreat.Ev
open Go Go.RowKit

/-- The sums beside the way from a leaf up. -/
def pathV : Nat → List AV → Int → List AV
  | 0, _, _ => []
  | k + 1, l, i => if l.length < 2 then [] else
    if i < leftV l.length then pathV k (l.take (leftV l.length).toNat) i ++ [.blob (topV (l.length - (leftV l.length).toNat) (l.drop (leftV l.length).toNat))]
    else pathV k (l.drop (leftV l.length).toNat) (i - leftV l.length) ++ [.blob (topV (leftV l.length).toNat (l.take (leftV l.length).toNat))]

theorem pathV_len : ∀ (k : Nat) (l : List AV) (i : Int), (pathV k l i).length ≤ k
  | 0, _, _ => Nat.le_refl _
  | k + 1, l, i => by
    simp only [pathV]
    split
    · simp
    · split
      · have := pathV_len k (l.take (leftV l.length).toNat) i
        simp; omega
      · have := pathV_len k (l.drop (leftV l.length).toNat) (i - leftV l.length)
        simp; omega

theorem path_runs : ∀ (k : Nat) (l : List AV) (i : Int), l.length ≤ k → k ≤ 100000 → 0 ≤ i → i < l.length → Blob32 l → RunsX 133 [.slice l, .int i] ⟨[.slice (pathV k l i)], [], true⟩
  | 0, l, i, hk, _, h0, h1, _ => by omega
  | k + 1, l, i, hk, hk2, h0, h1, h => by
    simp only [pathV]
    by_cases h2 : l.length < 2
    · refine Evt.succ (.of fun n => ?_)
      rw [if_pos h2, f133_run, f133_eq, ltI_t (by omega)]; rfl
    · rw [if_neg h2]
      obtain ⟨p1, p2⟩ := leftV_range (n := (l.length : Int)) (by omega)
      have pe : (leftV (l.length : Int)) = (((leftV (l.length : Int)).toNat : Nat) : Int) := by omega
      have hL := fun m hm => left_at m hm (n := (l.length : Int)) (by omega)
      generalize (leftV (l.length : Int)).toNat = p at pe
      rw [pe] at hL p1 p2 ⊢
      have la : (l.take p).length = p := by simp; omega
      have lb : (l.drop p).length = l.length - p := by simp
      have ha : Blob32 (l.take p) := fun y hy => h y (List.mem_of_mem_take hy)
      have hb : Blob32 (l.drop p) := fun y hy => h y (List.mem_of_mem_drop hy)
      have b1 : boundsOk 0 (p : Int) (l.length : Int) (l.length : Int) = true := by simp [boundsOk]; omega
      have b2 : boundsOk (p : Int) (l.length : Int) (l.length : Int) (l.length : Int) = true := by simp [boundsOk]; omega
      by_cases hi : i < (p : Int)
      · rw [if_pos hi]
        have r1 := path_runs k (l.take p) i (by omega) (by omega) h0 (by omega) ha
        have r2 := top_runs (l.length - p) (l.drop p) (by omega) (by omega) hb
        have t := pathV_len k (l.take p) i
        generalize pathV k (l.take p) i = x at r1 t
        refine Evt.succ (((r1.and r2).and (Evt.ge 200)).mono fun n hn => ?_)
        obtain ⟨⟨g1, g2⟩, g3⟩ := hn
        obtain ⟨m, rfl⟩ : ∃ m, n = m + 1 := ⟨n - 1, by omega⟩
        rw [f133_run, f133_eq, ltI_f (by omega), cond_false, hL m (by omega), step1, toInt_i, ltI_t hi, cond_true, b1, b2, Int.toNat_natCast, Int.toNat_natCast, List.drop_zero, List.take_length, Bool.and_true, cond_true, g1, step1f, cond_true, g2, step1, toSlice_s, show Nat.ble ((x.length + 1) * 32) 140737488355328 = true from Nat.ble_eq_true_of_le (by omega), cond_true]
        rfl
      · rw [if_neg hi]
        have r1 := path_runs k (l.drop p) (i - p) (by omega) (by omega) (by omega) (by omega) hb
        have r2 := top_runs p (l.take p) (by omega) (by omega) ha
        have t := pathV_len k (l.drop p) (i - p)
        generalize pathV k (l.drop p) (i - p) = x at r1 t
        refine Evt.succ (((r1.and r2).and (Evt.ge 200)).mono fun n hn => ?_)
        obtain ⟨⟨g1, g2⟩, g3⟩ := hn
        obtain ⟨m, rfl⟩ : ∃ m, n = m + 1 := ⟨n - 1, by omega⟩
        rw [f133_run, f133_eq, ltI_f (by omega), cond_false, hL m (by omega), step1, toInt_i, ltI_f hi, cond_false, b1, b2, Int.toNat_natCast, Int.toNat_natCast, List.drop_zero, List.take_length, Bool.and_true, cond_true, w64 (x := i - p) (by omega) (by omega), g1, step1f, cond_true, g2, step1, toSlice_s, show Nat.ble ((x.length + 1) * 32) 140737488355328 = true from Nat.ble_eq_true_of_le (by omega), cond_true]
        rfl

theorem sidesV_len : ∀ (k : Nat) (n i : Int), (sidesV k n i).length ≤ k
  | 0, _, _ => Nat.le_refl _
  | k + 1, n, i => by
    simp only [sidesV]
    split
    · simp
    · split
      · have := sidesV_len k (leftV n) i
        simp; omega
      · have := sidesV_len k (n - leftV n) (i - leftV n)
        simp; omega

/-- As many sums as steps. -/
theorem path_sides : ∀ (k : Nat) (l : List AV) (i : Int), l.length ≤ k → (pathV k l i).length = (sidesV k (l.length : Int) i).length
  | 0, _, _, _ => rfl
  | k + 1, l, i, hk => by
    simp only [pathV, sidesV]
    by_cases h2 : l.length < 2
    · rw [if_pos h2, if_pos (show (l.length : Int) < 2 by omega)]
    · obtain ⟨p1, p2⟩ := leftV_range (n := (l.length : Int)) (by omega)
      rw [if_neg h2, if_neg (show ¬ (l.length : Int) < 2 by omega)]
      have la : (((l.take (leftV (l.length : Int)).toNat).length : Nat) : Int) = leftV (l.length : Int) := by rw [List.length_take]; omega
      have lb : (((l.drop (leftV (l.length : Int)).toNat).length : Nat) : Int) = (l.length : Int) - leftV (l.length : Int) := by rw [List.length_drop]; omega
      by_cases hi : i < leftV (l.length : Int)
      · have := path_sides k (l.take (leftV (l.length : Int)).toNat) i (by omega)
        rw [la] at this
        simp only [if_pos hi, List.length_append, this]
        rfl
      · have := path_sides k (l.drop (leftV (l.length : Int)).toNat) (i - leftV (l.length : Int)) (by omega)
        rw [lb] at this
        simp only [if_neg hi, List.length_append, this]
        rfl

/-- What opens a leaf, and why nothing does. -/
def openV (l : List AV) (i : Int) : List AV :=
  if i < 0 ∨ (l.length : Int) ≤ i then [.agg [.int 0, .int 0, .slice []], .int 3] else [.agg [.int i, .int (l.length : Int), .slice (pathV l.length (leavesV l) i)], .int 0]

theorem open_runs {l : List AV} {i : Int} (hl : l.length ≤ 100000) (hs : Short l) : RunsX 98 [.slice l, .int i] ⟨openV l i, [], false⟩ := by
  unfold openV
  by_cases h0 : i < 0
  · refine Evt.succ (.of fun n => ?_)
    rw [if_pos (.inl h0), f98_run, f98_eq, ltI_f (by omega), ltI_t h0]; rfl
  · by_cases h1 : (l.length : Int) ≤ i
    · refine Evt.succ (.of fun n => ?_)
      rw [if_pos (.inr h1), f98_run, f98_eq, ltI_f (by omega), ltI_f h0, leI_t h1]; rfl
    · have r1 := leaves_runs hl hs
      have r2 := path_runs l.length (leavesV l) i (by rw [leavesV_len]; omega) (by omega) (by omega) (by rw [leavesV_len]; omega) (leavesV_blob l)
      refine Evt.succ ((r1.and r2).mono fun n hn => ?_)
      rw [if_neg (by omega), f98_run, f98_eq, ltI_f (by omega), ltI_f h0, leI_f h1, cond_false, cond_false, cond_false, hn.1, step1f, toSlice_s, hn.2, step1f, toSlice_s]
      rfl

/- the same -/
def eqB (l m : List AV) : Nat → Nat → Bool
  | 0, _ => true
  | j + 1, i => eqS (nth l i).toBlob (nth m i).toBlob && eqB l m j (i + 1)

theorem eqB_refl (l : List AV) : ∀ j i, eqB l l j i = true
  | 0, _ => rfl
  | j + 1, i => by simp only [eqB]; rw [eqS_t rfl, eqB_refl l j]; rfl

theorem same_l0 (run : Run) (n : Nat) (a b c d : Int) (l m : List AV) (hl : l.length ≤ 100) (hm : l.length = m.length) : ∀ (j k i : Nat), i + j = l.length → j < k →
    f135_l0 run n k (l.length : Int) (i : Int) a b l c d m = some ⟨[.bool (eqB l m j i)], [], false⟩ := by
  intro j
  induction j with
  | zero =>
    intro k i hi hk
    obtain ⟨k, rfl⟩ : ∃ j, k = j + 1 := ⟨k - 1, by omega⟩
    rw [f135_l0_eq, ltI_f (by omega)]; rfl
  | succ j ih =>
    intro k i hi hk
    obtain ⟨k, rfl⟩ : ∃ j, k = j + 1 := ⟨k - 1, by omega⟩
    have ih' := ih k (i + 1) (by omega) (by omega)
    rw [show ((i + 1 : Nat) : Int) = (i : Int) + 1 by omega] at ih'
    rw [f135_l0_eq, ltI_t (by omega), cond_true, inR_nat (by omega), inR_nat (by omega), cond_true, cond_true, Int.toNat_natCast, w64 (by omega) (by omega), ih']
    simp only [eqB]
    cases eqS (nth l i).toBlob (nth m i).toBlob <;> rfl

def sameB (a b : Int) (l : List AV) (c d : Int) (m : List AV) : Bool := eqI a c && (eqI b d && (eqI (l.length : Int) (m.length : Int) && eqB l m l.length 0))

theorem same_runs {a b c d : Int} {l m : List AV} (hl : l.length ≤ 100) : RunsX 135 [.agg [.int a, .int b, .slice l], .agg [.int c, .int d, .slice m]] ⟨[.bool (sameB a b l c d m)], [], false⟩ := by
  refine Evt.succ ((Evt.ge 200).mono fun n hn => ?_)
  unfold sameB
  rw [f135_run, f135_eq]
  by_cases h1 : a = c
  · rw [eqI_t h1, not_t, cond_false, Bool.true_and]
    by_cases h2 : b = d
    · rw [eqI_t h2, not_t, cond_false, Bool.true_and]
      by_cases h3 : (l.length : Int) = (m.length : Int)
      · rw [eqI_t h3, not_t, cond_false, Bool.true_and]
        exact same_l0 _ n a b c d l m hl (by omega) l.length n 0 (by omega) (by omega)
      · rw [eqI_f h3, not_f, cond_true]; rfl
    · rw [eqI_f h2, not_f, cond_true]; rfl
  · rw [eqI_f h1, not_f, cond_true]; rfl

theorem sameB_refl (a b : Int) (l : List AV) : sameB a b l a b l = true := by
  unfold sameB
  rw [eqI_t rfl, eqI_t rfl, eqI_t rfl, eqB_refl]; rfl

end Go.Proofs.YtogehijjhibdkaaGreat.Ev
