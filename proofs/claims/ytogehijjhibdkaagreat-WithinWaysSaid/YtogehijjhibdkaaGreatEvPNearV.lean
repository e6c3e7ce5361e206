/- The entries of a chain's vectors are the ids of the near places. -/
import Derived.Test.YtogehijjhibdkaaGreatEvPLevs
import Derived.Test.YtogehijjhibdkaaGreatEvPDownX
namespace Go.Proofs.YtogehijjhibdkaaGreat.Ev
open Go Go.RowKit

theorem nearV_nonneg {L : List AV} {k : Int} (h0 : k ≤ (nth L 0).toInt) : ∀ i, 1 ≤ i → 0 ≤ nearV L k i
  | 0, h => by omega
  | i + 1, _ => by
    simp only [nearV]
    split
    · omega
    · rename_i h
      by_cases hi : i = 0
      · subst hi; exact absurd h0 h
      · exact nearV_nonneg h0 i (by omega)
theorem nearV_anti {L : List AV} {k m : Int} (h : k ≤ m) : ∀ i, nearV L m i ≤ nearV L k i
  | 0 => by simp [nearV]
  | i + 1 => by
    simp only [nearV]
    have h1 := nearV_anti (L := L) h i
    have h2 := nearV_le L m i
    split
    · rw [if_pos (by omega)]; exact Int.le_refl _
    · split <;> omega

/-- A vector's entries and the near places. -/
structure NearInv (t : List UInt8) (l : List AV) (i n : Nat) : Prop where
  len : (vecV t l i).length = n
  n1 : 1 ≤ n
  n2 : n ≤ 257
  ent : ∀ k, k < n → nth (vecV t l i) k = .blob (idA ((nth l (nearV (levsV t l) (k : Int) i).toNat).fld 0))
  pos : ∀ k, k + 1 < n → nearV (levsV t l) (k : Int) i ≠ 0
  last : nearV (levsV t l) ((n - 1 : Nat) : Int) i = 0

theorem lev0 {t : List UInt8} {l : List AV} (h : 0 < l.length) : (nth (levsV t l) 0).toInt = 256 := by rw [levsV_nth t l h]; rfl
theorem levI {t : List UInt8} {l : List AV} {i : Nat} (h : i < l.length) (h0 : i ≠ 0) : (nth (levsV t l) i).toInt = levelV (idA ((nth l i).fld 0)) t := by rw [levsV_nth t l h, if_neg h0]; rfl
theorem nearInv {t : List UInt8} {l : List AV} (hok : ∀ i, i < l.length → 0 ≤ levelV (idA ((nth l i).fld 0)) t) : ∀ i, i < l.length → ∃ n, NearInv t l (i + 1) n
  | 0, h => by
    have e0 : nearV (levsV t l) 0 1 = 0 := by
      simp only [nearV]
      rw [if_pos (by rw [lev0 h]; omega)]; rfl
    refine ⟨1, rfl, by omega, by omega, fun k hk => ?_, fun k hk => by omega, e0⟩
    obtain rfl : k = 0 := by omega
    rw [show ((0 : Nat) : Int) = 0 from rfl, e0]; rfl
  | i + 1, h => by
    obtain ⟨n, I⟩ := nearInv hok i (by omega)
    have hr := levelV_range (idA ((nth l (i + 1)).fld 0)) t
    have hp := hok (i + 1) h
    obtain ⟨c, hc⟩ : ∃ c : Nat, levelV (idA ((nth l (i + 1)).fld 0)) t = (c : Int) := ⟨(levelV (idA ((nth l (i + 1)).fld 0)) t).toNat, by omega⟩
    have hcl : clampV (levelV (idA ((nth l (i + 1)).fld 0)) t) = c := by unfold clampV; omega
    have hv : vecV t l (i + 1 + 1) = (List.range (max n (c + 2))).map (nextAt (vecV t l (i + 1)) (idA ((nth l (i + 1)).fld 0)) c) := by
      show behindV t (vecV t l (i + 1)) (nth l (i + 1)) (i + 1) = _
      unfold behindV
      rw [if_neg (by omega)]
      unfold nextV
      rw [if_neg (by have := I.len; have := I.n1; omega), hcl, I.len]
    have hstep : ∀ k : Nat, nearV (levsV t l) (k : Int) (i + 1 + 1) = if k ≤ c then ((i + 1 : Nat) : Int) else nearV (levsV t l) (k : Int) (i + 1) := by
      intro k
      rw [show nearV (levsV t l) (k : Int) (i + 1 + 1) = if (k : Int) ≤ (nth (levsV t l) (i + 1)).toInt then ((i + 1 : Nat) : Int) else nearV (levsV t l) (k : Int) (i + 1) from rfl, levI h (by omega), hc]
      by_cases hk : k ≤ c
      · rw [if_pos hk, if_pos (by omega)]
      · rw [if_neg hk, if_neg (by omega)]
    have hz : ∀ k : Nat, n - 1 ≤ k → k ≤ 256 → nearV (levsV t l) (k : Int) (i + 1) = 0 := by
      intro k h1 h2
      have a := nearV_anti (L := levsV t l) (k := ((n - 1 : Nat) : Int)) (m := (k : Int)) (by omega) (i + 1)
      have b := nearV_nonneg (L := levsV t l) (k := (k : Int)) (by rw [lev0 (by omega)]; omega) (i + 1) (by omega)
      rw [I.last] at a
      omega
    have n1 := I.n1
    have n2 := I.n2
    refine ⟨max n (c + 2), by rw [hv]; simp, by omega, by omega, fun k hk => ?_, fun k hk => ?_, ?_⟩
    · rw [hv, nth_range hk, hstep]
      unfold nextAt
      by_cases h1 : k ≤ c
      · rw [if_pos h1, if_pos h1, Int.toNat_natCast]
      · rw [if_neg h1, if_neg h1, I.len]
        by_cases h2 : k < n
        · rw [if_pos h2]; exact I.ent k h2
        · rw [if_neg h2, I.ent (n - 1) (by omega), I.last, hz k (by omega) (by omega)]
    · rw [hstep]
      by_cases h1 : k ≤ c
      · rw [if_pos h1]; omega
      · rw [if_neg h1]; exact I.pos k (by omega)
    · rw [hstep, if_neg (by omega)]
      exact hz _ (by omega) (by omega)

theorem allV_of {L : List AV} {at_ : Int} {n : Nat} (hn : n ≤ 257) (hpos : ∀ k : Nat, k + 1 < n → 0 < nearV L (k : Int) at_.toNat) (hlast : nearV L ((n - 1 : Nat) : Int) at_.toNat = 0) : ∀ (j s : Nat) (acc : List AV) (lv : Int), s + j = 257 → s < n → acc = ((List.range s).map fun k : Nat => AV.int (nearV L (k : Int) at_.toNat)) → lv = (s : Int) →
    allV L at_ acc j lv = (List.range n).map fun k : Nat => AV.int (nearV L (k : Int) at_.toNat)
  | 0, s, _, _, h1, h2, _, _ => by omega
  | j + 1, s, acc, lv, h1, h2, ha, hv => by
    simp only [allV]
    have e : acc ++ [.int (nearV L lv at_.toNat)] = (List.range (s + 1)).map fun k : Nat => AV.int (nearV L (k : Int) at_.toNat) := by
      rw [List.range_succ, List.map_append, List.map_singleton, ha, hv]
    by_cases hs : s + 1 = n
    · have h0 : nearV L lv at_.toNat = 0 := by rw [hv, show s = n - 1 by omega]; exact hlast
      rw [if_neg (by omega), if_pos h0, e, hs]
    · have h0 := hpos s (by omega)
      rw [← hv] at h0
      rw [if_neg (by omega), if_neg (by omega)]
      exact allV_of hn hpos hlast j (s + 1) _ _ (by omega) (by omega) e (by omega)
theorem allOf_near {t : List UInt8} {l : List AV} {i n : Nat} (hi : i < l.length) (I : NearInv t l (i + 1) n) : allOf (levsV t l) ((i + 1 : Nat) : Int) = (List.range n).map fun k : Nat => AV.int (nearV (levsV t l) (k : Int) (i + 1)) := by
  have n2 := I.n2
  have hp : ∀ k : Nat, k + 1 < n → 0 < nearV (levsV t l) (k : Int) (((i + 1 : Nat) : Int)).toNat := by
    intro k hk
    rw [Int.toNat_natCast]
    have a := I.pos k hk
    have b := nearV_nonneg (L := levsV t l) (k := (k : Int)) (by rw [lev0 (by omega)]; omega) (i + 1) (by omega)
    omega
  have hl : nearV (levsV t l) ((n - 1 : Nat) : Int) (((i + 1 : Nat) : Int)).toNat = 0 := by rw [Int.toNat_natCast]; exact I.last
  have := allV_of (at_ := ((i + 1 : Nat) : Int)) n2 hp hl 257 0 [] 0 (by omega) (by have := I.n1; omega) rfl rfl
  unfold allOf
  rw [if_neg (by omega), if_neg (by rw [levsV_len]; omega), this]
  simp only [Int.toNat_natCast]
theorem lvN_ge (x t : Nat) : ∀ j n : Nat, (n : Int) - 1 ≤ lvN x t j n
  | 0, n => by simp only [lvN]; omega
  | j + 1, n => by
    simp only [lvN]
    have := lvN_ge x t j (n + 1)
    split <;> omega
theorem levelV_ok {id t : List UInt8} (h : okV id t = true) : 0 ≤ levelV id t := by
  have h1 : natN id ≤ natN t := of_decide_eq_true h
  unfold levelV
  have e : lvN (natN id) (natN t) 256 0 = if natN t / 2 ^ 0 < natN id then ((0 : Nat) : Int) - 1 else lvN (natN id) (natN t) 255 (0 + 1) := rfl
  rw [e, if_neg (by rw [Nat.pow_zero, Nat.div_one]; omega)]
  have := lvN_ge (natN id) (natN t) 255 (0 + 1)
  omega

section
variable {gh : Int} {gl gt : List UInt8} {gn : Int} {t : List UInt8} {c1 c2 c3 c4 c5 c6 : Int}
theorem chain_levels {l : List AV} (h : ∀ k, k < l.length → blkErr gh gl gt gn t l k = 0) : ∀ i, i < l.length → 0 ≤ levelV (idA ((nth l i).fld 0)) t := by
  intro i hi
  have h1 := h i hi
  by_cases ha : ancV gh gl gt gn ((nth l i).fld 0) i = 0
  · by_cases hf : formV (nth l i) i (vecV t l i) = 0
    · rw [blkErr_o (eqI_t ha) (eqI_t hf)] at h1
      cases hk : okV (idA ((nth l i).fld 0)) t
      · rw [hk, not_f, cond_true] at h1; exact absurd h1 (by decide)
      · exact levelV_ok hk
    · rw [blkErr_f (eqI_t ha) (eqI_f hf)] at h1; exact absurd h1 hf
  · rw [blkErr_a (eqI_f ha)] at h1; exact absurd h1 ha
theorem chainV_zero' {l : List AV} (h : ((chainV gh gl gt gn t l).fld 0).toInt = 0) : 1 ≤ l.length ∧ l.length ≤ 1024 ∧ ∀ k, k < l.length → blkErr gh gl gt gn t l k = 0 := by
  by_cases h0 : l.length = 0
  · unfold chainV at h
    rw [if_pos h0] at h
    exact absurd (show (6 : Int) = 0 from h) (by decide)
  by_cases h1 : 1024 < l.length
  · unfold chainV at h
    rw [if_neg h0, if_pos h1] at h
    exact absurd (show (4 : Int) = 0 from h) (by decide)
  rcases chainV_spec (gh := gh) (gl := gl) (gt := gt) (gn := gn) (t := t) (l := l) (by omega) (by omega) with ⟨h2, h3⟩ | ⟨k, h2, h3, h4, h5⟩
  · exact ⟨by omega, by omega, h3⟩
  · rw [h4] at h
    exact absurd (show blkErr gh gl gt gn t l k = 0 from h) h3

end
end Go.Proofs.YtogehijjhibdkaaGreat.Ev
