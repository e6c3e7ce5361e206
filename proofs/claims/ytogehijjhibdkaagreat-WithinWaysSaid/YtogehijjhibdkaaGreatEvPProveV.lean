/- The proof of a chain: walks along entries of vectors, and their steps. -/
import Derived.Test.YtogehijjhibdkaaGreatEvPJoined
import Derived.Test.YtogehijjhibdkaaGreatEvPProve
import Derived.Test.YtogehijjhibdkaaGreatEvPValid
namespace Go.Proofs.YtogehijjhibdkaaGreat.Ev
open Go Go.RowKit

/- what a chain without a fault tells of each block -/
structure BlkOk (t : List UInt8) (l : List AV) (i : Nat) : Prop where
  height : (((nth l i).fld 0).fld 0).toInt = (i : Int)
  links : (((nth l i).fld 0).fld 1).toBlob = linkR (vecV t l i)
  roots : (((nth l i).fld 0).fld 2).toBlob = txR (((nth l i).fld 1).toSlice)
  txs : mayV (((nth l i).fld 1).toSlice) = 0
  ok : okV (idA ((nth l i).fld 0)) t = true

section
variable {gh : Int} {gl gt : List UInt8} {gn : Int} {t : List UInt8} {l : List AV}
theorem blk_ok {i : Nat} (h : blkErr gh gl gt gn t l i = 0) : BlkOk t l i := by
  by_cases ha : ancV gh gl gt gn ((nth l i).fld 0) i = 0
  · by_cases hf : formV (nth l i) i (vecV t l i) = 0
    · rw [blkErr_o (eqI_t ha) (eqI_t hf)] at h
      have hk : okV (idA ((nth l i).fld 0)) t = true := by
        cases hk : okV (idA ((nth l i).fld 0)) t
        · rw [hk, not_f, cond_true] at h; exact absurd h (by decide)
        · rfl
      unfold formV checkV at hf
      by_cases h1 : (((nth l i).fld 0).fld 0).toInt = (i : Int)
      · rw [eqI_t h1, cond_true] at hf
        by_cases h2 : mayV (((nth l i).fld 1).toSlice) = 0
        · rw [eqI_t h2, cond_true] at hf
          cases hc : eqS (linkR (vecV t l i)) (((nth l i).fld 0).fld 1).toBlob && eqS (txR (((nth l i).fld 1).toSlice)) (((nth l i).fld 0).fld 2).toBlob with
          | false => rw [hc, cond_false] at hf; exact absurd hf (by decide)
          | true =>
            rw [Bool.and_eq_true] at hc
            exact ⟨h1, (eqS_iff.1 hc.1).symm, (eqS_iff.1 hc.2).symm, h2, hk⟩
        · rw [eqI_f h2, cond_false] at hf; exact absurd hf h2
      · rw [eqI_f h1, cond_false] at hf; exact absurd hf (by decide)
    · rw [blkErr_f (eqI_t ha) (eqI_f hf)] at h; exact absurd h hf
  · rw [blkErr_a (eqI_f ha)] at h; exact absurd h ha
theorem blk_anchor (h : blkErr gh gl gt gn t l 0 = 0) : (eqI (((nth l 0).fld 0).fld 0).toInt gh && (eqS (((nth l 0).fld 0).fld 1).toBlob gl && (eqS (((nth l 0).fld 0).fld 2).toBlob gt && (eqI (((nth l 0).fld 0).fld 3).toInt gn && true)))) = true := by
  by_cases ha : ancV gh gl gt gn ((nth l 0).fld 0) 0 = 0
  · unfold ancV at ha
    rw [eqI_t (show ((0 : Nat) : Int) = 0 from rfl), cond_true] at ha
    cases hc : (eqI (((nth l 0).fld 0).fld 0).toInt gh && (eqS (((nth l 0).fld 0).fld 1).toBlob gl && (eqS (((nth l 0).fld 0).fld 2).toBlob gt && (eqI (((nth l 0).fld 0).fld 3).toInt gn && true)))) with
    | false => rw [hc, not_f, cond_true] at ha; exact absurd ha (by decide)
    | true => rfl
  · rw [blkErr_a (eqI_f ha)] at h; exact absurd h ha
end

/-- What link.Open hands out leads to the id. -/
theorem lead_open {v : List AV} {n : Nat} (hb : Blob32 v) (hn : n < v.length) (h257 : v.length ≤ 257) : leadsV (linkR v) (nth v n).toBlob (n : Int) (v.length : Int) (pathL (linkT v) (n : Int)) = true := by
  have h32 := blob_at hb (i := n) hn
  unfold leadsV
  have := opened_check (l := linkT v) (i := (n : Int)) (by rw [linkT_len]; omega) (by omega) (by rw [linkT_len]; omega)
  have e : (nth (linkT v) (n : Int).toNat).toStr = [76] ++ (nth v n).toBlob := by
    rw [Int.toNat_natCast, nth_lt (by rw [linkT_len]; omega), nth_lt hn]
    simp only [linkT, List.getElem_map]; rfl
  rw [e, linkT_len] at this
  unfold linkR
  rw [this, leI_t (by omega)]
  rfl

/-- Places of a chain, each led to by the one behind it. -/
structure WalkP (t : List UInt8) (l ps : List AV) (p : Nat → Nat) : Prop where
  at_ : ∀ i, i < ps.length → nth ps i = .int (p i : Int)
  lt : ∀ i, i < ps.length → p i < l.length
  next : ∀ i, i + 1 < ps.length → p i < p (i + 1) ∧ ∃ k, k < (allOf (levsV t l) (p (i + 1) : Int)).length ∧ nth (allOf (levsV t l) (p (i + 1) : Int)) k = .int (p i : Int)

section
variable {t : List UInt8} {l ps : List AV} {p : Nat → Nat}
theorem opP_at (W : WalkP t l ps p) (hok : ∀ i, i < l.length → 0 ≤ levelV (idA ((nth l i).fld 0)) t) {i : Nat} (h1 : 1 ≤ i) (hi : i < ps.length) :
    ∃ q : Nat, idxP t l ps i = (q : Int) ∧ q < (vecV t l (p i)).length ∧ nth (vecV t l (p i)) q = .blob (idA ((nth l (p (i - 1))).fld 0)) ∧ opP t l ps i = [.agg [.int (q : Int), .int ((vecV t l (p i)).length : Int), .slice (pathL (linkT (vecV t l (p i))) (q : Int))], .int 0] ∧ (p (i - 1) + 1 = p i → q = 0) := by
  have hp := W.lt i hi
  obtain ⟨n1, k, n2, n3⟩ := W.next (i - 1) (by omega)
  rw [show i - 1 + 1 = i by omega] at n1 n2 n3
  obtain ⟨m1, m2, m3, m4⟩ := near_mem (t := t) hok (show 1 ≤ p i by omega) hp
  have e1 : (nth ps i).toInt = (p i : Int) := by rw [W.at_ i hi]; rfl
  have e2 : (nth ps (i - 1)).toInt = (p (i - 1) : Int) := by rw [W.at_ (i - 1) (by omega)]; rfl
  obtain ⟨q, q1, q2, q3⟩ := idxV_found (A := allOf (levsV t l) (p i : Int)) («to» := (p (i - 1) : Int)) (allOf (levsV t l) (p i : Int)).length 0 (by omega) ⟨k, by omega, n2, by rw [n3]; rfl⟩
  have ei : idxP t l ps i = (q : Int) := by unfold idxP; rw [e1, e2, q1]
  have hv : vecP t l ps i = vecV t l (p i) := by
    unfold vecP
    rw [e1, Int.toNat_natCast, show min (p i) l.length = p i by omega]
  obtain ⟨y, y1, y2, y3⟩ := m1 q q2
  have hy : y = p (i - 1) := by
    rw [y1] at q3
    have : (y : Int) = (p (i - 1) : Int) := q3
    omega
  subst hy
  refine ⟨q, ei, by omega, y3, ?_, fun hs => ?_⟩
  · unfold opP
    rw [hv, ei, openV_in (by omega) (by rw [linkT_len]; omega), linkT_len]
  · have h0 : idxV (allOf (levsV t l) (p i : Int)) (p (i - 1) : Int) (allOf (levsV t l) (p i : Int)).length 0 = 0 := by
      obtain ⟨N, hN⟩ : ∃ N, (allOf (levsV t l) (p i : Int)).length = N + 1 := ⟨(allOf (levsV t l) (p i : Int)).length - 1, by omega⟩
      rw [hN]
      simp only [idxV]
      rw [m4, if_pos (show (AV.int ((p i - 1 : Nat) : Int)).toInt = (p (i - 1) : Int) from by show ((p i - 1 : Nat) : Int) = _; omega)]
      rfl
    rw [h0] at q1
    omega

def stepP (t : List UInt8) (l ps : List AV) (p : Nat → Nat) (i : Nat) : AV := stepAt (nth l (p i)) (if i = 0 then noOpen else nth (opP t l ps i) 0)
def stepsP (t : List UInt8) (l ps : List AV) (p : Nat → Nat) : List AV := (List.range ps.length).map (stepP t l ps p)
theorem stepsP_len : (stepsP t l ps p).length = ps.length := by simp [stepsP]
theorem stepsP_nth {i : Nat} (h : i < ps.length) : nth (stepsP t l ps p) i = stepP t l ps p i := by unfold stepsP; rw [nth_rng h]
theorem proveL_walk (W : WalkP t l ps p) (hok : ∀ i, i < l.length → 0 ≤ levelV (idA ((nth l i).fld 0)) t) : proveL t l ps ps.length 0 [] = [.slice (stepsP t l ps p), .int 0] := by
  have key : ∀ (j i : Nat) (acc : List AV), i + j = ps.length → acc = (List.range i).map (stepP t l ps p) → proveL t l ps j i acc = [.slice (stepsP t l ps p), .int 0] := by
    intro j
    induction j with
    | zero =>
      intro i acc hi ha
      rw [ha, show i = ps.length by omega]; rfl
    | succ j ih =>
      intro i acc hi ha
      have hp := W.lt i (by omega)
      have e1 : (nth ps i).toInt = (p i : Int) := by rw [W.at_ i (by omega)]; rfl
      have ih' := ih (i + 1) (acc ++ [stepP t l ps p i]) (by omega) (by rw [List.range_succ, List.map_append, ha]; rfl)
      simp only [proveL]
      rw [e1, ltI_f (show ¬ (p i : Int) < 0 by omega), cond_false, leI_f (by omega), cond_false, Int.toNat_natCast]
      by_cases h0 : i = 0
      · rw [ltI_f (by omega), cond_false]
        have e : stepP t l ps p i = stepAt (nth l (p i)) noOpen := by unfold stepP; rw [if_pos h0]
        rw [← e]; exact ih'
      · obtain ⟨q, q1, q2, q3, q4, _⟩ := opP_at W hok (show 1 ≤ i by omega) (by omega)
        have e : stepP t l ps p i = stepAt (nth l (p i)) (nth (opP t l ps i) 0) := by unfold stepP; rw [if_neg h0]
        have e0 : (nth (opP t l ps i) 1).toInt = 0 := by rw [q4]; rfl
        rw [ltI_t (by omega), cond_true, q1, ltI_f (by omega), cond_false, e0, eqI_t rfl, not_t, cond_false, ← e]
        exact ih'
  exact key ps.length 0 [] (by omega) rfl

/-- Each step's opening leads to the header ahead. -/
theorem stepP_leads (W : WalkP t l ps p) (hok : ∀ i, i < l.length → 0 ≤ levelV (idA ((nth l i).fld 0)) t) (hB : ∀ i, i < l.length → BlkOk t l i) {i : Nat} (h1 : 1 ≤ i) (hi : i < ps.length) (y : AV) (hy : y.fld 0 = headN ((nth l (p (i - 1))).fld 0)) :
    holdsA (stepP t l ps p i) (y.fld 0) = true := by
  obtain ⟨q, q1, q2, q3, q4, _⟩ := opP_at W hok h1 hi
  have hl := (hB (p i) (W.lt i hi)).links
  have hb := vecV_blob t l (p i)
  have := lead_open hb q2 (vecV_len t l (p i))
  rw [q3] at this
  unfold holdsA
  rw [hy, headN_id]
  have e : stepP t l ps p i = stepAt (nth l (p i)) (.agg [.int (q : Int), .int ((vecV t l (p i)).length : Int), .slice (pathL (linkT (vecV t l (p i))) (q : Int))]) := by
    unfold stepP; rw [if_neg (by omega), q4]; rfl
  rw [e]
  show leadsV (((nth l (p i)).fld 0).fld 1).toBlob (idA ((nth l (p (i - 1))).fld 0)) (q : Int) ((vecV t l (p i)).length : Int) (pathL (linkT (vecV t l (p i))) (q : Int)) = true
  rw [hl]
  exact this
theorem stepP_head (i : Nat) : (stepP t l ps p i).fld 0 = headN ((nth l (p i)).fld 0) := rfl
theorem stepP_index (W : WalkP t l ps p) (hok : ∀ i, i < l.length → 0 ≤ levelV (idA ((nth l i).fld 0)) t) {i : Nat} (h1 : 1 ≤ i) (hi : i < ps.length) (hs : p (i - 1) + 1 = p i) : (((stepP t l ps p i).fld 1).fld 0).toInt = 0 := by
  obtain ⟨q, q1, q2, q3, q4, q5⟩ := opP_at W hok h1 hi
  have e : stepP t l ps p i = stepAt (nth l (p i)) (.agg [.int (q : Int), .int ((vecV t l (p i)).length : Int), .slice (pathL (linkT (vecV t l (p i))) (q : Int))]) := by
    unfold stepP; rw [if_neg (by omega), q4]; rfl
  rw [e, q5 hs]; rfl
theorem stepP_blob (W : WalkP t l ps p) (hok : ∀ i, i < l.length → 0 ≤ levelV (idA ((nth l i).fld 0)) t) {i : Nat} (hi : i < ps.length) : Blob32 (((stepP t l ps p i).fld 1).fld 2).toSlice ∧ (((stepP t l ps p i).fld 1).fld 2).toSlice.length ≤ 257 := by
  by_cases h0 : i = 0
  · subst h0
    exact ⟨no_blobs, by show ([] : List AV).length ≤ 257; simp⟩
  · obtain ⟨q, q1, q2, q3, q4, q5⟩ := opP_at W hok (show 1 ≤ i by omega) hi
    have e : stepP t l ps p i = stepAt (nth l (p i)) (.agg [.int (q : Int), .int ((vecV t l (p i)).length : Int), .slice (pathL (linkT (vecV t l (p i))) (q : Int))]) := by
      unfold stepP; rw [if_neg h0, q4]; rfl
    rw [e]
    refine ⟨pathL_blob _ _, ?_⟩
    have h1 := pathV_len (linkT (vecV t l (p i))).length (leavesV (linkT (vecV t l (p i)))) (q : Int)
    have h2 := vecV_len t l (p i)
    rw [linkT_len] at h1
    show (pathV (linkT (vecV t l (p i))).length (leavesV (linkT (vecV t l (p i)))) (q : Int)).length ≤ 257
    rw [linkT_len]
    omega
theorem stepsP_steps (W : WalkP t l ps p) (hok : ∀ i, i < l.length → 0 ≤ levelV (idA ((nth l i).fld 0)) t) (hh : Heads l) : Steps (stepsP t l ps p) := by
  intro i hi
  rw [stepsP_len] at hi
  rw [stepsP_nth hi]
  exact ⟨hh (p i) (W.lt i hi), (stepP_blob W hok hi).1⟩

theorem tailN_ge {S : List AV} : ∀ y x : Nat, x ≤ y → (∀ i, x < i → i ≤ y → tailOk S i = true) → y - x ≤ tailN S y
  | 0, x, _, _ => by omega
  | y + 1, x, h, hk => by
    by_cases e : x = y + 1
    · omega
    · simp only [tailN]
      rw [hk (y + 1) (by omega) (Nat.le_refl _), cond_true]
      have := tailN_ge y x (by omega) (fun i h1 h2 => hk i h1 (by omega))
      omega
end

/- the places of a chain's proof -/
def placesL (P : List AV) (N len : Nat) : List AV := P ++ (List.range (len - N)).map fun j => AV.int ((N + j : Nat) : Int)
theorem placesL_len (P : List AV) {N len : Nat} : (placesL P N len).length = P.length + (len - N) := by simp [placesL]
def placeAt (P : List AV) (N : Nat) (i : Nat) : Nat := if i < P.length then (nth P i).toInt.toNat else N + (i - P.length)

section
variable {t : List UInt8} {l : List AV}
theorem placesL_walk {N : Nat} {P : List AV} (hok : ∀ i, i < l.length → 0 ≤ levelV (idA ((nth l i).fld 0)) t) (hP : Picked t l N P) (hN : N < l.length) (hN1 : 1 ≤ N) : WalkP t l (placesL P N l.length) (placeAt P N) := by
  have hlen := placesL_len P (N := N) (len := l.length)
  have hl1 := hP.len
  have nthA : ∀ i, i < P.length → nth (placesL P N l.length) i = nth P i := by
    intro i hi
    unfold placesL
    rw [nth_lt (by simp; omega), nth_lt hi, List.getElem_append_left hi]
  have nthB : ∀ i, P.length ≤ i → i < P.length + (l.length - N) → nth (placesL P N l.length) i = .int ((N + (i - P.length) : Nat) : Int) := by
    intro i h1 h2
    unfold placesL
    rw [nth_lt (by simp; omega), List.getElem_append_right h1]
    simp
  have pA : ∀ i, i < P.length → ∃ p : Nat, nth P i = .int (p : Int) ∧ p < N ∧ placeAt P N i = p := by
    intro i hi
    obtain ⟨p, h1, h2⟩ := hP.at_ i hi
    refine ⟨p, h1, h2, ?_⟩
    unfold placeAt
    rw [if_pos hi, h1]
    exact Int.toNat_natCast p
  have pB : ∀ i, P.length ≤ i → placeAt P N i = N + (i - P.length) := by
    intro i hi
    unfold placeAt
    rw [if_neg (by omega)]
  refine ⟨fun i hi => ?_, fun i hi => ?_, fun i hi => ?_⟩
  · rw [hlen] at hi
    by_cases h : i < P.length
    · obtain ⟨p, h1, h2, h3⟩ := pA i h
      rw [nthA i h, h1, h3]
    · rw [nthB i (by omega) hi, pB i (by omega)]
  · rw [hlen] at hi
    by_cases h : i < P.length
    · obtain ⟨p, h1, h2, h3⟩ := pA i h
      rw [h3]; omega
    · rw [pB i (by omega)]; omega
  · rw [hlen] at hi
    by_cases h : i + 1 < P.length
    · obtain ⟨p, h1, h2, h3⟩ := pA i (by omega)
      obtain ⟨q, g1, g2, g3⟩ := pA (i + 1) h
      rw [h3, g3]
      exact hP.next i p q h h1 g1
    · have hq := pB (i + 1) (by omega)
      have hp : placeAt P N i + 1 = placeAt P N (i + 1) := by
        by_cases h' : i < P.length
        · obtain ⟨p, h1, h2, h3⟩ := pA i h'
          have hl := hP.last
          rw [show P.length - 1 = i by omega, h1] at hl
          have : (p : Int) = ((N - 1 : Nat) : Int) := by injection hl
          rw [h3, hq]; omega
        · rw [pB i (by omega), hq]; omega
      refine ⟨by omega, 0, ?_⟩
      obtain ⟨_, _, m3, m4⟩ := near_mem (t := t) hok (x := placeAt P N (i + 1)) (by omega) (by rw [hq]; omega)
      exact ⟨m3, by rw [m4, show placeAt P N (i + 1) - 1 = placeAt P N i by omega]⟩
end

end Go.Proofs.YtogehijjhibdkaaGreat.Ev
