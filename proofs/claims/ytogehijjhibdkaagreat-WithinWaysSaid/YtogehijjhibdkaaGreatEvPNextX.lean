/- Vectors of the next block. -/
import Derived.Test.YtogehijjhibdkaaGreatEvPKit
namespace Go.Proofs.YtogehijjhibdkaaGreat.Ev
open Go Go.RowKit

theorem set_range (m i : Nat) (f : Nat → AV) (v : AV) : ((List.range m).map f).set i v = (List.range m).map (fun j => if j = i then v else f j) := by
  apply List.ext_getElem
  · simp
  · intro j h1 h2
    simp [List.getElem_set]
    by_cases h : i = j
    · simp [h]
    · rw [if_neg h, if_neg (Ne.symm h)]

theorem nth_range {m i : Nat} {f : Nat → AV} (h : i < m) : nth ((List.range m).map f) i = f i := by
  rw [nth_lt (by simpa using h)]; simp

/-- Entries are hashes. -/
def Blobs (l : List AV) : Prop := ∀ i, i < l.length → nth l i = .blob (nth l i).toBlob

theorem blobs_of {l : List AV} {n : Nat} (h : ∀ (i : Nat) y, l[i]? = some y → (Ty.blob n).Has y) : Blobs l := by
  intro i hi
  obtain ⟨b, hb, _⟩ := h i _ (List.getElem?_eq_getElem hi)
  rw [nth_lt hi, hb]; rfl

def clampV (lv : Int) : Nat := (min (max lv 0) 255).toNat
def nextAt (l : List AV) (id : List UInt8) (c i : Nat) : AV := if i ≤ c then .blob id else if i < l.length then nth l i else nth l (l.length - 1)
def nextV (l : List AV) (id : List UInt8) (lv : Int) : List AV :=
  if l.length = 0 then [] else (List.range (max l.length (clampV lv + 2))).map (nextAt l id (clampV lv))

theorem next_l2 (run : Run) (n k0 : Nat) (l : List AV) (id last : List UInt8) (c m : Nat) (hm : m ≤ 1000000) (hc : c + 2 ≤ m) (hl : l.length ≤ m) (hlast : nth l (l.length - 1) = .blob last) :
    ∀ (j k i : Nat), i + j = c + 1 → j < k →
      f75_l2 run n k0 k m ((c : Int) + 1) (i : Int) id last ((List.range m).map fun x => if x < i then .blob id else if x < l.length then nth l x else .blob last) =
        some ⟨[.slice ((List.range m).map (nextAt l id c))], [], false⟩ := by
  intro j
  induction j with
  | zero =>
    intro k i hi hk
    obtain ⟨k, rfl⟩ : ∃ j, k = j + 1 := ⟨k - 1, by omega⟩
    rw [f75_l2_eq, ltI_f (by omega), w64 (x := (m : Int) - 1) (by omega) (by omega), inR_yes (i := (m : Int) - 1) (by omega) (by omega), cond_false, cond_true, set_range, List.drop_zero, List.take_of_length_le (by simp)]
    congr 5
    funext x
    simp only [nextAt]
    by_cases h1 : x ≤ c
    · rw [if_neg (by omega), if_pos (by omega), if_pos h1]
    · rw [if_neg (c := x ≤ c) h1]
      by_cases h2 : x < l.length
      · rw [if_pos h2, if_pos h2]
        by_cases h3 : x = m - 1
        · rw [if_pos (by omega), ← hlast]; congr 1; omega
        · rw [if_neg (by omega), if_neg (by omega)]
      · rw [if_neg h2, hlast]
        split
        · rfl
        · rw [if_neg (by omega)]
  | succ j ih =>
    intro k i hi hk
    obtain ⟨k, rfl⟩ : ∃ j, k = j + 1 := ⟨k - 1, by omega⟩
    rw [f75_l2_eq, ltI_t (by omega), inR_nat (by omega), cond_true, cond_true, set_range, w64 (by omega) (by omega), Nat.zero_add, Int.toNat_natCast]
    have ih' := ih k (i + 1) (by omega) (by omega)
    have e : ((i + 1 : Nat) : Int) = (i : Int) + 1 := by omega
    rw [e] at ih'
    rw [← ih']
    congr 2
    funext x
    by_cases h1 : x = i
    · rw [if_pos h1, if_pos (by omega)]
    · rw [if_neg h1]
      by_cases h2 : x < i
      · rw [if_pos h2, if_pos (show x < i + 1 by omega)]
      · rw [if_neg h2, if_neg (show ¬ x < i + 1 by omega)]

theorem next_l0 (run : Run) (n : Nat) (l : List AV) (id last : List UInt8) (z : AV) (c m : Nat) (hm : m ≤ 1000000) (hc : c + 2 ≤ m) (hl : l.length ≤ m) (hlast : nth l (l.length - 1) = .blob last) (hn : c + 1 < n) :
    ∀ (j k i : Nat), i + j = m → j < k →
      f75_l0 run n k l (c : Int) m (m : Int) (i : Int) id last ((List.range m).map fun x => if x < i then .blob last else z) =
        some ⟨[.slice ((List.range m).map (nextAt l id c))], [], false⟩ := by
  intro j
  induction j with
  | zero =>
    intro k i hi hk
    obtain ⟨k, rfl⟩ : ∃ j, k = j + 1 := ⟨k - 1, by omega⟩
    rw [Nat.add_zero] at hi
    subst hi
    have hb : boundsOk 0 (l.length : Int) (l.length : Int) (l.length : Int) = true := by simp [boundsOk]
    rw [f75_l0_eq, ltI_f (by omega), hb, w64 (x := (c : Int) + 1) (by omega) (by omega)]
    simp only [cond_false, cond_true, Bool.and_true]
    rw [← next_l2 run n k l id last c i hm hc hl hlast (c + 1) n 0 (by omega) hn]
    congr 1
    rw [Int.toNat_natCast, List.take_length, List.drop_zero, List.take_of_length_le hl]
    simp only [splice]
    apply List.ext_getElem
    · simp; omega
    · intro x h1 h2
      simp only [List.take_zero, List.nil_append, Nat.zero_add, List.getElem_map, List.getElem_range, Nat.not_lt_zero, if_false]
      rw [List.getElem_append]
      by_cases hx : x < l.length
      · rw [dif_pos hx, if_pos hx, nth_lt hx]
      · rw [dif_neg hx, if_neg hx, List.getElem_drop, List.getElem_map, List.getElem_range, if_pos]
        simp at h2
        omega
  | succ j ih =>
    intro k i hi hk
    obtain ⟨k, rfl⟩ : ∃ j, k = j + 1 := ⟨k - 1, by omega⟩
    rw [f75_l0_eq, ltI_t (by omega), inR_nat (by omega), cond_true, cond_true, set_range, w64 (by omega) (by omega), Nat.zero_add, Int.toNat_natCast]
    have ih' := ih k (i + 1) (by omega) (by omega)
    have e : ((i + 1 : Nat) : Int) = (i : Int) + 1 := by omega
    rw [e] at ih'
    rw [← ih']
    congr 2
    funext x
    by_cases h1 : x = i
    · rw [if_pos h1, if_pos (by omega)]
    · rw [if_neg h1]
      by_cases h2 : x < i
      · rw [if_pos h2, if_pos (show x < i + 1 by omega)]
      · rw [if_neg h2, if_neg (show ¬ x < i + 1 by omega)]

theorem clampV_le (lv : Int) : clampV lv ≤ 255 := by unfold clampV; omega

theorem next_at (n : Nat) (hn : 10000 ≤ n) {l : List AV} (id : List UInt8) (lv : Int) (hl : l.length ≤ 1000) (hb : Blobs l) : runE G ext (n + 1) 75 [.slice l, .blob id, .int lv] = some ⟨[.slice (nextV l id lv)], [], false⟩ := by
  have hc := clampV_le lv
  have e1 : min (max lv 0) 255 = (clampV lv : Int) := by unfold clampV; omega
  rw [f75_run, f75_eq]
  unfold nextV
  by_cases h0 : l.length = 0
  · rw [eqI_t (by omega), if_pos h0]; rfl
  · rw [eqI_f (by omega), if_neg h0]
    simp only [mn2_eq, mx2_eq, e1]
    rw [w64 (x := (clampV lv : Int) + 2) (by omega) (by omega)]
    have e2 : max (l.length : Int) ((clampV lv : Int) + 2) = ((max l.length (clampV lv + 2) : Nat) : Int) := by omega
    have e3 : max l.length (clampV lv + 2) ≤ 1000 := by omega
    have e4 : clampV lv + 2 ≤ max l.length (clampV lv + 2) := by omega
    have e5 : l.length ≤ max l.length (clampV lv + 2) := by omega
    rw [e2]
    generalize max l.length (clampV lv + 2) = m at e3 e4 e5
    rw [Int.toNat_natCast, eqI_t rfl, leI_t (by omega), show Nat.ble (m * 32) 140737488355328 = true from Nat.ble_eq_true_of_le (by omega), w64 (by omega) (by omega), inR_yes (by omega) (by omega)]
    simp only [cond_false, cond_true, Bool.and_true]
    have e6 : ((l.length : Int) - 1).toNat = l.length - 1 := by omega
    rw [e6]
    rw [← next_l0 (runE G ext n) n l id (nth l (l.length - 1)).toBlob (.blob (List.replicate 32 0)) (clampV lv) m (by omega) e4 e5 (hb _ (by omega)) (by omega) m n 0 (by omega) (by omega)]
    congr 1
    apply List.ext_getElem <;> simp

theorem next_runs {l : List AV} {id : List UInt8} {lv : Int} (hl : l.length ≤ 1000) (hb : Blobs l) : RunsX 75 [.slice l, .blob id, .int lv] ⟨[.slice (nextV l id lv)], [], false⟩ :=
  Evt.succ ((Evt.ge 10000).mono fun n hn => next_at n hn id lv hl hb)

theorem first_runs {id : List UInt8} : RunsX 74 [.blob id] ⟨[.slice [.blob id]], [], true⟩ := by
  refine Evt.succ (.of fun n => ?_)
  rw [f74_run, f74_eq]; rfl

theorem nextV_len (l : List AV) (id : List UInt8) (lv : Int) : (nextV l id lv).length = if l.length = 0 then 0 else max l.length (clampV lv + 2) := by
  unfold nextV
  split <;> simp

end Go.Proofs.YtogehijjhibdkaaGreat.Ev
