/- Transactions: their leaves and roots, and whether they may be. -/
import Derived.Test.YtogehijjhibdkaaGreatEvPRoots
namespace Go.Proofs.YtogehijjhibdkaaGreat.Ev
open Go Go.RowKit

def txT (l : List AV) : List AV := l.map fun y => .str ([84] ++ y.toStr)
theorem txT_len (l : List AV) : (txT l).length = l.length := by simp [txT]
theorem txT_take {l : List AV} {i : Nat} (h : i < l.length) : txT (l.take i) ++ [.str ([84] ++ (nth l i).toStr)] = txT (l.take (i + 1)) := by
  rw [List.take_succ_eq_append_getElem h, nth_lt h]; simp only [txT, List.map_append, List.map_cons, List.map_nil]
/-- Texts of a typed argument. -/
def Shorter (l : List AV) : Prop := ∀ i, i < l.length → (nth l i).toStr.length ≤ 140737488351232
theorem shorter_of {l : List AV} (h : ∀ (i : Nat) y, l[i]? = some y → Ty.str.Has y) : Shorter l := by
  intro i hi
  obtain ⟨s, hs, hl⟩ := h i _ (List.getElem?_eq_getElem hi)
  rw [nth_lt hi, hs]
  unfold reachBytes at hl
  exact hl
theorem txT_short {l : List AV} (h : Shorter l) : Short (txT l) := by
  intro i hi
  rw [txT_len] at hi
  have := h i hi
  rw [nth_lt (by rw [txT_len]; exact hi)]
  rw [nth_lt hi] at this
  simp only [txT, List.getElem_map]
  show ([84] ++ l[i].toStr).length ≤ _
  simp; omega
theorem txTexts_runs {l : List AV} (hl : l.length ≤ 100000) (hs : Shorter l) : RunsX 99 [.slice l] ⟨[.slice (txT l)], [], true⟩ := by
  refine Evt.succ ((Evt.ge (l.length + 10)).mono fun n hn => ?_)
  obtain ⟨m, rfl⟩ : ∃ m, n = m + 1 := ⟨n - 1, by omega⟩
  have key : ∀ (j k i : Nat), i + j = l.length → j < k → f99_l0 (runE G ext (m + 1)) (m + 1) k (txT (l.take i)) l (l.length : Int) (i : Int) = some ⟨[.slice (txT l)], [], true⟩ := by
    intro j
    induction j with
    | zero =>
      intro k i hi hk
      obtain ⟨k, rfl⟩ : ∃ j, k = j + 1 := ⟨k - 1, by omega⟩
      rw [f99_l0_eq, ltI_f (by omega), cond_false, List.take_of_length_le (by omega)]
      rfl
    | succ j ih =>
      intro k i hi hk
      obtain ⟨k, rfl⟩ : ∃ j, k = j + 1 := ⟨k - 1, by omega⟩
      have ih' := ih k (i + 1) (by omega) (by omega)
      rw [show ((i + 1 : Nat) : Int) = (i : Int) + 1 by omega, ← txT_take (by omega)] at ih'
      have h32 := hs i (by omega)
      have ht : runE G ext (m + 1) 111 [.str (nth l i).toStr] = some ⟨[.str ([84] ++ (nth l i).toStr)], [], false⟩ := by
        rw [f111_run, f111_eq, show Nat.ble (1 + (nth l i).toStr.length) maxLen = true from Nat.ble_eq_true_of_le (by rw [maxLen_eq]; omega), cond_true]; rfl
      rw [f99_l0_eq, ltI_t (by omega), cond_true, inR_nat (by omega), cond_true, Int.toNat_natCast, ht, step1, toStr_s, show Nat.ble (((txT (l.take i)).length + 1) * 16) 140737488355328 = true from Nat.ble_eq_true_of_le (by rw [txT_len]; simp; omega), cond_true, w64 (by omega) (by omega)]
      exact ih'
  rw [f99_run, f99_eq]
  exact key l.length (m + 1) 0 (by omega) (by omega)
def txR (l : List AV) : List UInt8 := rootV (txT l)
theorem txRoot_runs {l : List AV} (hl : l.length ≤ 100000) (hs : Shorter l) : RunsX 140 [.slice l] ⟨[.blob (txR l)], [], false⟩ := by
  refine Evt.succ (((txTexts_runs hl hs).and (root_runs (l := txT l) (by rw [txT_len]; omega) (txT_short hs))).mono fun n hn => ?_)
  rw [f140_run, f140_eq, hn.1, step1f, toSlice_s, hn.2, step1]; rfl
/- whether transactions may be -/
def bigB (l : List AV) : Nat → Nat → Bool
  | 0, _ => false
  | j + 1, i => ltI 4096 ((nth l i).toStr.length : Int) || bigB l j (i + 1)
def mayV (l : List AV) : Int := bif ltI 1024 (l.length : Int) then 4 else bif bigB l l.length 0 then 4 else 0

theorem txMay_l0 (run : Run) (n : Nat) (l : List AV) (hl : l.length ≤ 100000) : ∀ (j k i : Nat), i + j = l.length → j < k → f97_l0 run n k l (l.length : Int) (i : Int) = some ⟨[.int (bif bigB l j i then 4 else 0)], [], false⟩ := by
  intro j
  induction j with
  | zero =>
    intro k i hi hk
    obtain ⟨k, rfl⟩ : ∃ j, k = j + 1 := ⟨k - 1, by omega⟩
    rw [f97_l0_eq, ltI_f (by omega)]; rfl
  | succ j ih =>
    intro k i hi hk
    obtain ⟨k, rfl⟩ : ∃ j, k = j + 1 := ⟨k - 1, by omega⟩
    have ih' := ih k (i + 1) (by omega) (by omega)
    rw [show ((i + 1 : Nat) : Int) = (i : Int) + 1 by omega] at ih'
    rw [f97_l0_eq, ltI_t (a := (i : Int)) (by omega), cond_true, inR_nat (by omega), cond_true, Int.toNat_natCast, w64 (by omega) (by omega), ih']
    simp only [bigB]
    cases ltI 4096 ((nth l i).toStr.length : Int) <;> rfl
theorem txMay_runs {l : List AV} (hl : l.length ≤ 100000) : RunsX 97 [.slice l] ⟨[.int (mayV l)], [], false⟩ := by
  refine Evt.succ ((Evt.ge (l.length + 1)).mono fun n hn => ?_)
  unfold mayV
  have := txMay_l0 (runE G ext n) n l hl l.length n 0 (by omega) (by omega)
  rw [f97_run, f97_eq]
  cases ltI 1024 (l.length : Int)
  · exact this
  · rfl
end Go.Proofs.YtogehijjhibdkaaGreat.Ev
