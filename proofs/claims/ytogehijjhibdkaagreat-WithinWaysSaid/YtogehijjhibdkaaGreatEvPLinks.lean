/- Vectors of ids: their leaves and roots. -/
import Derived.Test.YtogehijjhibdkaaGreatEvPRoots
namespace Go.Proofs.YtogehijjhibdkaaGreat.Ev
open Go Go.RowKit

def linkT (l : List AV) : List AV := l.map fun y => .str ([76] ++ y.toBlob)
theorem linkT_len (l : List AV) : (linkT l).length = l.length := by simp [linkT]
theorem linkT_take {l : List AV} {i : Nat} (h : i < l.length) : linkT (l.take i) ++ [.str ([76] ++ (nth l i).toBlob)] = linkT (l.take (i + 1)) := by
  rw [List.take_succ_eq_append_getElem h, nth_lt h]; simp only [linkT, List.map_append, List.map_cons, List.map_nil]
theorem blob_at {l : List AV} (h : Blob32 l) {i : Nat} (hi : i < l.length) : (nth l i).toBlob.length = 32 := by
  obtain ⟨b, hb, hl⟩ := h l[i] (List.getElem_mem hi)
  rw [nth_lt hi, hb]; exact hl
theorem linkT_short {l : List AV} (h : Blob32 l) : Short (linkT l) := by
  intro i hi
  rw [linkT_len] at hi
  have := blob_at h hi
  rw [nth_lt (by rw [linkT_len]; exact hi)]
  rw [nth_lt hi] at this
  simp only [linkT, List.getElem_map]
  show ([76] ++ l[i].toBlob).length ≤ _
  simp; omega
theorem linkTexts_runs {l : List AV} (hl : l.length ≤ 100000) (hb : Blob32 l) : RunsX 119 [.slice l] ⟨[.slice (linkT l)], [], true⟩ := by
  refine Evt.succ ((Evt.ge (l.length + 10)).mono fun n hn => ?_)
  obtain ⟨m, rfl⟩ : ∃ m, n = m + 1 := ⟨n - 1, by omega⟩
  have key : ∀ (j k i : Nat), i + j = l.length → j < k → f119_l0 (runE G ext (m + 1)) (m + 1) k (linkT (l.take i)) l (l.length : Int) (i : Int) = some ⟨[.slice (linkT l)], [], true⟩ := by
    intro j
    induction j with
    | zero =>
      intro k i hi hk
      obtain ⟨k, rfl⟩ : ∃ j, k = j + 1 := ⟨k - 1, by omega⟩
      rw [f119_l0_eq, ltI_f (by omega), cond_false, List.take_of_length_le (by omega)]
      rfl
    | succ j ih =>
      intro k i hi hk
      obtain ⟨k, rfl⟩ : ∃ j, k = j + 1 := ⟨k - 1, by omega⟩
      have ih' := ih k (i + 1) (by omega) (by omega)
      rw [show ((i + 1 : Nat) : Int) = (i : Int) + 1 by omega, ← linkT_take (by omega)] at ih'
      have h32 := blob_at hb (i := i) (by omega)
      have ht : runE G ext (m + 1) 149 [.blob (nth l i).toBlob] = some ⟨[.str ([76] ++ (nth l i).toBlob)], [], false⟩ := by
        rw [f149_run, f149_eq, raw32 h32, show Nat.ble (1 + (nth l i).toBlob.length) maxLen = true from Nat.ble_eq_true_of_le (by rw [maxLen_eq]; omega), cond_true]; rfl
      rw [f119_l0_eq, ltI_t (by omega), cond_true, inR_nat (by omega), cond_true, Int.toNat_natCast, ht, step1, toStr_s, show Nat.ble (((linkT (l.take i)).length + 1) * 16) 140737488355328 = true from Nat.ble_eq_true_of_le (by rw [linkT_len]; simp; omega), cond_true, w64 (by omega) (by omega)]
      exact ih'
  rw [f119_run, f119_eq]
  exact key l.length (m + 1) 0 (by omega) (by omega)
def linkR (v : List AV) : List UInt8 := rootV (linkT v)
theorem linkRoot_runs {v : List AV} (hl : v.length ≤ 100000) (hb : Blob32 v) : RunsX 139 [.slice v] ⟨[.blob (linkR v)], [], false⟩ := by
  refine Evt.succ (((linkTexts_runs hl hb).and (root_runs (l := linkT v) (by rw [linkT_len]; omega) (linkT_short hb))).mono fun n hn => ?_)
  rw [f139_run, f139_eq, hn.1, step1f, toSlice_s, hn.2, step1]; rfl
end Go.Proofs.YtogehijjhibdkaaGreat.Ev
