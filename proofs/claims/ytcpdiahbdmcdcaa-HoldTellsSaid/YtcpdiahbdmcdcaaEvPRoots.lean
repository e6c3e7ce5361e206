/- The laws on roots and tops. -/
import Derived.Test.YtcpdiahbdmcdcaaEvPTree
import Derived.Test.YtcpdiahbdmcdcaaEvExtS
namespace Go.Proofs.Ytcpdiahbdmcdcaa.Ev
open Go Go.RowKit

theorem much_l0 (run : Run) (n : Nat) (l : List AV) (hl : l.length ≤ maxLen) : ∀ (j k i : Nat) (x : Int), 101 - i = j → i ≤ l.length → j < k → ∃ b, (b = false → l.length ≤ 100) ∧ f15_l0 run n k l x (i : Int) = some ⟨[.bool b], [], false⟩ := by
  rw [maxLen_eq] at hl
  have fin : ∀ x : Int, ∃ b, (b = false → l.length ≤ 100) ∧ (bif ltI 100 (l.length : Int) then some ⟨[.bool true], [], false⟩ else some ⟨[.bool (ltI 5000 x)], [], false⟩) = some (⟨[.bool b], [], false⟩ : Res) := by
    intro x
    by_cases h : 100 < (l.length : Int)
    · exact ⟨true, (fun h => by cases h), by rw [ltI_t h]; rfl⟩
    · exact ⟨ltI 5000 x, (fun _ => by omega), by rw [ltI_f h]; rfl⟩
  intro j
  induction j with
  | zero =>
    intro k i x hi _ hk
    obtain ⟨k, rfl⟩ : ∃ j, k = j + 1 := ⟨k - 1, by omega⟩
    rw [f15_l0_eq, ltI_f (a := (i : Int)) (b := 101) (by omega)]
    cases ltI (i : Int) l.length
    · exact fin x
    · exact fin x
  | succ j ih =>
    intro k i x hi hil hk
    obtain ⟨k, rfl⟩ : ∃ j, k = j + 1 := ⟨k - 1, by omega⟩
    rw [f15_l0_eq]
    by_cases h : i < l.length
    · rw [ltI_t (by omega), ltI_t (by omega), cond_true, cond_true, inR_nat h, cond_true, w64 (x := (i : Int) + 1) (by omega) (by omega)]
      have := ih k (i + 1) (mn2 (IntKind.wrap .i64 (x + (((nth l (Int.toNat i)).toStr).length : Int))) 1048576) (by omega) (by omega) (by omega)
      rw [show ((i + 1 : Nat) : Int) = (i : Int) + 1 by omega] at this
      exact this
    · rw [ltI_f (by omega), cond_false]
      exact fin x

theorem much_runs {l : List AV} (hl : l.length ≤ maxLen) : ∃ b, (b = false → l.length ≤ 100) ∧ RunsX 15 [.slice l] ⟨[.bool b], [], false⟩ := by
  obtain ⟨b, h0, h⟩ := much_l0 (runE G ext 200) 200 l hl 101 200 0 0 rfl (by omega) (by omega)
  exact ⟨b, h0, RunsX.of_eval 201 (by rw [f15_run, f15_eq]; exact h)⟩

theorem treeAwake : RunsX 16 [] ⟨[.bool true], [], false⟩ := by
  have h1 := root_runs (l := []) (by simp) (fun i hi => by simp at hi)
  have e : bytesOf (List.drop 0 (List.take 41 (ofBytes ((List.replicate 41 (0 : UInt8)).set 0 (UInt8.ofNat (Int.toNat 2)))))) = rootT 0 zero32 := by decide +kernel
  have h2 := refSha_runs (b := rootT 0 zero32) (by rw [rootT_len 0 rfl]; omega)
  refine Evt.succ ((h1.and h2).mono fun n hn => ?_)
  rw [f16_run, f16_eq, hn.1, step1, e, hn.2, step1, toBlob_b, toBlob_b, eqS_t (by rfl)]
  rfl

theorem treeTops_runs {l : List AV} (hb : Blob32 l) : RunsX 4 [.slice l] ⟨[.bool true], [], false⟩ := by
  by_cases h : 100 < l.length
  · refine Evt.succ (treeAwake.mono fun n hn => ?_)
    rw [f4_run, f4_eq, ltI_t (by omega), cond_true, hn, step1]; rfl
  · refine Evt.succ ((((top_runs l.length l (Nat.le_refl _) (by omega) hb).and (refTop_runs l.length l (Nat.le_refl _) (by omega) hb)).and treeAwake).mono fun n hn => ?_)
    obtain ⟨⟨h1, h2⟩, h3⟩ := hn
    rw [f4_run, f4_eq, ltI_f (by omega), cond_false, h1, step1, h2, step1, toBlob_b, eqS_t rfl, cond_true, h3, step1]; rfl

theorem treeRoots_runs {l : List AV} (hl : l.length ≤ maxLen) (hs : Short l) : RunsX 3 [.slice l] ⟨[.bool true], [], false⟩ := by
  obtain ⟨b, h0, hm⟩ := much_runs hl
  cases b with
  | true =>
    refine Evt.succ ((hm.and treeAwake).mono fun n hn => ?_)
    rw [f3_run, f3_eq, hn.1, step1, toBool_b, cond_true, hn.2, step1]; rfl
  | false =>
    have hle := h0 rfl
    have r1 := leaves_runs (l := l) (by omega) hs
    have r2 := refLeaves_runs (l := l) (by omega) hs
    have r3 := hashes_runs (l := leavesV l) (by rw [leavesV_len]; exact hl)
    have r4 := root_runs (l := l) (by omega) hs
    have r5 := refTreeRoot_runs (l := l) (by omega) hs
    refine Evt.succ (((((hm.and treeAwake).and (r1.and r2)).and (r3.and r4)).and r5).mono fun n hn => ?_)
    obtain ⟨⟨⟨⟨g1, g2⟩, g3, g4⟩, g5, g6⟩, g7⟩ := hn
    rw [f3_run, f3_eq, g1, step1, toBool_b, cond_false, g3, step1f, g4, step1f, toSlice_s, g5, step1, toBool_b, cond_true, g6, step1, g7, step1, toBlob_b, eqS_t rfl, cond_true, g2, step1]; rfl

theorem blob32_of {l : List AV} (h : ∀ (i : Nat) y, l[i]? = some y → (Ty.blob 32).Has y) : Blob32 l := by
  intro y hy
  obtain ⟨i, hi, rfl⟩ := List.getElem_of_mem hy
  obtain ⟨b, hb, hl⟩ := h i _ (List.getElem?_eq_getElem hi)
  exact ⟨b, hb, hl⟩
theorem short_of {l : List AV} (h : ∀ (i : Nat) y, l[i]? = some y → Ty.str.Has y) : Short l := by
  intro i hi
  obtain ⟨s, hs, hl⟩ := h i _ (List.getElem?_eq_getElem hi)
  rw [nth_lt hi, hs]
  unfold reachBytes at hl
  show s.length ≤ _
  omega

theorem treeRoots_sat (xs : List AV) (h : Ty.HasL [.slice .str] xs) : ∃ r, r.vals = [.bool true] ∧ Sat Try.prog f3_info 3 xs r := by
  obtain ⟨x, r, rfl, ⟨l, rfl, hl, _, hx⟩, rfl⟩ := h
  exact ⟨_, rfl, sat_of_runsX (by kernel_rfl) (treeRoots_runs hl (short_of hx))⟩
theorem treeTops_sat (xs : List AV) (h : Ty.HasL [.slice (.blob 32)] xs) : ∃ r, r.vals = [.bool true] ∧ Sat Try.prog f4_info 4 xs r := by
  obtain ⟨x, r, rfl, ⟨l, rfl, hl, _, hx⟩, rfl⟩ := h
  exact ⟨_, rfl, sat_of_runsX (by kernel_rfl) (treeTops_runs (blob32_of hx))⟩

end Go.Proofs.Ytcpdiahbdmcdcaa.Ev
