/- Transactions: openings; which hold. -/
import Derived.Test.YtogehijjhibdkaaGreatEvPTxs
import Derived.Test.YtogehijjhibdkaaGreatEvPLinkC
namespace Go.Proofs.YtogehijjhibdkaaGreat.Ev
open Go Go.RowKit

def txOpenV (l : List AV) (i : Int) : List AV := bif eqI (mayV l) 0 then openV (txT l) i else [.agg [.int 0, .int 0, .slice []], .int (mayV l)]
theorem txOpenV_form (l : List AV) (i : Int) : ∃ (a b : Int) (p : List AV) (e : Int), txOpenV l i = [.agg [.int a, .int b, .slice p], .int e] ∧ Blob32 p ∧ p.length ≤ l.length := by
  unfold txOpenV
  cases eqI (mayV l) 0
  · exact ⟨_, _, _, _, rfl, no_blobs, Nat.zero_le _⟩
  · have := openV_form (txT l) i
    rwa [txT_len] at this
theorem txOpen_runs {l : List AV} {i : Int} (hl : l.length ≤ 100000) (hs : Shorter l) : RunsX 61 [.slice l, .int i] ⟨txOpenV l i, [], false⟩ := by
  have r1 := txMay_runs hl
  unfold txOpenV
  by_cases hm : mayV l = 0
  · obtain ⟨a, b, p, e, hf, _⟩ := openV_form (txT l) i
    have r := open_runs (l := txT l) (i := i) (by rw [txT_len]; omega) (txT_short hs)
    rw [eqI_t hm, cond_true]
    refine Evt.succ ((r1.and ((txTexts_runs hl hs).and r)).mono fun n hn => ?_)
    obtain ⟨g1, g2, g3⟩ := hn
    rw [hf] at g3 ⊢
    rw [f61_run, f61_eq]
    repeat (first | rw [step1] | rw [step1f] | rw [step2] | rw [step3] | rw [toBool_b] | rw [toInt_i] | rw [toStr_s] | rw [toBlob_b] | rw [toSlice_s] | rw [fld0] | rw [fld1] | rw [fld2] | rw [fld3] | rw [cond_true] | rw [cond_false] | rw [not_t] | rw [not_f] | rw [g1] | rw [g2] | rw [g3] | rw [eqI_t hm])
    rfl
  · rw [eqI_f hm, cond_false]
    refine Evt.succ (r1.mono fun n hn => ?_)
    rw [f61_run, f61_eq]
    repeat (first | rw [step1] | rw [step1f] | rw [step2] | rw [step3] | rw [toBool_b] | rw [toInt_i] | rw [toStr_s] | rw [toBlob_b] | rw [toSlice_s] | rw [fld0] | rw [fld1] | rw [fld2] | rw [fld3] | rw [cond_true] | rw [cond_false] | rw [not_t] | rw [not_f] | rw [hn] | rw [eqI_f hm])
    rfl
theorem txText_runs {s : List UInt8} (h : s.length ≤ 140737488355328) : RunsX 111 [.str s] ⟨[.str ([84] ++ s)], [], false⟩ := by
  refine Evt.succ (.of fun n => ?_)
  rw [f111_run, f111_eq, show Nat.ble (1 + s.length) maxLen = true from Nat.ble_eq_true_of_le (by rw [maxLen_eq]; omega), cond_true]; rfl

def txChkV (root s : List UInt8) (i n : Int) (P : List AV) : Bool := bif leI n 1024 then (bif leI (s.length : Int) 4096 then checkH root ([84] ++ s) i n P else false) else false
theorem txCheck_runs {root s : List UInt8} {i n : Int} {P : List AV} (hs : s.length ≤ 140737488351232) (hb : Blob32 P) : RunsX 71 [.blob root, .str s, .agg [.int i, .int n, .slice P]] ⟨[.bool (txChkV root s i n P)], [], false⟩ := by
  refine Evt.succ (((txText_runs (s := s) (by omega)).and (holdCheck_runs (root := root) (s := [84] ++ s) (i := i) (n := n) (by simp; omega) hb)).mono fun m hn => ?_)
  unfold txChkV
  rw [f71_run, f71_eq]
  cases leI n 1024
  · rfl
  cases leI (s.length : Int) 4096
  · rfl
  · rw [cond_true, cond_true, cond_true, cond_true, hn.1, step1, toStr_s, hn.2, step1]; rfl
/- what may be has short texts -/
theorem bigB_at {l : List AV} : ∀ (j i k : Nat), bigB l j i = false → i ≤ k → k < i + j → (nth l k).toStr.length ≤ 4096
  | 0, i, k, _, h1, h2 => by omega
  | j + 1, i, k, h, h1, h2 => by
    simp only [bigB, Bool.or_eq_false_iff] at h
    by_cases hk : k = i
    · subst hk
      have := of_decide_eq_false h.1
      omega
    · exact bigB_at j (i + 1) k h.2 (by omega) (by omega)
theorem mayV_in {l : List AV} (h : mayV l = 0) : l.length ≤ 1024 ∧ ∀ k, k < l.length → (nth l k).toStr.length ≤ 4096 := by
  unfold mayV at h
  by_cases h1 : (1024 : Int) < (l.length : Int)
  · rw [ltI_t h1, cond_true] at h; cases h
  · rw [ltI_f h1, cond_false] at h
    cases hb : bigB l l.length 0 with
    | true => rw [hb, cond_true] at h; cases h
    | false => exact ⟨by omega, fun k hk => bigB_at l.length 0 k hb (by omega) (by omega)⟩
theorem txT_at {l : List AV} {i : Nat} (h : i < l.length) : (nth (txT l) i).toStr = [84] ++ (nth l i).toStr := by
  rw [nth_lt (by rw [txT_len]; exact h), nth_lt h]
  simp only [txT, List.getElem_map]; rfl
theorem txOpened {l : List AV} {i : Int} (h0 : 0 ≤ i) (h1 : i < l.length) (h : mayV l = 0) : txOpenV l i = [.agg [.int i, .int (l.length : Int), .slice (pathL (txT l) i)], .int 0] ∧ txChkV (txR l) (nth l i.toNat).toStr i (l.length : Int) (pathL (txT l) i) = true := by
  obtain ⟨k1, k2⟩ := mayV_in h
  have i2 : i < (txT l).length := by rw [txT_len]; exact h1
  refine ⟨?_, ?_⟩
  · unfold txOpenV
    rw [eqI_t h, cond_true, openV_in h0 i2, txT_len]
  · unfold txChkV
    have := opened_check (l := txT l) (i := i) (by rw [txT_len]; omega) h0 i2
    rw [txT_at (by omega), txT_len] at this
    have k3 := k2 i.toNat (by omega)
    rw [leI_t (by omega), leI_t (by omega), cond_true, cond_true]
    exact this

/- chapter 22's example -/
def exT : List AV := [.str [97], .str [98]]
theorem exT_short : Shorter exT := by
  intro i hi
  match i, hi with
  | 0, _ => exact (by decide : 1 ≤ 140737488351232)
  | 1, _ => exact (by decide : 1 ≤ 140737488351232)
/- too much -/
theorem mu22_l0 (run : Run) (n : Nat) (l : List AV) (hl : l.length ≤ maxLen) : ∀ (j k i : Nat) (x : Int), 1101 - i = j → i ≤ l.length → j < k → ∃ b, (b = false → l.length ≤ 1050 ∧ (60 < l.length → 1024 < l.length)) ∧ f37_l0 run n k l x (i : Int) = some ⟨[.bool b], [], false⟩ := by
  rw [maxLen_eq] at hl
  have fin : ∀ x : Int, ∃ b, (b = false → l.length ≤ 1050 ∧ (60 < l.length → 1024 < l.length)) ∧ (bif ltI 60 (l.length : Int) then bif leI (l.length : Int) 1024 then some ⟨[.bool true], [], false⟩ else bif ltI 1050 (l.length : Int) then some ⟨[.bool true], [], false⟩ else some ⟨[.bool (ltI 6000 x)], [], false⟩ else bif ltI 1050 (l.length : Int) then some ⟨[.bool true], [], false⟩ else some ⟨[.bool (ltI 6000 x)], [], false⟩) = some (⟨[.bool b], [], false⟩ : Res) := by
    intro x
    by_cases h : 60 < (l.length : Int)
    · by_cases h2 : (l.length : Int) ≤ 1024
      · exact ⟨true, (fun h => by cases h), by rw [ltI_t h, leI_t h2]; rfl⟩
      · by_cases h3 : 1050 < (l.length : Int)
        · exact ⟨true, (fun h => by cases h), by rw [ltI_t h, leI_f h2, ltI_t h3]; rfl⟩
        · exact ⟨ltI 6000 x, (fun _ => by omega), by rw [ltI_t h, leI_f h2, ltI_f h3]; rfl⟩
    · exact ⟨ltI 6000 x, (fun _ => by omega), by rw [ltI_f h, ltI_f (show ¬ 1050 < (l.length : Int) by omega)]; rfl⟩
  intro j
  induction j with
  | zero =>
    intro k i x hi _ hk
    obtain ⟨k, rfl⟩ : ∃ j, k = j + 1 := ⟨k - 1, by omega⟩
    rw [f37_l0_eq, ltI_f (a := (i : Int)) (b := 1100) (by omega)]
    cases ltI (i : Int) l.length
    · exact fin x
    · exact fin x
  | succ j ih =>
    intro k i x hi hil hk
    obtain ⟨k, rfl⟩ : ∃ j, k = j + 1 := ⟨k - 1, by omega⟩
    rw [f37_l0_eq]
    by_cases h : i < l.length
    · by_cases h2 : (i : Int) < 1100
      · rw [ltI_t (by omega), ltI_t h2, cond_true, cond_true, inR_nat h, cond_true, w64 (x := (i : Int) + 1) (by omega) (by omega)]
        have := ih k (i + 1) (mn2 (IntKind.wrap .i64 (IntKind.wrap .i64 (x + 1) + (((nth l (Int.toNat i)).toStr).length : Int))) 1048576) (by omega) (by omega) (by omega)
        rw [show ((i + 1 : Nat) : Int) = (i : Int) + 1 by omega] at this
        exact this
      · rw [ltI_t (a := (i : Int)) (b := l.length) (by omega), cond_true, ltI_f h2, cond_false]
        exact fin x
    · rw [ltI_f (by omega), cond_false]
      exact fin x
theorem mu22_runs {l : List AV} (hl : l.length ≤ maxLen) : ∃ b, (b = false → l.length ≤ 1050 ∧ (60 < l.length → 1024 < l.length)) ∧ RunsX 37 [.slice l] ⟨[.bool b], [], false⟩ := by
  obtain ⟨b, h0, h⟩ := mu22_l0 (runE G ext 2000) 2000 l hl 1101 2000 0 0 rfl (by omega) (by omega)
  exact ⟨b, h0, RunsX.of_eval 2001 (by rw [f37_run, f37_eq]; exact h)⟩

end Go.Proofs.YtogehijjhibdkaaGreat.Ev
