/- Entries of vectors. -/
import Derived.Test.YtgfplmaehbhapaaEvFA
import Derived.Test.YtgfplmaehbhapaaEvZB
namespace Go.Proofs.Ytgfplmaehbhapaa.Ev
open Go Go.RowKit

def zeros : List UInt8 := [0, 0, 0, 0, 0, 0, 0, 0, 0, 0, 0, 0, 0, 0, 0, 0, 0, 0, 0, 0, 0, 0, 0, 0, 0, 0, 0, 0, 0, 0, 0, 0]

set_option maxRecDepth 1000000 in
theorem interAwake : Runs G noExt 9 [] ⟨[.bool true], [], false⟩ := Runs.of_eval 40 (by kernel_rfl)

def entryV (l : List AV) (lv : Int) : List AV :=
  if l.length = 0 ∨ lv < 0 then [.blob zeros, .bool false] else [.blob (nth l (min lv ((l.length : Int) - 1)).toNat).toBlob, .bool true]

theorem entry_at (n : Nat) {l : List AV} (lv : Int) (hl : l.length ≤ maxLen) : runE G noExt (n + 1) 18 [.slice l, .int lv] = some ⟨entryV l lv, [], false⟩ := by
  rw [maxLen_eq] at hl
  rw [f18_run, f18_eq]
  unfold entryV
  by_cases h0 : l.length = 0
  · rw [eqI_t (by omega), if_pos (.inl h0)]; rfl
  · rw [eqI_f (by omega), cond_false]
    by_cases h1 : lv < 0
    · rw [ltI_t h1, if_pos (.inr h1)]; rfl
    · rw [ltI_f h1, cond_false, if_neg (by omega), w64 (by omega) (by omega), mn2_eq, inR_yes (by omega) (by omega)]
      rfl

theorem entry_runs {l : List AV} {lv : Int} (hl : l.length ≤ maxLen) : Runs G noExt 18 [.slice l, .int lv] ⟨entryV l lv, [], false⟩ := Evt.succ (.of fun n => entry_at n lv hl)

theorem interEntries_runs {l : List AV} {lv : Int} (hl : l.length ≤ maxLen) : Runs G noExt 6 [.slice l, .int lv] ⟨[.bool true], [], false⟩ := by
  refine Evt.succ ((interAwake.and (entry_runs (lv := lv) hl)).mono fun n hn => ?_)
  rw [maxLen_eq] at hl
  rw [f6_run, f6_eq, hn.1, hn.2]
  simp only [bind_run, consV_c, nilV_n, toBool_b]
  cases ltI 300 (l.length : Int) with
  | true => rfl
  | false =>
    rw [cond_false]
    unfold entryV
    by_cases h1 : lv < 0
    · rw [if_pos (.inr h1), ltI_t h1]; rfl
    · rw [ltI_f h1]
      by_cases h0 : l.length = 0
      · rw [if_pos (.inl h0), eqI_t (by omega)]; rfl
      · rw [if_neg (by omega), eqI_f (by omega), w64 (by omega) (by omega), inR_yes (i := (l.length : Int) - 1) (by omega) (by omega)]
        simp only [consV_c, nilV_n, toBool_b, toBlob_b, cond_true, cond_false]
        by_cases h2 : lv < (l.length : Int)
        · rw [ltI_t h2, inR_yes (by omega) h2, show min lv ((l.length : Int) - 1) = lv by omega, eqS_t rfl]; rfl
        · rw [ltI_f h2, show min lv ((l.length : Int) - 1) = (l.length : Int) - 1 by omega, eqS_t rfl]; rfl

theorem interEntries_sat (xs : List AV) (h : Ty.HasL [.slice (.blob 32), .int .i64] xs) : ∃ r, r.vals = [.bool true] ∧ Sat Try.prog f6_info 6 xs r := by
  obtain ⟨x, r, rfl, ⟨l, rfl, hl, _, _⟩, y, r', rfl, ⟨n, rfl, _⟩, rfl⟩ := h
  exact ⟨_, rfl, sat_of_runs types_ok fns_ok (by kernel_rfl) (interEntries_runs hl)⟩

end Go.Proofs.Ytgfplmaehbhapaa.Ev
