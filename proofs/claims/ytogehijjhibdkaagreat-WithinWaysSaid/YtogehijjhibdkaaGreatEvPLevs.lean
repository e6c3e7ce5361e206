/- The levels of a chain. -/
import Derived.Test.YtogehijjhibdkaaGreatEvPChainL
namespace Go.Proofs.YtogehijjhibdkaaGreat.Ev
open Go Go.RowKit

theorem levels_runs {t : List UInt8} {l : List AV} (ht : t.length = 32) (hl : l.length ≤ 100000) (hh : Heads l) : RunsX 13 [.blob t, .slice l] ⟨[.slice (levsV t l)], [], true⟩ := by
  have hall := Evt.all l.length fun i (hi : i < l.length) => (chainId_runs (x := ((nth l i).fld 1).toSlice) (hh i hi)).and (level_runs (idA_len ((nth l i).fld 0)) ht)
  refine Evt.succ ((hall.and (Evt.ge (l.length + 1))).mono fun n hn => ?_)
  have key : ∀ (j k i : Nat), i + j = l.length → j < k → f13_l0 (runE G ext n) n k ((List.range i).map fun i => .int (if i = 0 then 256 else levelV (idA ((nth l i).fld 0)) t)) l (l.length : Int) (i : Int) t = some ⟨[.slice (levsV t l)], [], true⟩ := by
    intro j
    induction j with
    | zero =>
      intro k i hi hk
      obtain ⟨k, rfl⟩ : ∃ j, k = j + 1 := ⟨k - 1, by omega⟩
      rw [f13_l0_eq, ltI_f (by omega), cond_false, show i = l.length by omega]; rfl
    | succ j ih =>
      intro k i hi hk
      obtain ⟨k, rfl⟩ : ∃ j, k = j + 1 := ⟨k - 1, by omega⟩
      have ih' := ih k (i + 1) (by omega) (by omega)
      rw [show ((i + 1 : Nat) : Int) = (i : Int) + 1 by omega, List.range_succ, List.map_append, List.map_singleton] at ih'
      have nb : Nat.ble ((((List.range i).map fun i => AV.int (if i = 0 then 256 else levelV (idA ((nth l i).fld 0)) t)).length + 1) * 8) 140737488355328 = true := Nat.ble_eq_true_of_le (by simp; omega)
      obtain ⟨e1, e2⟩ := hn.1 i (by omega)
      unfold idA at e2
      rw [f13_l0_eq, ltI_t (by omega), cond_true, inR_nat (by omega), cond_true, Int.toNat_natCast, e1, step1, toBlob_b, e2, step1, toInt_i, nb, w64 (by omega) (by omega)]
      by_cases h0 : i = 0
      · rw [if_pos h0] at ih'
        rw [eqI_t (show (i : Int) = 0 by omega), cond_true, cond_true]
        exact ih'
      · rw [if_neg h0] at ih'
        rw [eqI_f (show ¬ (i : Int) = 0 by omega), cond_false, cond_true]
        exact ih'
  rw [f13_run, f13_eq]
  exact key l.length n 0 (by omega) (by omega)

end Go.Proofs.YtogehijjhibdkaaGreat.Ev
