/- Steps along places: both programs make the same. -/
import Derived.Test.YtogehijjhibdkaaGreatEvPLevs
import Derived.Test.YtogehijjhibdkaaGreatEvPDownX
import Derived.Test.YtogehijjhibdkaaGreatEvPLinkC
namespace Go.Proofs.YtogehijjhibdkaaGreat.Ev
open Go Go.RowKit

abbrev noOpen : AV := .agg [.int 0, .int 0, .slice []]
def stepAt (y o : AV) : AV := .agg [.agg [.int ((y.fld 0).fld 0).toInt, .blob ((y.fld 0).fld 1).toBlob, .blob ((y.fld 0).fld 2).toBlob, .int ((y.fld 0).fld 3).toInt], .agg [.int (o.fld 0).toInt, .int (o.fld 1).toInt, .slice (o.fld 2).toSlice]]
def idxP (t : List UInt8) (l ps : List AV) (i : Nat) : Int := idxV (allOf (levsV t l) (nth ps i).toInt) (nth ps (i - 1)).toInt (allOf (levsV t l) (nth ps i).toInt).length 0
def vecP (t : List UInt8) (l ps : List AV) (i : Nat) : List AV := vecV t l (min (nth ps i).toInt.toNat l.length)
def opP (t : List UInt8) (l ps : List AV) (i : Nat) : List AV := openV (linkT (vecP t l ps i)) (idxP t l ps i)
def proveL (t : List UInt8) (l ps : List AV) : Nat → Nat → List AV → List AV
  | 0, _, acc => [.slice acc, .int 0]
  | j + 1, i, acc =>
    bif ltI (nth ps i).toInt 0 then [.slice [], .int 15] else bif leI (l.length : Int) (nth ps i).toInt then [.slice [], .int 15] else
    bif ltI 0 (i : Int) then
      (bif ltI (idxP t l ps i) 0 then [.slice [], .int 10] else bif !(eqI (nth (opP t l ps i) 1).toInt 0) then [.slice [], .int (nth (opP t l ps i) 1).toInt]
       else proveL t l ps j (i + 1) (acc ++ [stepAt (nth l (nth ps i).toInt.toNat) (nth (opP t l ps i) 0)]))
    else proveL t l ps j (i + 1) (acc ++ [stepAt (nth l (nth ps i).toInt.toNat) noOpen])
theorem vecP_len (t : List UInt8) (l ps : List AV) (i : Nat) : (vecP t l ps i).length ≤ 257 := vecV_len _ _ _
theorem opP_form (t : List UInt8) (l ps : List AV) (i : Nat) : ∃ (a b : Int) (p : List AV) (e : Int), opP t l ps i = [.agg [.int a, .int b, .slice p], .int e] ∧ p.length ≤ 257 := by
  obtain ⟨a, b, p, e, h, _, h2⟩ := openV_form (linkT (vecP t l ps i)) (idxP t l ps i)
  rw [linkT_len] at h2
  exact ⟨a, b, p, e, h, Nat.le_trans h2 (vecP_len t l ps i)⟩
def PathsS (m : List AV) : Prop := ∀ i, i < m.length → (((nth m i).fld 1).fld 2).toSlice.length ≤ 1000
theorem pathsS_snoc {m : List AV} {y : AV} (h : PathsS m) (hy : ((y.fld 1).fld 2).toSlice.length ≤ 1000) : PathsS (m ++ [y]) := by
  intro i hi
  by_cases hlt : i < m.length
  · have e : nth (m ++ [y]) i = nth m i := by rw [nth_lt hi, nth_lt hlt, List.getElem_append_left hlt]
    rw [e]; exact h i hlt
  · rw [List.length_append] at hi
    have e : nth (m ++ [y]) i = y := by
      obtain rfl : i = m.length := by simp at hi; omega
      rw [nth_lt (by simp), List.getElem_append_right (Nat.le_refl _)]; simp
    rw [e]; exact hy
theorem proveL_form (t : List UInt8) (l ps : List AV) : ∀ j i acc, PathsS acc → ∃ m e, proveL t l ps j i acc = [.slice m, .int e] ∧ PathsS m ∧ m.length ≤ acc.length + j
  | 0, _, acc, h => ⟨acc, 0, rfl, h, Nat.le_refl _⟩
  | j + 1, i, acc, h => by
    have hn : PathsS ([] : List AV) := fun i hi => by simp at hi
    obtain ⟨a, b, p, e, hf, hp⟩ := opP_form t l ps i
    simp only [proveL]
    rw [hf]
    cases ltI (nth ps i).toInt 0
    · rw [cond_false]
      cases leI (l.length : Int) (nth ps i).toInt
      · rw [cond_false]
        cases ltI 0 (i : Int)
        · rw [cond_false]
          obtain ⟨m, e', h1, h2, h3⟩ := proveL_form t l ps j (i + 1) (acc ++ [stepAt (nth l (nth ps i).toInt.toNat) noOpen]) (pathsS_snoc h (by show ([] : List AV).length ≤ 1000; simp))
          exact ⟨m, e', h1, h2, by simp at h3; omega⟩
        · rw [cond_true]
          cases ltI (idxP t l ps i) 0
          · rw [cond_false]
            cases (!(eqI (nth [AV.agg [.int a, .int b, .slice p], .int e] 1).toInt 0))
            · rw [cond_false]
              obtain ⟨m, e', h1, h2, h3⟩ := proveL_form t l ps j (i + 1) (acc ++ [stepAt (nth l (nth ps i).toInt.toNat) (nth [AV.agg [.int a, .int b, .slice p], .int e] 0)]) (pathsS_snoc h (by show p.length ≤ 1000; omega))
              exact ⟨m, e', h1, h2, by simp at h3; omega⟩
            · exact ⟨[], _, rfl, hn, by simp⟩
          · exact ⟨[], _, rfl, hn, by simp⟩
      · exact ⟨[], _, rfl, hn, by simp⟩
    · exact ⟨[], _, rfl, hn, by simp⟩

section
variable {t : List UInt8} {l ps : List AV}
theorem proveSteps_runs (ht : t.length = 32) (hl : l.length ≤ 1000) (hh : Heads l) (hp : ps.length ≤ 1000) : RunsX 50 [.blob t, .slice l, .slice ps] ⟨proveL t l ps ps.length 0 [], [], false⟩ := by
  have hall := Evt.all ps.length fun i (_ : i < ps.length) => (idxU_runs (l := levsV t l) (at_ := (nth ps i).toInt) («to» := (nth ps (i - 1)).toInt) (by rw [levsV_len, maxLen_eq]; omega)).and
    (linkOpen_runs (v := vecP t l ps i) (i := idxP t l ps i) (Nat.le_trans (vecP_len t l ps i) (by omega)) (vecV_blob _ _ _))
  refine Evt.succ ((((levels_runs (t := t) (l := l) ht (by omega) hh).and (vectors_runs (t := t) (l := l) ht (by omega) hh)).and (hall.and (Evt.ge (ps.length + 2)))).mono fun n hn => ?_)
  obtain ⟨⟨g1, g2⟩, g3, g4⟩ := hn
  have key : ∀ (j k i : Nat) (acc : List AV), i + j = ps.length → j < k → acc.length ≤ i → f50_l0 (runE G ext n) n k l ps (levsV t l) (vecsV t l (l.length + 1)) acc ps (ps.length : Int) (i : Int) = some ⟨proveL t l ps j i acc, [], false⟩ := by
    intro j
    induction j with
    | zero =>
      intro k i acc hi hk _
      obtain ⟨k, rfl⟩ : ∃ j, k = j + 1 := ⟨k - 1, by omega⟩
      rw [f50_l0_eq, ltI_f (by omega)]; rfl
    | succ j ih =>
      intro k i acc hi hk ha
      obtain ⟨k, rfl⟩ : ∃ j, k = j + 1 := ⟨k - 1, by omega⟩
      obtain ⟨e1, e2⟩ := g3 i (by omega)
      obtain ⟨a, b, p, e, hf, hp⟩ := opP_form t l ps i
      have iA := ih k (i + 1) (acc ++ [stepAt (nth l (nth ps i).toInt.toNat) (nth (opP t l ps i) 0)]) (by omega) (by omega) (by simp; omega)
      have iB := ih k (i + 1) (acc ++ [stepAt (nth l (nth ps i).toInt.toNat) noOpen]) (by omega) (by omega) (by simp; omega)
      rw [show ((i + 1 : Nat) : Int) = (i : Int) + 1 by omega] at iA iB
      have e2' : runE G ext n 85 [.slice (vecP t l ps i), .int (idxP t l ps i)] = some ⟨opP t l ps i, [], false⟩ := e2
      have e1' : runE G ext n 84 [.slice (levsV t l), .int (nth ps i).toInt, .int (nth ps (i - 1)).toInt] = some ⟨[.int (idxP t l ps i)], [], false⟩ := e1
      have nb : Nat.ble ((acc.length + 1) * 120) 140737488355328 = true := Nat.ble_eq_true_of_le (by omega)
      simp only [proveL]
      rw [f50_l0_eq, ltI_t (a := (i : Int)) (b := (ps.length : Int)) (by omega), cond_true, inR_nat (by omega), cond_true, Int.toNat_natCast, w64 (x := (i : Int) + 1) (by omega) (by omega), nb]
      by_cases h1 : (nth ps i).toInt < 0
      · rw [ltI_t h1]; rfl
      rw [ltI_f h1, cond_false, cond_false]
      by_cases h2 : (l.length : Int) ≤ (nth ps i).toInt
      · rw [leI_t h2]; rfl
      rw [leI_f h2, cond_false, cond_false, inR_int (by omega) (by omega), cond_true]
      by_cases h0 : i = 0
      · rw [ltI_f (a := 0) (b := (i : Int)) (by omega), cond_false, cond_false, cond_true]
        exact iB
      · rw [ltI_t (a := 0) (b := (i : Int)) (by omega), cond_true, cond_true, w64 (x := (i : Int) - 1) (by omega) (by omega), show (i : Int) - 1 = ((i - 1 : Nat) : Int) by omega, inR_nat (by omega), cond_true, Int.toNat_natCast, e1', step1, toInt_i]
        have hv : (nth (vecsV t l (l.length + 1)) (nth ps i).toInt.toNat).toSlice = vecP t l ps i := by
          rw [vecsV_nth t l (by omega)]
          unfold vecP
          rw [show min (nth ps i).toInt.toNat l.length = (nth ps i).toInt.toNat by omega]
          rfl
        rw [hv, vecsV_len, inR_int (i := (nth ps i).toInt) (n := l.length + 1) (by omega) (by omega), cond_true, e2']
        rw [hf] at iA ⊢
        rw [step2, toInt_i, cond_true]
        cases ltI (idxP t l ps i) 0
        · rw [cond_false, cond_false]
          change (bif !(eqI e 0) then _ else _) = some (⟨bif !(eqI e 0) then _ else _, [], false⟩ : Res)
          cases eqI e 0
          · rfl
          · rw [not_t, cond_false, cond_false]
            exact iA
        · rfl
  rw [f50_run, f50_eq, g1, step1f, toSlice_s, g2, step1f, toSlice_s]
  exact key ps.length n 0 [] (by omega) (by omega) (by simp)

end

def zbk : AV := .agg [.agg [.int 0, .blob (List.replicate 32 0), .blob (List.replicate 32 0), .int 0], .slice []]
end Go.Proofs.YtogehijjhibdkaaGreat.Ev
