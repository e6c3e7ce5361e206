/- Valid proofs: both programs tell the same first fault. -/
import Derived.Test.YtogehijjhibdkaaGreatEvPJoin
import Derived.Test.YtogehijjhibdkaaGreatEvPChainL
namespace Go.Proofs.YtogehijjhibdkaaGreat.Ev
open Go Go.RowKit

def hgt (y : AV) : Int := ((y.fld 0).fld 0).toInt
def riseV (l : List AV) (i : Nat) : Bool := bif eqI (i : Int) 0 then true else ltI (hgt (nth l (i - 1))) (hgt (nth l i))
def joinV (l : List AV) (i : Nat) : Bool := bif eqI (i : Int) 0 then true else hj l i
def upV (l : List AV) (i : Nat) : Bool := ltI (hgt (nth l (i - 1))) (hgt (nth l i)) && eqI (IntKind.wrap .u32 (hgt (nth l i) - hgt (nth l (i - 1)))) 1
def tailOk (l : List AV) (i : Nat) : Bool := eqI ((nth l i).fld 1 |>.fld 0).toInt 0 && upV l i
/-- How many steps stand one behind the other, down from a place. -/
def tailN (l : List AV) : Nat → Nat
  | 0 => 0
  | i + 1 => bif tailOk l (i + 1) then tailN l i + 1 else 0
theorem tailN_le (l : List AV) : ∀ i, tailN l i ≤ i
  | 0 => Nat.le_refl _
  | i + 1 => by
    simp only [tailN]
    have := tailN_le l i
    cases tailOk l (i + 1)
    · exact Nat.zero_le _
    · rw [cond_true]; omega
theorem tailN_ok {l : List AV} : ∀ i m, m ≤ i → i < m + tailN l i → tailOk l m = true
  | 0, m, h1, h2 => by simp only [tailN] at h2; omega
  | i + 1, m, h1, h2 => by
    simp only [tailN] at h2
    cases h : tailOk l (i + 1)
    · rw [h, cond_false] at h2; omega
    · rw [h, cond_true] at h2
      by_cases he : m = i + 1
      · rw [he]; exact h
      · exact tailN_ok i m (by omega) (by omega)
def noneV (o : AV) : Bool := eqI (o.fld 0).toInt 0 && (eqI (o.fld 1).toInt 0 && eqI ((o.fld 2).toSlice.length : Int) 0)
def ancS (gh : Int) (gl gt : List UInt8) (gn : Int) (l : List AV) : Int :=
  bif eqI (l.length : Int) 0 then 6
  else bif !(eqI (((nth l 0).fld 0).fld 0).toInt gh && (eqS (((nth l 0).fld 0).fld 1).toBlob gl && (eqS (((nth l 0).fld 0).fld 2).toBlob gt && (eqI (((nth l 0).fld 0).fld 3).toInt gn && true)))) then 7
  else bif !(noneV ((nth l 0).fld 1)) then 2 else 0
def stepErr (t : List UInt8) (l : List AV) (i : Nat) : Int :=
  bif !(riseV l i) then 8 else bif !(okV (idA ((nth l i).fld 0)) t) then 9 else bif !(joinV l i) then 10 else 0
def stepsV (t : List UInt8) (K : Int) (l : List AV) : Nat → Nat → AV
  | 0, _ => bif ltI (tailN l (l.length - 1) : Int) K then .agg [.int 11, .int (l.length : Int)] else .agg [.int 0, .int 0]
  | j + 1, i => bif !(eqI (stepErr t l i) 0) then .agg [.int (stepErr t l i), .int (i : Int)] else stepsV t K l j (i + 1)
def validV (gh : Int) (gl gt : List UInt8) (gn : Int) (t : List UInt8) (K : Int) (l : List AV) : AV :=
  bif !(eqI (ancS gh gl gt gn l) 0) then .agg [.int (ancS gh gl gt gn l), .int 0] else stepsV t K l l.length 0

theorem above_runs {h : Int} {ls ts : List UInt8} {nc h' : Int} {ls' ts' : List UInt8} {nc' : Int} :
    RunsX 33 [.agg [.int h, .blob ls, .blob ts, .int nc], .agg [.int h', .blob ls', .blob ts', .int nc']] ⟨[.bool (ltI h' h)], [], false⟩ := by
  refine Evt.succ (.of fun n => ?_)
  rw [f33_run, f33_eq]; rfl
theorem none_runs {a b : Int} {l : List AV} : RunsX 103 [.agg [.int a, .int b, .slice l]] ⟨[.bool (eqI a 0 && (eqI b 0 && eqI (l.length : Int) 0))], [], false⟩ := by
  have r : RunsX 135 [.agg [.int a, .int b, .slice l], .agg [.int 0, .int 0, .slice []]] ⟨[.bool (eqI a 0 && (eqI b 0 && eqI (l.length : Int) 0))], [], false⟩ := by
    refine Evt.succ ((Evt.ge 2).mono fun n hn => ?_)
    obtain ⟨n, rfl⟩ : ∃ m, n = m + 2 := ⟨n - 2, by omega⟩
    rw [f135_run, f135_eq]
    cases eqI a 0
    · rfl
    · rw [not_t, cond_false, Bool.true_and]
      cases eqI b 0
      · rfl
      · rw [not_t, cond_false, Bool.true_and]
        by_cases h : (l.length : Int) = 0
        · rw [show ((([] : List AV).length : Nat) : Int) = 0 from rfl, eqI_t h, not_t, cond_false, f135_l0_eq, ltI_f (by omega)]; rfl
        · rw [show ((([] : List AV).length : Nat) : Int) = 0 from rfl, eqI_f h]; rfl
  refine Evt.succ (r.mono fun n hn => ?_)
  rw [f103_run, f103_eq, hn, step1]; rfl

section
variable {gh : Int} {gl gt : List UInt8} {gn : Int} {t : List UInt8} {c1 c2 c3 c4 c5 c6 : Int}
theorem stepsV_spec {K : Int} {l : List AV} : ∀ j i, (stepsV t K l j i = stepsV t K l 0 0 ∧ ∀ k, i ≤ k → k < i + j → stepErr t l k = 0) ∨ ∃ k, i ≤ k ∧ k < i + j ∧ stepErr t l k ≠ 0 ∧ stepsV t K l j i = .agg [.int (stepErr t l k), .int (k : Int)] ∧ ∀ m, i ≤ m → m < k → stepErr t l m = 0
  | 0, _ => .inl ⟨rfl, fun k h1 h2 => by omega⟩
  | j + 1, i => by
    rw [show stepsV t K l (j + 1) i = bif !(eqI (stepErr t l i) 0) then .agg [.int (stepErr t l i), .int (i : Int)] else stepsV t K l j (i + 1) from rfl]
    by_cases hb : stepErr t l i = 0
    · rw [eqI_t hb, not_t, cond_false]
      rcases stepsV_spec (K := K) (l := l) j (i + 1) with ⟨h1, h2⟩ | ⟨k, h1, h2, h3, h4, h5⟩
      · refine .inl ⟨h1, fun k k1 k2 => ?_⟩
        by_cases he : k = i
        · rw [he]; exact hb
        · exact h2 k (by omega) (by omega)
      · refine .inr ⟨k, by omega, by omega, h3, h4, fun m m1 m2 => ?_⟩
        by_cases he : m = i
        · rw [he]; exact hb
        · exact h5 m (by omega) m2
    · rw [eqI_f hb, not_f, cond_true]
      exact .inr ⟨i, Nat.le_refl _, by omega, hb, rfl, fun m m1 m2 => by omega⟩
/-- A proof without a fault. -/
structure Valid (gh : Int) (gl gt : List UInt8) (gn : Int) (t : List UInt8) (K : Int) (l : List AV) : Prop where
  anc : ancS gh gl gt gn l = 0
  step : ∀ k, k < l.length → stepErr t l k = 0
  tail : ¬ (tailN l (l.length - 1) : Int) < K
theorem validV_ok {K : Int} {l : List AV} (h : Valid gh gl gt gn t K l) : validV gh gl gt gn t K l = .agg [.int 0, .int 0] := by
  unfold validV
  rw [eqI_t h.anc, not_t, cond_false]
  rcases stepsV_spec (t := t) (K := K) (l := l) l.length 0 with ⟨h1, h2⟩ | ⟨k, h1, h2, h3, h4, h5⟩
  · rw [h1]
    simp only [stepsV]
    rw [ltI_f h.tail, cond_false]
  · exact absurd (h.step k (by omega)) h3
theorem validV_steps {K : Int} {l : List AV} (h0 : ancS gh gl gt gn l = 0) (h : ∀ k, k < l.length → stepErr t l k = 0) : validV gh gl gt gn t K l = bif ltI (tailN l (l.length - 1) : Int) K then .agg [.int 11, .int (l.length : Int)] else .agg [.int 0, .int 0] := by
  unfold validV
  rw [eqI_t h0, not_t, cond_false]
  rcases stepsV_spec (t := t) (K := K) (l := l) l.length 0 with ⟨h1, h2⟩ | ⟨k, h1, h2, h3, h4, h5⟩
  · exact h1
  · exact absurd (h k (by omega)) h3
theorem validV_zero {K : Int} {l : List AV} (h : ((validV gh gl gt gn t K l).fld 0).toInt = 0) : Valid gh gl gt gn t K l := by
  by_cases h0 : ancS gh gl gt gn l = 0
  · rcases stepsV_spec (t := t) (K := K) (l := l) l.length 0 with ⟨h1, h2⟩ | ⟨k, h1, h2, h3, h4, h5⟩
    · have hs : ∀ k, k < l.length → stepErr t l k = 0 := fun k hk => h2 k (by omega) (by omega)
      rw [validV_steps h0 hs] at h
      refine ⟨h0, hs, fun hc => ?_⟩
      rw [ltI_t hc, cond_true] at h
      exact absurd (show (11 : Int) = 0 from h) (by decide)
    · unfold validV at h
      rw [eqI_t h0, not_t, cond_false, h4] at h
      exact absurd (show stepErr t l k = 0 from h) h3
  · unfold validV at h
    rw [eqI_f h0, not_f, cond_true] at h
    exact absurd (show ancS gh gl gt gn l = 0 from h) h0
theorem stepErr_zero {l : List AV} {i : Nat} (h : stepErr t l i = 0) : riseV l i = true ∧ okV (idA ((nth l i).fld 0)) t = true ∧ joinV l i = true := by
  unfold stepErr at h
  cases h1 : riseV l i
  · rw [h1, not_f, cond_true] at h; exact absurd h (by decide)
  · rw [h1, not_t, cond_false] at h
    cases h2 : okV (idA ((nth l i).fld 0)) t
    · rw [h2, not_f, cond_true] at h; exact absurd h (by decide)
    · rw [h2, not_t, cond_false] at h
      cases h3 : joinV l i
      · rw [h3, not_f, cond_true] at h; exact absurd h (by decide)
      · exact ⟨rfl, rfl, rfl⟩
theorem ancS_zero {l : List AV} (h : ancS gh gl gt gn l = 0) : 0 < l.length ∧ (eqI (((nth l 0).fld 0).fld 0).toInt gh && (eqS (((nth l 0).fld 0).fld 1).toBlob gl && (eqS (((nth l 0).fld 0).fld 2).toBlob gt && (eqI (((nth l 0).fld 0).fld 3).toInt gn && true)))) = true := by
  unfold ancS at h
  by_cases h0 : (l.length : Int) = 0
  · rw [eqI_t h0, cond_true] at h; exact absurd h (by decide)
  · rw [eqI_f h0, cond_false] at h
    refine ⟨by omega, ?_⟩
    cases hc : (eqI (((nth l 0).fld 0).fld 0).toInt gh && (eqS (((nth l 0).fld 0).fld 1).toBlob gl && (eqS (((nth l 0).fld 0).fld 2).toBlob gt && (eqI (((nth l 0).fld 0).fld 3).toInt gn && true))))
    · rw [hc, not_f, cond_true] at h; exact absurd h (by decide)
    · rfl
theorem stepErr_take {l : List AV} {m i : Nat} (h : i < m) : stepErr t (l.take m) i = stepErr t l i := by
  have e : nth (l.take m) i = nth l i := nth_take h
  have e2 : nth (l.take m) (i - 1) = nth l (i - 1) := nth_take (by omega)
  unfold stepErr riseV joinV hj
  rw [e, e2]
theorem ancS_take {l : List AV} {m : Nat} (h : 0 < m) (hl : 0 < l.length) : ancS gh gl gt gn (l.take m) = ancS gh gl gt gn l := by
  have e : nth (l.take m) 0 = nth l 0 := nth_take h
  unfold ancS
  rw [e, eqI_f (show ¬ ((l.take m).length : Int) = 0 by rw [List.length_take]; omega), eqI_f (show ¬ (l.length : Int) = 0 by omega)]
end

def vstep : AV := .agg [.agg [.int 0, .blob (List.replicate 32 0), .blob (List.replicate 32 0), .int 0], .agg [.int 0, .int 0, .slice []]]
theorem vsteps (k : Nat) : Steps (List.replicate k vstep) := by
  intro i hi
  rw [nth_lt hi, List.getElem_replicate]
  exact ⟨⟨by decide, by decide, by decide, by decide, by decide, by decide⟩, no_blobs⟩
theorem okV_full {id : List UInt8} (h : id.length = 32) : okV id (List.replicate 32 255) = true := by
  unfold okV
  have h1 := natN_lt id
  rw [h] at h1
  have h2 : natN (List.replicate 32 255) = 256 ^ 32 - 1 := by decide +kernel
  rw [h2]
  exact decide_eq_true (by omega)
def fillL (i : Nat) : List UInt8 := List.replicate i 255 ++ List.replicate (32 - i) 0
theorem fillL_set {i : Nat} (h : i < 32) : (fillL i).set i (UInt8.ofNat (Int.toNat 255)) = fillL (i + 1) := by
  unfold fillL
  rw [List.set_append_right _ _ (by simp), List.length_replicate, Nat.sub_self, show 32 - i = (32 - (i + 1)) + 1 by omega, List.replicate_succ, List.set_cons_zero, List.replicate_succ' (n := i), List.append_assoc]
  rfl
theorem tmodS_u64 (a : Int) (L : Nat) (h0 : 0 < L) (hL : L ≤ 100000) : ∃ u : Nat, 1 ≤ u ∧ u ≤ L ∧ IntKind.wrap .i64 (1 + IntKind.wrap .i64 (Int.tmod (IntKind.wrap .u64 a) (IntKind.wrap .u64 (L : Int)))) = (u : Int) := by
  rw [wrap64, wrap64, show (L : Int) % 18446744073709551616 = (L : Int) by omega, Int.tmod_eq_emod_of_nonneg (by omega)]
  have h1 : 0 ≤ (a % 18446744073709551616) % (L : Int) := Int.emod_nonneg _ (by omega)
  have h2 : (a % 18446744073709551616) % (L : Int) < (L : Int) := Int.emod_lt_of_pos _ (by omega)
  refine ⟨((a % 18446744073709551616) % (L : Int)).toNat + 1, by omega, by omega, ?_⟩
  rw [w64 (x := (a % 18446744073709551616) % (L : Int)) (by omega) (by omega), w64 (by omega) (by omega)]; omega
theorem steps_take {l : List AV} (h : Steps l) (m : Nat) : Steps (l.take m) := by
  intro i hi
  rw [List.length_take] at hi
  rw [nth_take (by omega)]
  exact h i (by omega)
end Go.Proofs.YtogehijjhibdkaaGreat.Ev
