/- Valid proofs: the document's answer. -/
import Derived.Test.YtddcooedbibehaaGreatEvPValid
namespace Go.Proofs.YtddcooedbibehaaGreat.Ev
open Go Go.RowKit

section
variable {gh : Int} {gl gt : List UInt8} {gn : Int} {t : List UInt8} {c1 c2 c3 c4 c5 c6 : Int}
theorem refAnchor_runs {l : List AV} : RunsX 37 [.agg [.int gh, .blob gl, .blob gt, .int gn], .slice l] ⟨[.int (ancS gh gl gt gn l)], [], false⟩ := by
  refine Evt.succ (.of fun n => ?_)
  unfold ancS
  rw [f37_run, f37_eq]
  by_cases h : (l.length : Int) = 0
  · rw [eqI_t h]; rfl
  · rw [eqI_f h, cond_false, cond_false, inR_int (by omega) (by omega), cond_true]
    cases (eqI (((nth l 0).fld 0).fld 0).toInt gh && (eqS (((nth l 0).fld 0).fld 1).toBlob gl && (eqS (((nth l 0).fld 0).fld 2).toBlob gt && (eqI (((nth l 0).fld 0).fld 3).toInt gn && true))))
    · rfl
    · rw [not_t, cond_false, cond_false, cond_true]
      unfold noneV
      cases eqI (((nth l 0).fld 1).fld 1).toInt 0
      · rw [not_f, cond_true, Bool.false_and, Bool.and_false]; rfl
      · rw [not_t, cond_false, Bool.true_and]
        cases eqI (((nth l 0).fld 1).fld 0).toInt 0
        · rfl
        · rw [not_t, cond_false, Bool.true_and]
          by_cases hp : (((((nth l 0).fld 1).fld 2).toSlice).length : Int) = 0
          · rw [ltI_f (by omega), eqI_t hp]; rfl
          · rw [ltI_t (by omega), eqI_f hp]; rfl

theorem upV_ref {l : List AV} {i : Nat} (h1 : HeadA ((nth l i).fld 0)) (h2 : HeadA ((nth l (i - 1)).fld 0)) :
    eqI (IntKind.wrap .u64 (hgt (nth l i))) (IntKind.wrap .u64 (IntKind.wrap .u64 (hgt (nth l (i - 1))) + 1)) = upV l i := by
  have a0 := h1.h0
  have a1 := h1.h1
  have b0 := h2.h0
  have b1 := h2.h1
  unfold upV hgt
  rw [wrap64, wrap64, wrap64, wrap32]
  by_cases h : (((nth l (i - 1)).fld 0).fld 0).toInt < (((nth l i).fld 0).fld 0).toInt
  · rw [ltI_t h, Bool.true_and]
    by_cases h3 : (((nth l i).fld 0).fld 0).toInt = (((nth l (i - 1)).fld 0).fld 0).toInt + 1
    · rw [eqI_t (by omega), eqI_t (by omega)]
    · rw [eqI_f (by omega), eqI_f (by omega)]
  · rw [ltI_f h, eqI_f (by omega)]; rfl

theorem refTail_runs {l : List AV} (hl : l.length ≤ 100000) (hs : Steps l) : RunsX 41 [.slice l] ⟨[.int (tailN l (l.length - 1) : Int)], [], false⟩ := by
  refine Evt.succ ((Evt.ge (l.length + 2)).mono fun n hn => ?_)
  have key : ∀ (j k i : Nat), i + 1 + j = max 1 l.length → j < k → f41_l0 (runE G ext n) n k l (tailN l i : Int) ((i : Int) + 1) = some ⟨[.int (tailN l (l.length - 1) : Int)], [], false⟩ := by
    intro j
    induction j with
    | zero =>
      intro k i hi hk
      obtain ⟨k, rfl⟩ : ∃ j, k = j + 1 := ⟨k - 1, by omega⟩
      rw [f41_l0_eq, ltI_f (by omega), cond_false, show i = l.length - 1 by omega]; rfl
    | succ j ih =>
      intro k i hi hk
      obtain ⟨k, rfl⟩ : ∃ j, k = j + 1 := ⟨k - 1, by omega⟩
      have ih' := ih k (i + 1) (by omega) (by omega)
      rw [show ((i + 1 : Nat) : Int) = (i : Int) + 1 by omega] at ih'
      simp only [tailN, tailOk] at ih'
      have hu := upV_ref (l := l) (i := i + 1) (hs (i + 1) (by omega)).1 (by rw [Nat.add_sub_cancel]; exact (hs i (by omega)).1)
      have tl := tailN_le l i
      rw [f41_l0_eq, ltI_t (by omega), cond_true, show (i : Int) + 1 = ((i + 1 : Nat) : Int) by omega, inR_nat (by omega), cond_true, cond_true, w64 (x := ((i + 1 : Nat) : Int) - 1) (by omega) (by omega), show ((i + 1 : Nat) : Int) - 1 = (i : Int) by omega, inR_nat (by omega), cond_true, Int.toNat_natCast, Int.toNat_natCast, w64 (x := ((i + 1 : Nat) : Int) + 1) (by omega) (by omega), w64 (x := (tailN l i : Int) + 1) (by omega) (by omega), show ((i + 1 : Nat) : Int) + 1 = (i : Int) + 1 + 1 by omega]
      rw [Nat.add_sub_cancel] at hu
      unfold hgt at hu
      rw [hu]
      cases h1 : eqI (((nth l (i + 1)).fld 1).fld 0).toInt 0
      · rw [h1, Bool.false_and, cond_false] at ih'
        rw [not_f, cond_true]
        exact ih'
      · rw [h1, Bool.true_and] at ih'
        rw [not_t, cond_false]
        cases h2 : upV l (i + 1)
        · rw [h2, cond_false] at ih'
          rw [not_f, cond_true]
          exact ih'
        · rw [h2, cond_true] at ih'
          rw [not_t, cond_false]
          rw [show ((tailN l i + 1 : Nat) : Int) = (tailN l i : Int) + 1 by omega] at ih'
          exact ih'
  rw [f41_run, f41_eq]
  exact key (max 1 l.length - 1) n 0 (by omega) (by omega)

theorem refValid_runs {l : List AV} (ht : t.length = 32) (hl : l.length ≤ 100000) (hs : Steps l) : RunsX 10 [Cfg gh gl gt gn t c1 c2 c3 c4 c5 c6, .slice l] ⟨[validV gh gl gt gn t c2 l], [], false⟩ := by
  have hall := Evt.all l.length fun i (hi : i < l.length) =>
    ((refId_runs (hs i hi).1).and (refOk_runs (idA_len ((nth l i).fld 0)) ht)).and
    (refHolds_runs' (h := (((nth l i).fld 0).fld 0).toInt) (ls := (((nth l i).fld 0).fld 1).toBlob) (ts := (((nth l i).fld 0).fld 2).toBlob) (nc := (((nth l i).fld 0).fld 3).toInt) (i := (((nth l i).fld 1).fld 0).toInt) (n := (((nth l i).fld 1).fld 1).toInt) (hs i hi).2 (hs (i - 1) (by omega)).1)
  refine Evt.succ ((((refAnchor_runs (gh := gh) (gl := gl) (gt := gt) (gn := gn) (l := l)).and hall).and ((refTail_runs hl hs).and (Evt.ge (l.length + 10)))).mono fun n hn => ?_)
  obtain ⟨⟨g1, g3⟩, g4, g5⟩ := hn
  unfold validV
  rw [f10_run, f10_eq, g1, step1, toInt_i]
  by_cases h0 : ancS gh gl gt gn l = 0
  · rw [eqI_t h0, not_t, cond_false, cond_false]
    have key : ∀ (j k i : Nat) (o1 o2 : Int), i + j = l.length → j < k → f10_l0 (runE G ext n) n k l gh gl gt gn t c1 c2 c3 c4 c5 c6 (i : Int) o1 o2 = some ⟨[stepsV t c2 l j i], [], false⟩ := by
      intro j
      induction j with
      | zero =>
        intro k i o1 o2 hi hk
        obtain ⟨k, rfl⟩ : ∃ j, k = j + 1 := ⟨k - 1, by omega⟩
        rw [f10_l0_eq, ltI_f (by omega), cond_false, g4, step1, toInt_i]
        simp only [stepsV]
        cases ltI (tailN l (l.length - 1) : Int) c2 <;> rfl
      | succ j ih =>
        intro k i o1 o2 hi hk
        obtain ⟨k, rfl⟩ : ∃ j, k = j + 1 := ⟨k - 1, by omega⟩
        obtain ⟨⟨e1, e2⟩, e3⟩ := g3 i (by omega)
        have ih' := ih k (i + 1) o1 o2 (by omega) (by omega)
        rw [show ((i + 1 : Nat) : Int) = (i : Int) + 1 by omega] at ih'
        simp only [stepsV, stepErr, riseV, joinV, hj, holdsA]
        unfold idA at e2
        rw [f10_l0_eq, ltI_t (a := (i : Int)) (b := (l.length : Int)) (by omega), cond_true, inR_nat (by omega), cond_true, cond_true, Int.toNat_natCast, e1, step1, toBlob_b, e2, step1, toBool_b, w64 (x := (i : Int) + 1) (by omega) (by omega), ih']
        by_cases hi0 : (i : Int) = 0
        · rw [ltI_f (by omega), cond_false, cond_false, eqI_t hi0, cond_true, not_t, cond_false]
          change (bif !(okV (idA ((nth l i).fld 0)) t) then _ else _) = _
          cases okV (idA ((nth l i).fld 0)) t <;> rfl
        · rw [ltI_t (a := 0) (b := (i : Int)) (by omega), cond_true, eqI_f hi0, cond_false, cond_false, w64 (x := (i : Int) - 1) (by omega) (by omega), show (i : Int) - 1 = ((i - 1 : Nat) : Int) by omega, inR_nat (i := i - 1) (by omega), cond_true, cond_true, cond_true, Int.toNat_natCast, e3, step1, toBool_b]
          unfold hgt
          by_cases hr : (((nth l (i - 1)).fld 0).fld 0).toInt < (((nth l i).fld 0).fld 0).toInt
          · rw [leI_f (by omega), cond_false, ltI_t hr, not_t, cond_false]
            change (bif !(okV (idA ((nth l i).fld 0)) t) then _ else _) = _
            cases okV (idA ((nth l i).fld 0)) t
            · rfl
            · rw [not_t, cond_false, cond_false]
              change (bif !(leadsV (((nth l i).fld 0).fld 1).toBlob (idA ((nth l (i - 1)).fld 0)) (((nth l i).fld 1).fld 0).toInt (((nth l i).fld 1).fld 1).toInt (((nth l i).fld 1).fld 2).toSlice) then _ else _) = _
              cases leadsV (((nth l i).fld 0).fld 1).toBlob (idA ((nth l (i - 1)).fld 0)) (((nth l i).fld 1).fld 0).toInt (((nth l i).fld 1).fld 1).toInt (((nth l i).fld 1).fld 2).toSlice <;> rfl
          · rw [leI_t (by omega), cond_true, ltI_f hr]; rfl
    exact key l.length n 0 0 0 (by omega) (by omega)
  · rw [eqI_f h0]; rfl

theorem validChecks_runs {l : List AV} (ht : t.length = 32) (hl : l.length ≤ maxLen) (hs : Steps l) : RunsX 3 [Cfg gh gl gt gn t c1 c2 c3 c4 c5 c6, .slice l] ⟨[.bool true], [], false⟩ := by
  obtain ⟨b, hb, hm⟩ := much30_runs hl
  cases b with
  | true =>
    refine Evt.succ ((hm.and validAwake).mono fun n hn => ?_)
    rw [f3_run, f3_eq]
    repeat (first | rw [step1] | rw [step1f] | rw [step2] | rw [step3] | rw [toBool_b] | rw [toInt_i] | rw [toStr_s] | rw [toBlob_b] | rw [toSlice_s] | rw [fld0] | rw [fld1] | rw [fld2] | rw [fld3] | rw [cond_true] | rw [cond_false] | rw [not_t] | rw [not_f] | rw [hn.1] | rw [hn.2])
    rfl
  | false =>
    have h1 := (hb rfl).1
    have r1 := validCheck_runs (gh := gh) (gl := gl) (gt := gt) (gn := gn) (t := t) (c1 := c1) (c2 := c2) (c3 := c3) (c4 := c4) (c5 := c5) (c6 := c6) (l := l) ht (by omega) hs
    have r2 := refValid_runs (gh := gh) (gl := gl) (gt := gt) (gn := gn) (t := t) (c1 := c1) (c2 := c2) (c3 := c3) (c4 := c4) (c5 := c5) (c6 := c6) (l := l) ht (by omega) hs
    refine Evt.succ (((hm.and validAwake).and (r1.and r2)).mono fun n hn => ?_)
    obtain ⟨⟨g1, g2⟩, g3, g4⟩ := hn
    rw [f3_run, f3_eq, g1, step1, toBool_b, cond_false, g3, step1, g4, step1, eqI_t rfl, eqI_t rfl, Bool.and_true, Bool.and_true, cond_true, g2]
    rfl
end
theorem validChecks_sat (xs : List AV) (h : Ty.HasL [.struct [.struct [.int .u32, .blob 32, .blob 32, .int .u64], .blob 32, .int .i64, .int .i64, .int .i64, .int .i64, .int .i64, .int .i64], .slice (.struct [.struct [.int .u32, .blob 32, .blob 32, .int .u64], .struct [.int .i64, .int .i64, .slice (.blob 32)]])] xs) : ∃ r, r.vals = [.bool true] ∧ Sat Tryz.prog f3_info 3 xs r := by
  obtain ⟨x, r, rfl, hx, y, r2, rfl, ⟨l, rfl, hl, _, hy⟩, rfl⟩ := h
  obtain ⟨gh, gl, gt, gn, t, c1, c2, c3, c4, c5, c6, rfl, ht, _⟩ := cfg_of hx
  exact ⟨_, rfl, sat_of_runsX (by kernel_rfl) (validChecks_runs ht hl (steps_of hy))⟩

end Go.Proofs.YtddcooedbibehaaGreat.Ev
