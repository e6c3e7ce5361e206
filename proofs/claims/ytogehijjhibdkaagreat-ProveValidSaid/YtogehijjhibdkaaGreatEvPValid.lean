/- Valid proofs: both programs tell the same first fault. -/
import Derived.Test.YtogehijjhibdkaaGreatEvPJoin
import Derived.Test.YtogehijjhibdkaaGreatEvPChainL
import Derived.Test.YtogehijjhibdkaaGreatEvPMuch30
namespace Go.Proofs.YtogehijjhibdkaaGreat.Ev
open Go Go.RowKit

def hgt (y : AV) : Int := ((y.fld 0).fld 0).toInt
def riseV (l : List AV) (i : Nat) : Bool := bif eqI (i : Int) 0 then true else ltI (hgt (nth l (i - 1))) (hgt (nth l i))
def joinV (l : List AV) (i : Nat) : Bool := bif eqI (i : Int) 0 then true else hj l i
def upV (l : List AV) (i : Nat) : Bool := ltI (hgt (nth l (i - 1))) (hgt (nth l i)) && eqI (IntKind.wrap .u32 (hgt (nth l i) - hgt (nth l (i - 1)))) 1
def tailOk (l : List AV) (i : Nat) : Bool := eqI ((nth l i).fld 1 |>.fld 0).toInt 0 && upV l i
/-- How many steps stand one behind the other, down from a place. -/
def tailN (l : List AV) : Nat → Nat
  | 0 => 0
  | i + 1 => bif tailOk l (i + 1) then tailN l i + 1 else 0
theorem tailN_le (l : List AV) : ∀ i, tailN l i ≤ i
  | 0 => Nat.le_refl _
  | i + 1 => by
    simp only [tailN]
    have := tailN_le l i
    cases tailOk l (i + 1)
    · exact Nat.zero_le _
    · rw [cond_true]; omega
theorem tailN_ok {l : List AV} : ∀ i m, m ≤ i → i < m + tailN l i → tailOk l m = true
  | 0, m, h1, h2 => by simp only [tailN] at h2; omega
  | i + 1, m, h1, h2 => by
    simp only [tailN] at h2
    cases h : tailOk l (i + 1)
    · rw [h, cond_false] at h2; omega
    · rw [h, cond_true] at h2
      by_cases he : m = i + 1
      · rw [he]; exact h
      · exact tailN_ok i m (by omega) (by omega)
def noneV (o : AV) : Bool := eqI (o.fld 0).toInt 0 && (eqI (o.fld 1).toInt 0 && eqI ((o.fld 2).toSlice.length : Int) 0)
def ancS (gh : Int) (gl gt : List UInt8) (gn : Int) (l : List AV) : Int :=
  bif eqI (l.length : Int) 0 then 6
  else bif !(eqI (((nth l 0).fld 0).fld 0).toInt gh && (eqS (((nth l 0).fld 0).fld 1).toBlob gl && (eqS (((nth l 0).fld 0).fld 2).toBlob gt && (eqI (((nth l 0).fld 0).fld 3).toInt gn && true)))) then 7
  else bif !(noneV ((nth l 0).fld 1)) then 2 else 0
def stepErr (t : List UInt8) (l : List AV) (i : Nat) : Int :=
  bif !(riseV l i) then 8 else bif !(okV (idA ((nth l i).fld 0)) t) then 9 else bif !(joinV l i) then 10 else 0
def stepsV (t : List UInt8) (K : Int) (l : List AV) : Nat → Nat → AV
  | 0, _ => bif ltI (tailN l (l.length - 1) : Int) K then .agg [.int 11, .int (l.length : Int)] else .agg [.int 0, .int 0]
  | j + 1, i => bif !(eqI (stepErr t l i) 0) then .agg [.int (stepErr t l i), .int (i : Int)] else stepsV t K l j (i + 1)
def validV (gh : Int) (gl gt : List UInt8) (gn : Int) (t : List UInt8) (K : Int) (l : List AV) : AV :=
  bif !(eqI (ancS gh gl gt gn l) 0) then .agg [.int (ancS gh gl gt gn l), .int 0] else stepsV t K l l.length 0

theorem above_runs {h : Int} {ls ts : List UInt8} {nc h' : Int} {ls' ts' : List UInt8} {nc' : Int} :
    RunsX 33 [.agg [.int h, .blob ls, .blob ts, .int nc], .agg [.int h', .blob ls', .blob ts', .int nc']] ⟨[.bool (ltI h' h)], [], false⟩ := by
  refine Evt.succ (.of fun n => ?_)
  rw [f33_run, f33_eq]; rfl
theorem riseNext_runs {h : Int} {ls ts : List UInt8} {nc h' : Int} {ls' ts' : List UInt8} {nc' : Int} :
    RunsX 137 [.agg [.int h, .blob ls, .blob ts, .int nc], .agg [.int h', .blob ls', .blob ts', .int nc']] ⟨[.bool (ltI h' h && eqI (IntKind.wrap .u32 (h - h')) 1)], [], false⟩ := by
  refine Evt.succ ((above_runs (h := h) (ls := ls) (ts := ts) (nc := nc) (h' := h') (ls' := ls') (ts' := ts') (nc' := nc')).mono fun n hn => ?_)
  rw [f137_run, f137_eq, hn, step1, toBool_b]
  cases ltI h' h <;> rfl

theorem none_runs {a b : Int} {l : List AV} : RunsX 103 [.agg [.int a, .int b, .slice l]] ⟨[.bool (eqI a 0 && (eqI b 0 && eqI (l.length : Int) 0))], [], false⟩ := by
  have r : RunsX 135 [.agg [.int a, .int b, .slice l], .agg [.int 0, .int 0, .slice []]] ⟨[.bool (eqI a 0 && (eqI b 0 && eqI (l.length : Int) 0))], [], false⟩ := by
    refine Evt.succ ((Evt.ge 2).mono fun n hn => ?_)
    obtain ⟨n, rfl⟩ : ∃ m, n = m + 2 := ⟨n - 2, by omega⟩
    rw [f135_run, f135_eq]
    cases eqI a 0
    · rfl
    · rw [not_t, cond_false, Bool.true_and]
      cases eqI b 0
      · rfl
      · rw [not_t, cond_false, Bool.true_and]
        by_cases h : (l.length : Int) = 0
        · rw [show ((([] : List AV).length : Nat) : Int) = 0 from rfl, eqI_t h, not_t, cond_false, f135_l0_eq, ltI_f (by omega)]; rfl
        · rw [show ((([] : List AV).length : Nat) : Int) = 0 from rfl, eqI_f h]; rfl
  refine Evt.succ (r.mono fun n hn => ?_)
  rw [f103_run, f103_eq, hn, step1]; rfl

theorem anchorS_runs {gh : Int} {gl gt : List UInt8} {gn : Int} {l : List AV} : RunsX 66 [.agg [.int gh, .blob gl, .blob gt, .int gn], .slice l] ⟨[.int (ancS gh gl gt gn l)], [], false⟩ := by
  refine Evt.succ ((none_runs (a := (((nth l 0).fld 1).fld 0).toInt) (b := (((nth l 0).fld 1).fld 1).toInt) (l := (((nth l 0).fld 1).fld 2).toSlice)).mono fun n hn => ?_)
  unfold ancS
  rw [f66_run, f66_eq]
  by_cases h : (l.length : Int) = 0
  · rw [eqI_t h]; rfl
  · rw [eqI_f h, cond_false, cond_false, inR_int (by omega) (by omega), cond_true]
    cases (eqI (((nth l 0).fld 0).fld 0).toInt gh && (eqS (((nth l 0).fld 0).fld 1).toBlob gl && (eqS (((nth l 0).fld 0).fld 2).toBlob gt && (eqI (((nth l 0).fld 0).fld 3).toInt gn && true))))
    · rfl
    · rw [not_t, cond_false, cond_false, cond_true, hn, step1, toBool_b]
      unfold noneV
      cases (eqI (((nth l 0).fld 1).fld 0).toInt 0 && (eqI (((nth l 0).fld 1).fld 1).toInt 0 && eqI (((((nth l 0).fld 1).fld 2).toSlice).length : Int) 0)) <;> rfl

theorem tailLen_runs {l : List AV} (hl : l.length ≤ 100000) : RunsX 108 [.slice l] ⟨[.int (tailN l (l.length - 1) : Int)], [], false⟩ := by
  have hall := Evt.all l.length fun i (hi : i < l.length) => riseNext_runs (h := hgt (nth l i)) (ls := (((nth l i).fld 0).fld 1).toBlob) (ts := (((nth l i).fld 0).fld 2).toBlob) (nc := (((nth l i).fld 0).fld 3).toInt) (h' := hgt (nth l (i - 1))) (ls' := (((nth l (i - 1)).fld 0).fld 1).toBlob) (ts' := (((nth l (i - 1)).fld 0).fld 2).toBlob) (nc' := (((nth l (i - 1)).fld 0).fld 3).toInt)
  refine Evt.succ ((hall.and (Evt.ge (l.length + 2))).mono fun n hn => ?_)
  have key : ∀ (i k x : Nat), i < k → i < l.length → x + i ≤ 100000 → f108_l0 (runE G ext n) n k l (x : Int) (i : Int) = some ⟨[.int ((x + tailN l i : Nat) : Int)], [], false⟩ := by
    intro i
    induction i with
    | zero =>
      intro k x hk hi hx
      obtain ⟨k, rfl⟩ : ∃ j, k = j + 1 := ⟨k - 1, by omega⟩
      rw [f108_l0_eq, ltI_f (by omega)]; rfl
    | succ i ih =>
      intro k x hk hi hx
      obtain ⟨k, rfl⟩ : ∃ j, k = j + 1 := ⟨k - 1, by omega⟩
      have ih' := ih k (x + 1) (by omega) (by omega) (by omega)
      rw [show ((x + 1 : Nat) : Int) = (x : Int) + 1 by omega] at ih'
      have e := hn.1 (i + 1) hi
      simp only [tailN, tailOk]
      rw [f108_l0_eq, ltI_t (by omega), cond_true, inR_nat (by omega), cond_true, cond_true, w64 (x := ((i + 1 : Nat) : Int) - 1) (by omega) (by omega), show ((i + 1 : Nat) : Int) - 1 = (i : Int) by omega, inR_nat (by omega), cond_true, Int.toNat_natCast, Int.toNat_natCast]
      rw [show i + 1 - 1 = i by omega] at e
      unfold hgt at e
      rw [e, step1, toBool_b, w64 (x := (x : Int) + 1) (by omega) (by omega), ih']
      cases eqI (((nth l (i + 1)).fld 1).fld 0).toInt 0
      · rfl
      · rw [not_t, cond_false, Bool.true_and]
        change (bif !(upV l (i + 1)) then _ else _) = _
        cases upV l (i + 1)
        · rfl
        · rw [not_t, cond_false, cond_true, show x + 1 + tailN l i = x + (tailN l i + 1) by omega]
  rw [f108_run, f108_eq, w64 (by omega) (by omega)]
  by_cases h : l.length = 0
  · obtain ⟨n, rfl⟩ : ∃ m, n = m + 1 := ⟨n - 1, by omega⟩
    rw [f108_l0_eq, ltI_f (by omega), cond_false, h]; rfl
  · rw [show (l.length : Int) - 1 = ((l.length - 1 : Nat) : Int) by omega]
    have := key (l.length - 1) n 0 (by omega) (by omega) (by omega)
    rw [Nat.zero_add] at this
    exact this
theorem tailCheck_runs {l : List AV} {K : Int} (hl : l.length ≤ 100000) : RunsX 68 [.slice l, .int K] ⟨[.int (bif ltI (tailN l (l.length - 1) : Int) K then 11 else 0)], [], false⟩ := by
  refine Evt.succ ((tailLen_runs hl).mono fun n hn => ?_)
  rw [f68_run, f68_eq, hn, step1, toInt_i]
  cases ltI (tailN l (l.length - 1) : Int) K <;> rfl

section
variable {gh : Int} {gl gt : List UInt8} {gn : Int} {t : List UInt8} {c1 c2 c3 c4 c5 c6 : Int}
theorem rule1_runs {l : List AV} {i : Nat} (hi : i < l.length) (hl : l.length ≤ 100000) : RunsX 104 [.int (i : Int), .slice l] ⟨[.bool (riseV l i)], [], false⟩ := by
  have r := above_runs (h := hgt (nth l i)) (ls := (((nth l i).fld 0).fld 1).toBlob) (ts := (((nth l i).fld 0).fld 2).toBlob) (nc := (((nth l i).fld 0).fld 3).toInt) (h' := hgt (nth l (i - 1))) (ls' := (((nth l (i - 1)).fld 0).fld 1).toBlob) (ts' := (((nth l (i - 1)).fld 0).fld 2).toBlob) (nc' := (((nth l (i - 1)).fld 0).fld 3).toInt)
  refine Evt.succ (r.mono fun n hn => ?_)
  unfold riseV
  rw [f104_run, f104_eq]
  by_cases h : (i : Int) = 0
  · rw [eqI_t h]; rfl
  · rw [eqI_f h, cond_false, cond_false, inR_nat hi, cond_true, w64 (by omega) (by omega), show (i : Int) - 1 = ((i - 1 : Nat) : Int) by omega, inR_nat (by omega), cond_true, Int.toNat_natCast, Int.toNat_natCast]
    unfold hgt at hn
    rw [hn, step1]; rfl
theorem rule2_runs {l : List AV} {i : Nat} (hi : i < l.length) (H : HeadA ((nth l i).fld 0)) (ht : t.length = 32) : RunsX 105 [.int (i : Int), .slice l, Cfg gh gl gt gn t c1 c2 c3 c4 c5 c6] ⟨[.bool (okV (idA ((nth l i).fld 0)) t)], [], false⟩ := by
  refine Evt.succ (((id_runs H).and (workOk_runs (idA_len ((nth l i).fld 0)) ht)).mono fun n hn => ?_)
  obtain ⟨g1, g2⟩ := hn
  unfold idA at g2
  rw [f105_run, f105_eq, inR_nat hi, cond_true, Int.toNat_natCast, g1, step1, toBlob_b, g2, step1]
  rfl
theorem rule3_runs {l : List AV} {i : Nat} (hi : i < l.length) (hl : l.length ≤ 100000) (hs : Steps l) : RunsX 106 [.int (i : Int), .slice l] ⟨[.bool (joinV l i)], [], false⟩ := by
  have r := holds_runs' (h := (((nth l i).fld 0).fld 0).toInt) (ls := (((nth l i).fld 0).fld 1).toBlob) (ts := (((nth l i).fld 0).fld 2).toBlob) (nc := (((nth l i).fld 0).fld 3).toInt) (i := (((nth l i).fld 1).fld 0).toInt) (n := (((nth l i).fld 1).fld 1).toInt) (hs i hi).2 (hs (i - 1) (by omega)).1
  refine Evt.succ (r.mono fun n hn => ?_)
  unfold joinV
  rw [f106_run, f106_eq]
  by_cases h : (i : Int) = 0
  · rw [eqI_t h]; rfl
  · rw [eqI_f h, cond_false, cond_false, inR_nat hi, cond_true, w64 (by omega) (by omega), show (i : Int) - 1 = ((i - 1 : Nat) : Int) by omega, inR_nat (by omega), cond_true, Int.toNat_natCast, Int.toNat_natCast, hn, step1]
    rfl
theorem rules_runs {l : List AV} : RunsX 67 [Cfg gh gl gt gn t c1 c2 c3 c4 c5 c6, .slice l] ⟨[.slice [.agg [.clo 104 [.slice l], .int 8], .agg [.clo 105 [.slice l, Cfg gh gl gt gn t c1 c2 c3 c4 c5 c6], .int 9], .agg [.clo 106 [.slice l], .int 10]]], [], true⟩ := by
  refine Evt.succ (.of fun n => ?_)
  rw [f67_run, f67_eq]
  rfl

theorem validCheck_runs {l : List AV} (ht : t.length = 32) (hl : l.length ≤ 100000) (hs : Steps l) : RunsX 32 [Cfg gh gl gt gn t c1 c2 c3 c4 c5 c6, .slice l] ⟨[validV gh gl gt gn t c2 l], [], false⟩ := by
  have hall := Evt.all l.length fun i (hi : i < l.length) =>
    (rule1_runs hi hl).and ((rule2_runs (gh := gh) (gl := gl) (gt := gt) (gn := gn) (t := t) (c1 := c1) (c2 := c2) (c3 := c3) (c4 := c4) (c5 := c5) (c6 := c6) hi (hs i hi).1 ht).and (rule3_runs hi hl hs))
  refine Evt.succ (((((anchorS_runs (gh := gh) (gl := gl) (gt := gt) (gn := gn) (l := l)).and (rules_runs (gh := gh) (gl := gl) (gt := gt) (gn := gn) (t := t) (c1 := c1) (c2 := c2) (c3 := c3) (c4 := c4) (c5 := c5) (c6 := c6) (l := l))).and hall).and ((tailCheck_runs (K := c2) hl).and (Evt.ge (l.length + 10)))).mono fun n hn => ?_)
  obtain ⟨⟨⟨g1, g2⟩, g3⟩, g4, g5⟩ := hn
  unfold validV
  rw [f32_run, f32_eq, g1, step1, toInt_i]
  by_cases h0 : ancS gh gl gt gn l = 0
  · rw [eqI_t h0, not_t, cond_false, cond_false, g2, step1f, toSlice_s]
    obtain ⟨R, hR⟩ : ∃ R : List AV, R = [.agg [.clo 104 [.slice l], .int 8], .agg [.clo 105 [.slice l, Cfg gh gl gt gn t c1 c2 c3 c4 c5 c6], .int 9], .agg [.clo 106 [.slice l], .int 10]] := ⟨_, rfl⟩
    have hlen : R.length = 3 := by rw [hR]; rfl
    rw [← hR]
    have n0 : nth R (Int.toNat 0) = .agg [.clo 104 [.slice l], .int 8] := by rw [hR]; rfl
    have n1 : nth R (Int.toNat 1) = .agg [.clo 105 [.slice l, Cfg gh gl gt gn t c1 c2 c3 c4 c5 c6], .int 9] := by rw [hR]; rfl
    have n2 : nth R (Int.toNat 2) = .agg [.clo 106 [.slice l], .int 10] := by rw [hR]; rfl
    clear hR
    have w0 : IntKind.wrap .i64 (0 + 1) = 1 := by decide
    have w1 : IntKind.wrap .i64 (1 + 1) = 2 := by decide
    have w2 : IntKind.wrap .i64 (2 + 1) = 3 := by decide
    have key : ∀ (j k i : Nat) (o1 o2 : Int), i + j = l.length → j < k → f32_l0 (runE G ext n) n k l gh gl gt gn t c1 c2 c3 c4 c5 c6 R (l.length : Int) (i : Int) o1 o2 = some ⟨[stepsV t c2 l j i], [], false⟩ := by
      intro j
      induction j with
      | zero =>
        intro k i o1 o2 hi hk
        obtain ⟨k, rfl⟩ : ∃ j, k = j + 1 := ⟨k - 1, by omega⟩
        rw [f32_l0_eq, ltI_f (by omega), cond_false, g4, step1, toInt_i]
        simp only [stepsV]
        cases ltI (tailN l (l.length - 1) : Int) c2 <;> rfl
      | succ j ih =>
        intro k i o1 o2 hi hk
        obtain ⟨k, rfl⟩ : ∃ j, k = j + 1 := ⟨k - 1, by omega⟩
        obtain ⟨m, hm⟩ : ∃ m, n = m + 4 := ⟨n - 4, by omega⟩
        obtain ⟨e1, e2, e3⟩ := g3 i (by omega)
        have ih' := ih k (i + 1) o1 o2 (by omega) (by omega)
        rw [show ((i + 1 : Nat) : Int) = (i : Int) + 1 by omega] at ih'
        have fin : ∀ m o1 o2, f32_l2 (runE G ext n) n k (m + 1) l gh gl gt gn t c1 c2 c3 c4 c5 c6 R (i : Int) (l.length : Int) (i : Int) R 3 3 o1 o2 = f32_l0 (runE G ext n) n k l gh gl gt gn t c1 c2 c3 c4 c5 c6 R (l.length : Int) ((i : Int) + 1) o1 o2 := by
          intro m o1 o2
          rw [f32_l2_eq, ltI_f (by omega), cond_false, w64 (by omega) (by omega)]
        have st2 : ∀ m o1 o2, f32_l2 (runE G ext n) n k (m + 2) l gh gl gt gn t c1 c2 c3 c4 c5 c6 R (i : Int) (l.length : Int) (i : Int) R 3 2 o1 o2 = bif !(joinV l i) then some ⟨[.agg [.int 10, .int (i : Int)]], [], false⟩ else f32_l2 (runE G ext n) n k (m + 1) l gh gl gt gn t c1 c2 c3 c4 c5 c6 R (i : Int) (l.length : Int) (i : Int) R 3 3 o1 o2 := by
          intro m o1 o2
          have b0 : Nat.beq ((AV.agg [.clo 106 [.slice l], .int 10]).fld 0).cloF 104 = false := rfl
          have b1 : Nat.beq ((AV.agg [.clo 106 [.slice l], .int 10]).fld 0).cloF 105 = false := rfl
          have b2 : Nat.beq ((AV.agg [.clo 106 [.slice l], .int 10]).fld 0).cloF 106 = true := rfl
          have q : nth ((AV.agg [.clo 106 [.slice l], .int 10]).fld 0).cloXs 0 = .slice l := rfl
          rw [f32_l2_eq, ltI_t (by omega), cond_true, hlen, inR_int (by omega) (by omega), cond_true, n2, b0, cond_false, b1, cond_false, b2, cond_true, q, e3, step1, toBool_b, w2]
          rfl
        have st1 : ∀ m o1 o2, f32_l2 (runE G ext n) n k (m + 3) l gh gl gt gn t c1 c2 c3 c4 c5 c6 R (i : Int) (l.length : Int) (i : Int) R 3 1 o1 o2 = bif !(okV (idA ((nth l i).fld 0)) t) then some ⟨[.agg [.int 9, .int (i : Int)]], [], false⟩ else f32_l2 (runE G ext n) n k (m + 2) l gh gl gt gn t c1 c2 c3 c4 c5 c6 R (i : Int) (l.length : Int) (i : Int) R 3 2 o1 o2 := by
          intro m o1 o2
          have b0 : Nat.beq ((AV.agg [.clo 105 [.slice l, Cfg gh gl gt gn t c1 c2 c3 c4 c5 c6], .int 9]).fld 0).cloF 104 = false := rfl
          have b1 : Nat.beq ((AV.agg [.clo 105 [.slice l, Cfg gh gl gt gn t c1 c2 c3 c4 c5 c6], .int 9]).fld 0).cloF 105 = true := rfl
          have q : nth ((AV.agg [.clo 105 [.slice l, Cfg gh gl gt gn t c1 c2 c3 c4 c5 c6], .int 9]).fld 0).cloXs 0 = .slice l := rfl
          have q2 : nth ((AV.agg [.clo 105 [.slice l, Cfg gh gl gt gn t c1 c2 c3 c4 c5 c6], .int 9]).fld 0).cloXs 1 = Cfg gh gl gt gn t c1 c2 c3 c4 c5 c6 := rfl
          rw [f32_l2_eq, ltI_t (by omega), cond_true, hlen, inR_int (by omega) (by omega), cond_true, n1, b0, cond_false, b1, cond_true, q, q2, e2, step1, toBool_b, w1]
          rfl
        have st0 : ∀ m o1 o2, f32_l2 (runE G ext n) n k (m + 4) l gh gl gt gn t c1 c2 c3 c4 c5 c6 R (i : Int) (l.length : Int) (i : Int) R 3 0 o1 o2 = bif !(riseV l i) then some ⟨[.agg [.int 8, .int (i : Int)]], [], false⟩ else f32_l2 (runE G ext n) n k (m + 3) l gh gl gt gn t c1 c2 c3 c4 c5 c6 R (i : Int) (l.length : Int) (i : Int) R 3 1 o1 o2 := by
          intro m o1 o2
          have b0 : Nat.beq ((AV.agg [.clo 104 [.slice l], .int 8]).fld 0).cloF 104 = true := rfl
          have q : nth ((AV.agg [.clo 104 [.slice l], .int 8]).fld 0).cloXs 0 = .slice l := rfl
          rw [f32_l2_eq, ltI_t (by omega), cond_true, hlen, inR_int (by omega) (by omega), cond_true, n0, b0, cond_true, q, e1, step1, toBool_b, w0]
          rfl
        simp only [stepsV, stepErr]
        rw [f32_l0_eq, ltI_t (by omega), cond_true, hlen]
        subst hm
        have h3 : ((3 : Nat) : Int) = 3 := rfl
        rw [h3, st0 m o1 o2]
        cases riseV l i
        · rfl
        · rw [not_t, cond_false, cond_false, st1 m o1 o2]
          cases okV (idA ((nth l i).fld 0)) t
          · rfl
          · rw [not_t, cond_false, cond_false, st2 m o1 o2]
            cases joinV l i
            · rfl
            · rw [not_t, cond_false, cond_false, fin m o1 o2]
              exact ih'
    exact key l.length n 0 0 0 (by omega) (by omega)
  · rw [eqI_f h0]; rfl

theorem stepsV_spec {K : Int} {l : List AV} : ∀ j i, (stepsV t K l j i = stepsV t K l 0 0 ∧ ∀ k, i ≤ k → k < i + j → stepErr t l k = 0) ∨ ∃ k, i ≤ k ∧ k < i + j ∧ stepErr t l k ≠ 0 ∧ stepsV t K l j i = .agg [.int (stepErr t l k), .int (k : Int)] ∧ ∀ m, i ≤ m → m < k → stepErr t l m = 0
  | 0, _ => .inl ⟨rfl, fun k h1 h2 => by omega⟩
  | j + 1, i => by
    rw [show stepsV t K l (j + 1) i = bif !(eqI (stepErr t l i) 0) then .agg [.int (stepErr t l i), .int (i : Int)] else stepsV t K l j (i + 1) from rfl]
    by_cases hb : stepErr t l i = 0
    · rw [eqI_t hb, not_t, cond_false]
      rcases stepsV_spec (K := K) (l := l) j (i + 1) with ⟨h1, h2⟩ | ⟨k, h1, h2, h3, h4, h5⟩
      · refine .inl ⟨h1, fun k k1 k2 => ?_⟩
        by_cases he : k = i
        · rw [he]; exact hb
        · exact h2 k (by omega) (by omega)
      · refine .inr ⟨k, by omega, by omega, h3, h4, fun m m1 m2 => ?_⟩
        by_cases he : m = i
        · rw [he]; exact hb
        · exact h5 m (by omega) m2
    · rw [eqI_f hb, not_f, cond_true]
      exact .inr ⟨i, Nat.le_refl _, by omega, hb, rfl, fun m m1 m2 => by omega⟩
/-- A proof without a fault. -/
structure Valid (gh : Int) (gl gt : List UInt8) (gn : Int) (t : List UInt8) (K : Int) (l : List AV) : Prop where
  anc : ancS gh gl gt gn l = 0
  step : ∀ k, k < l.length → stepErr t l k = 0
  tail : ¬ (tailN l (l.length - 1) : Int) < K
theorem validV_ok {K : Int} {l : List AV} (h : Valid gh gl gt gn t K l) : validV gh gl gt gn t K l = .agg [.int 0, .int 0] := by
  unfold validV
  rw [eqI_t h.anc, not_t, cond_false]
  rcases stepsV_spec (t := t) (K := K) (l := l) l.length 0 with ⟨h1, h2⟩ | ⟨k, h1, h2, h3, h4, h5⟩
  · rw [h1]
    simp only [stepsV]
    rw [ltI_f h.tail, cond_false]
  · exact absurd (h.step k (by omega)) h3
theorem validV_steps {K : Int} {l : List AV} (h0 : ancS gh gl gt gn l = 0) (h : ∀ k, k < l.length → stepErr t l k = 0) : validV gh gl gt gn t K l = bif ltI (tailN l (l.length - 1) : Int) K then .agg [.int 11, .int (l.length : Int)] else .agg [.int 0, .int 0] := by
  unfold validV
  rw [eqI_t h0, not_t, cond_false]
  rcases stepsV_spec (t := t) (K := K) (l := l) l.length 0 with ⟨h1, h2⟩ | ⟨k, h1, h2, h3, h4, h5⟩
  · exact h1
  · exact absurd (h k (by omega)) h3
theorem validV_zero {K : Int} {l : List AV} (h : ((validV gh gl gt gn t K l).fld 0).toInt = 0) : Valid gh gl gt gn t K l := by
  by_cases h0 : ancS gh gl gt gn l = 0
  · rcases stepsV_spec (t := t) (K := K) (l := l) l.length 0 with ⟨h1, h2⟩ | ⟨k, h1, h2, h3, h4, h5⟩
    · have hs : ∀ k, k < l.length → stepErr t l k = 0 := fun k hk => h2 k (by omega) (by omega)
      rw [validV_steps h0 hs] at h
      refine ⟨h0, hs, fun hc => ?_⟩
      rw [ltI_t hc, cond_true] at h
      exact absurd (show (11 : Int) = 0 from h) (by decide)
    · unfold validV at h
      rw [eqI_t h0, not_t, cond_false, h4] at h
      exact absurd (show stepErr t l k = 0 from h) h3
  · unfold validV at h
    rw [eqI_f h0, not_f, cond_true] at h
    exact absurd (show ancS gh gl gt gn l = 0 from h) h0
theorem stepErr_zero {l : List AV} {i : Nat} (h : stepErr t l i = 0) : riseV l i = true ∧ okV (idA ((nth l i).fld 0)) t = true ∧ joinV l i = true := by
  unfold stepErr at h
  cases h1 : riseV l i
  · rw [h1, not_f, cond_true] at h; exact absurd h (by decide)
  · rw [h1, not_t, cond_false] at h
    cases h2 : okV (idA ((nth l i).fld 0)) t
    · rw [h2, not_f, cond_true] at h; exact absurd h (by decide)
    · rw [h2, not_t, cond_false] at h
      cases h3 : joinV l i
      · rw [h3, not_f, cond_true] at h; exact absurd h (by decide)
      · exact ⟨rfl, rfl, rfl⟩
theorem ancS_zero {l : List AV} (h : ancS gh gl gt gn l = 0) : 0 < l.length ∧ (eqI (((nth l 0).fld 0).fld 0).toInt gh && (eqS (((nth l 0).fld 0).fld 1).toBlob gl && (eqS (((nth l 0).fld 0).fld 2).toBlob gt && (eqI (((nth l 0).fld 0).fld 3).toInt gn && true)))) = true := by
  unfold ancS at h
  by_cases h0 : (l.length : Int) = 0
  · rw [eqI_t h0, cond_true] at h; exact absurd h (by decide)
  · rw [eqI_f h0, cond_false] at h
    refine ⟨by omega, ?_⟩
    cases hc : (eqI (((nth l 0).fld 0).fld 0).toInt gh && (eqS (((nth l 0).fld 0).fld 1).toBlob gl && (eqS (((nth l 0).fld 0).fld 2).toBlob gt && (eqI (((nth l 0).fld 0).fld 3).toInt gn && true))))
    · rw [hc, not_f, cond_true] at h; exact absurd h (by decide)
    · rfl
theorem stepErr_take {l : List AV} {m i : Nat} (h : i < m) : stepErr t (l.take m) i = stepErr t l i := by
  have e : nth (l.take m) i = nth l i := nth_take h
  have e2 : nth (l.take m) (i - 1) = nth l (i - 1) := nth_take (by omega)
  unfold stepErr riseV joinV hj
  rw [e, e2]
theorem ancS_take {l : List AV} {m : Nat} (h : 0 < m) (hl : 0 < l.length) : ancS gh gl gt gn (l.take m) = ancS gh gl gt gn l := by
  have e : nth (l.take m) 0 = nth l 0 := nth_take h
  unfold ancS
  rw [e, eqI_f (show ¬ ((l.take m).length : Int) = 0 by rw [List.length_take]; omega), eqI_f (show ¬ (l.length : Int) = 0 by omega)]
end

def vstep : AV := .agg [.agg [.int 0, .blob (List.replicate 32 0), .blob (List.replicate 32 0), .int 0], .agg [.int 0, .int 0, .slice []]]
theorem vsteps (k : Nat) : Steps (List.replicate k vstep) := by
  intro i hi
  rw [nth_lt hi, List.getElem_replicate]
  exact ⟨⟨by decide, by decide, by decide, by decide, by decide, by decide⟩, no_blobs⟩
theorem okV_full {id : List UInt8} (h : id.length = 32) : okV id (List.replicate 32 255) = true := by
  unfold okV
  have h1 := natN_lt id
  rw [h] at h1
  have h2 : natN (List.replicate 32 255) = 256 ^ 32 - 1 := by decide +kernel
  rw [h2]
  exact decide_eq_true (by omega)
def fillL (i : Nat) : List UInt8 := List.replicate i 255 ++ List.replicate (32 - i) 0
theorem fillL_set {i : Nat} (h : i < 32) : (fillL i).set i (UInt8.ofNat (Int.toNat 255)) = fillL (i + 1) := by
  unfold fillL
  rw [List.set_append_right _ _ (by simp), List.length_replicate, Nat.sub_self, show 32 - i = (32 - (i + 1)) + 1 by omega, List.replicate_succ, List.set_cons_zero, List.replicate_succ' (n := i), List.append_assoc]
  rfl
theorem tmodS_u64 (a : Int) (L : Nat) (h0 : 0 < L) (hL : L ≤ 100000) : ∃ u : Nat, 1 ≤ u ∧ u ≤ L ∧ IntKind.wrap .i64 (1 + IntKind.wrap .i64 (Int.tmod (IntKind.wrap .u64 a) (IntKind.wrap .u64 (L : Int)))) = (u : Int) := by
  rw [wrap64, wrap64, show (L : Int) % 18446744073709551616 = (L : Int) by omega, Int.tmod_eq_emod_of_nonneg (by omega)]
  have h1 : 0 ≤ (a % 18446744073709551616) % (L : Int) := Int.emod_nonneg _ (by omega)
  have h2 : (a % 18446744073709551616) % (L : Int) < (L : Int) := Int.emod_lt_of_pos _ (by omega)
  refine ⟨((a % 18446744073709551616) % (L : Int)).toNat + 1, by omega, by omega, ?_⟩
  rw [w64 (x := (a % 18446744073709551616) % (L : Int)) (by omega) (by omega), w64 (by omega) (by omega)]; omega
theorem steps_take {l : List AV} (h : Steps l) (m : Nat) : Steps (l.take m) := by
  intro i hi
  rw [List.length_take] at hi
  rw [nth_take (by omega)]
  exact h i (by omega)
end Go.Proofs.YtogehijjhibdkaaGreat.Ev
