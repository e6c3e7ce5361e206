/- Chains: both programs tell the same first fault. -/
import Derived.Test.YtogehijjhibdkaaGreatEvPVec
import Derived.Test.YtogehijjhibdkaaGreatEvPBlock
namespace Go.Proofs.YtogehijjhibdkaaGreat.Ev
open Go Go.RowKit

def BlockA (y : AV) : Prop := HeadA (y.fld 0) ∧ Shorter ((y.fld 1).toSlice) ∧ ((y.fld 1).toSlice).length ≤ 100000
def Blocks (l : List AV) : Prop := ∀ i, i < l.length → BlockA (nth l i)
theorem Blocks.heads {l : List AV} (h : Blocks l) : Heads l := fun i hi => (h i hi).1

def ancV (gh : Int) (gl gt : List UInt8) (gn : Int) (y : AV) (i : Nat) : Int :=
  bif eqI (i : Int) 0 then (bif !(eqI (y.fld 0).toInt gh && (eqS (y.fld 1).toBlob gl && (eqS (y.fld 2).toBlob gt && (eqI (y.fld 3).toInt gn && true)))) then 7 else 0) else 0
def formV (b : AV) (i : Nat) (v : List AV) : Int := checkV ((b.fld 0).fld 0).toInt ((b.fld 0).fld 1).toBlob ((b.fld 0).fld 2).toBlob ((b.fld 1).toSlice) (i : Int) v
def blkErr (gh : Int) (gl gt : List UInt8) (gn : Int) (t : List UInt8) (l : List AV) (i : Nat) : Int :=
  bif !(eqI (ancV gh gl gt gn ((nth l i).fld 0) i) 0) then ancV gh gl gt gn ((nth l i).fld 0) i
  else bif !(eqI (formV (nth l i) i (vecV t l i)) 0) then formV (nth l i) i (vecV t l i)
  else bif !(okV (idA ((nth l i).fld 0)) t) then 9 else 0
/-- The first fault, from a block on. -/
def faultV (gh : Int) (gl gt : List UInt8) (gn : Int) (t : List UInt8) (l : List AV) : Nat → Nat → AV
  | 0, _ => .agg [.int 0, .int 0]
  | j + 1, i => bif !(eqI (blkErr gh gl gt gn t l i) 0) then .agg [.int (blkErr gh gl gt gn t l i), .int (i : Int)] else faultV gh gl gt gn t l j (i + 1)
def chainV (gh : Int) (gl gt : List UInt8) (gn : Int) (t : List UInt8) (l : List AV) : AV :=
  if l.length = 0 then .agg [.int 6, .int 0] else if 1024 < l.length then .agg [.int 4, .int 1024] else faultV gh gl gt gn t l l.length 0
abbrev Cfg (gh : Int) (gl gt : List UInt8) (gn : Int) (t : List UInt8) (c1 c2 c3 c4 c5 c6 : Int) : AV := .agg [Hd gh gl gt gn, .blob t, .int c1, .int c2, .int c3, .int c4, .int c5, .int c6]

theorem cfg_of {y : AV} (h : (Ty.struct [.struct [.int .u32, .blob 32, .blob 32, .int .u64], .blob 32, .int .i64, .int .i64, .int .i64, .int .i64, .int .i64, .int .i64]).Has y) :
    ∃ gh gl gt gn t c1 c2 c3 c4 c5 c6, y = Cfg gh gl gt gn t c1 c2 c3 c4 c5 c6 ∧ t.length = 32 ∧ HeadOk gh gl gt gn := by
  obtain ⟨l0, rfl, y0, s0, rfl, ⟨l1, rfl, z0, t0, rfl, ⟨a, rfl, ha⟩, z1, t1, rfl, ⟨b, rfl, hb⟩, z2, t2, rfl, ⟨c, rfl, hc⟩, z3, t3, rfl, ⟨d, rfl, hd⟩, rfl⟩, y1, s1, rfl, ⟨t, rfl, ht⟩, y2, s2, rfl, ⟨c1, rfl, _⟩, y3, s3, rfl, ⟨c2, rfl, _⟩, y4, s4, rfl, ⟨c3, rfl, _⟩, y5, s5, rfl, ⟨c4, rfl, _⟩, y6, s6, rfl, ⟨c5, rfl, _⟩, y7, s7, rfl, ⟨c6, rfl, _⟩, rfl⟩ := h
  have h1 := wfu32 ha
  have h2 := wfu64 hd
  exact ⟨a, b, c, d, t, c1, c2, c3, c4, c5, c6, rfl, ht, h1.1, by omega, hb, hc, h2.1, by omega⟩

theorem eqI_same (a : Int) : eqI a a = true := eqI_t rfl
theorem agg_norm (a b : Int) : AV.agg [.int (AV.int a).toInt, .int (AV.int b).toInt] = .agg [.int a, .int b] := rfl

section
variable {gh : Int} {gl gt : List UInt8} {gn : Int} {t : List UInt8} {c1 c2 c3 c4 c5 c6 : Int}

theorem lookAnchor_runs {i : Nat} {h : Int} {ls ts : List UInt8} {nc : Int} {x v : List AV} :
    RunsX 39 [.agg [Cfg gh gl gt gn t c1 c2 c3 c4 c5 c6, .int (i : Int), .agg [.agg [.int h, .blob ls, .blob ts, .int nc], .slice x], .slice v]] ⟨[.int (ancV gh gl gt gn (.agg [.int h, .blob ls, .blob ts, .int nc]) i)], [], false⟩ := by
  refine Evt.succ (.of fun n => ?_)
  rw [f39_run, f39_eq]
  unfold ancV
  cases eqI (i : Int) 0
  · rfl
  · rw [cond_true, cond_true]
    show _ = some (⟨[.int (bif !(eqI h gh && (eqS ls gl && (eqS ts gt && (eqI nc gn && true)))) then 7 else 0)], [], false⟩ : Res)
    cases (eqI h gh && (eqS ls gl && (eqS ts gt && (eqI nc gn && true)))) <;> rfl
theorem lookForm_runs {i : Nat} {h : Int} {ls ts : List UInt8} {nc : Int} {x v : List AV} (hi : i ≤ 100000) (hv : v.length ≤ 100000) (hb : Blob32 v) (hl : x.length ≤ 100000) (hs : Shorter x) :
    RunsX 40 [.agg [Cfg gh gl gt gn t c1 c2 c3 c4 c5 c6, .int (i : Int), .agg [.agg [.int h, .blob ls, .blob ts, .int nc], .slice x], .slice v]] ⟨[.int (checkV h ls ts x (i : Int) v)], [], false⟩ := by
  refine Evt.succ ((check_runs (h := h) (n := nc) (h' := (i : Int)) (b := ls) (c := ts) hv hb hl hs).mono fun n hn => ?_)
  rw [f40_run, f40_eq, show IntKind.wrap .u32 (i : Int) = (i : Int) by rw [wrap32]; omega]
  repeat (first | rw [step1] | rw [step1f] | rw [step2] | rw [step3] | rw [toBool_b] | rw [toInt_i] | rw [toStr_s] | rw [toBlob_b] | rw [toSlice_s] | rw [fld0] | rw [fld1] | rw [fld2] | rw [fld3] | rw [cond_true] | rw [cond_false] | rw [not_t] | rw [not_f] | rw [hn])
  rfl
theorem lookWork_runs {i : Nat} {h : Int} {ls ts : List UInt8} {nc : Int} {x v : List AV} (H : HeadOk h ls ts nc) (ht : t.length = 32) :
    RunsX 41 [.agg [Cfg gh gl gt gn t c1 c2 c3 c4 c5 c6, .int (i : Int), .agg [.agg [.int h, .blob ls, .blob ts, .int nc], .slice x], .slice v]] ⟨[.int (bif !(okV (idV h ls ts nc) t) then 9 else 0)], [], false⟩ := by
  refine Evt.succ (((chainId_runs (x := x) H).and (workOk_runs (idV_len h ls ts nc) ht)).mono fun n hn => ?_)
  rw [f41_run, f41_eq]
  repeat (first | rw [step1] | rw [step1f] | rw [step2] | rw [step3] | rw [toBool_b] | rw [toInt_i] | rw [toStr_s] | rw [toBlob_b] | rw [toSlice_s] | rw [fld0] | rw [fld1] | rw [fld2] | rw [fld3] | rw [cond_true] | rw [cond_false] | rw [not_t] | rw [not_f] | rw [hn.1] | rw [hn.2])
  cases okV (idV h ls ts nc) t <;> rfl

theorem blkErr_a {l : List AV} {i : Nat} (h : eqI (ancV gh gl gt gn ((nth l i).fld 0) i) 0 = false) : blkErr gh gl gt gn t l i = ancV gh gl gt gn ((nth l i).fld 0) i := by
  unfold blkErr; rw [h]; rfl
theorem blkErr_f {l : List AV} {i : Nat} (h : eqI (ancV gh gl gt gn ((nth l i).fld 0) i) 0 = true) (h2 : eqI (formV (nth l i) i (vecV t l i)) 0 = false) : blkErr gh gl gt gn t l i = formV (nth l i) i (vecV t l i) := by
  unfold blkErr; rw [h, h2]; rfl
theorem blkErr_o {l : List AV} {i : Nat} (h : eqI (ancV gh gl gt gn ((nth l i).fld 0) i) 0 = true) (h2 : eqI (formV (nth l i) i (vecV t l i)) 0 = true) : blkErr gh gl gt gn t l i = bif !(okV (idA ((nth l i).fld 0)) t) then 9 else 0 := by
  unfold blkErr; rw [h, h2]; rfl

theorem chainCheck_runs {l : List AV} (ht : t.length = 32) (hB : Blocks l) : RunsX 11 [Cfg gh gl gt gn t c1 c2 c3 c4 c5 c6, .slice l] ⟨[chainV gh gl gt gn t l], [], false⟩ := by
  unfold chainV
  by_cases h0 : l.length = 0
  · refine Evt.succ (.of fun n => ?_)
    rw [if_pos h0, f11_run, f11_eq, eqI_t (by omega)]; rfl
  by_cases h1 : 1024 < l.length
  · refine Evt.succ (.of fun n => ?_)
    rw [if_neg h0, if_pos h1, f11_run, f11_eq, eqI_f (by omega), ltI_t (by omega)]; rfl
  rw [if_neg h0, if_neg h1]
  have hall := Evt.all l.length fun i (hi : i < l.length) =>
    ((lookAnchor_runs (gh := gh) (gl := gl) (gt := gt) (gn := gn) (t := t) (c1 := c1) (c2 := c2) (c3 := c3) (c4 := c4) (c5 := c5) (c6 := c6) (i := i) (h := (((nth l i).fld 0).fld 0).toInt) (ls := (((nth l i).fld 0).fld 1).toBlob) (ts := (((nth l i).fld 0).fld 2).toBlob) (nc := (((nth l i).fld 0).fld 3).toInt) (x := ((nth l i).fld 1).toSlice) (v := vecV t l i)).and
     (lookForm_runs (gh := gh) (gl := gl) (gt := gt) (gn := gn) (t := t) (c1 := c1) (c2 := c2) (c3 := c3) (c4 := c4) (c5 := c5) (c6 := c6) (i := i) (h := (((nth l i).fld 0).fld 0).toInt) (ls := (((nth l i).fld 0).fld 1).toBlob) (ts := (((nth l i).fld 0).fld 2).toBlob) (nc := (((nth l i).fld 0).fld 3).toInt) (x := ((nth l i).fld 1).toSlice) (v := vecV t l i) (by omega) (Nat.le_trans (vecV_len t l i) (by omega)) (vecV_blob t l i) (hB i hi).2.2 (hB i hi).2.1)).and
    ((lookWork_runs (gh := gh) (gl := gl) (gt := gt) (gn := gn) (t := t) (c1 := c1) (c2 := c2) (c3 := c3) (c4 := c4) (c5 := c5) (c6 := c6) (i := i) (x := ((nth l i).fld 1).toSlice) (v := vecV t l i) (hB i hi).1 ht).and
     (behind_runs (t := t) (v := vecV t l i) (x := ((nth l i).fld 1).toSlice) i (hB i hi).1 ht (Nat.le_trans (vecV_len t l i) (by omega)) (vecV_blob t l i)))
  refine Evt.succ ((hall.and (Evt.ge (l.length + 10))).mono fun n hn => ?_)
  have key : ∀ (j k i : Nat) (o1 o2 : Int), i + j = l.length → j < k → f11_l1 (runE G ext n) n k gh gl gt gn t c1 c2 c3 c4 c5 c6 (vecV t l i) l (l.length : Int) (i : Int) o1 o2 = some ⟨[faultV gh gl gt gn t l j i], [], false⟩ := by
    intro j
    induction j with
    | zero =>
      intro k i o1 o2 hi hk
      obtain ⟨k, rfl⟩ : ∃ j, k = j + 1 := ⟨k - 1, by omega⟩
      rw [f11_l1_eq, ltI_f (by omega)]; rfl
    | succ j ih =>
      intro k i o1 o2 hi hk
      obtain ⟨k, rfl⟩ : ∃ j, k = j + 1 := ⟨k - 1, by omega⟩
      obtain ⟨m, hm⟩ : ∃ m, n = m + 4 := ⟨n - 4, by omega⟩
      obtain ⟨⟨e1, e2⟩, e3, e4⟩ := hn.1 i (by omega)
      have ih' := ih k (i + 1) o1 o2 (by omega) (by omega)
      rw [show ((i + 1 : Nat) : Int) = (i : Int) + 1 by omega] at ih'
      simp only [vecV, behindV] at ih'
      rw [f11_l1_eq, ltI_t (by omega), cond_true, inR_nat (by omega), cond_true, Int.toNat_natCast]
      simp only [faultV]
      generalize hL : AV.agg [AV.agg [AV.agg [.int gh, .blob gl, .blob gt, .int gn], .blob t, .int c1, .int c2, .int c3, .int c4, .int c5, .int c6], .int (i : Int), .agg [.agg [.int (((nth l i).fld 0).fld 0).toInt, .blob (((nth l i).fld 0).fld 1).toBlob, .blob (((nth l i).fld 0).fld 2).toBlob, .int (((nth l i).fld 0).fld 3).toInt], .slice ((nth l i).fld 1).toSlice], .slice (vecV t l i)] = Lk at *
      have a1 : ancV gh gl gt gn ((nth l i).fld 0) i = ancV gh gl gt gn (.agg [.int (((nth l i).fld 0).fld 0).toInt, .blob (((nth l i).fld 0).fld 1).toBlob, .blob (((nth l i).fld 0).fld 2).toBlob, .int (((nth l i).fld 0).fld 3).toInt]) i := rfl
      have n0 : nth [AV.clo 39 [Lk], .clo 40 [Lk], .clo 41 [Lk]] (Int.toNat 0) = .clo 39 [Lk] := rfl
      have n1 : nth [AV.clo 39 [Lk], .clo 40 [Lk], .clo 41 [Lk]] (Int.toNat 1) = .clo 40 [Lk] := rfl
      have n2 : nth [AV.clo 39 [Lk], .clo 40 [Lk], .clo 41 [Lk]] (Int.toNat 2) = .clo 41 [Lk] := rfl
      have w0 : IntKind.wrap .i64 (0 + 1) = 1 := by decide
      have w1 : IntKind.wrap .i64 (1 + 1) = 2 := by decide
      have w2 : IntKind.wrap .i64 (2 + 1) = 3 := by decide
      have q0 : nth [Lk] 0 = Lk := rfl
      have len3 : ([AV.clo 39 [Lk], .clo 40 [Lk], .clo 41 [Lk]] : List AV).length = 3 := rfl
      have fin : ∀ m o1 o2, f11_l3 (runE G ext n) n k (m + 1) gh gl gt gn t c1 c2 c3 c4 c5 c6 (vecV t l i) (i : Int) l (l.length : Int) (i : Int) [AV.clo 39 [Lk], .clo 40 [Lk], .clo 41 [Lk]] 3 3 o1 o2 (((nth l i).fld 0).fld 0).toInt (((nth l i).fld 0).fld 1).toBlob (((nth l i).fld 0).fld 2).toBlob (((nth l i).fld 0).fld 3).toInt ((nth l i).fld 1).toSlice = f11_l1 (runE G ext n) n k gh gl gt gn t c1 c2 c3 c4 c5 c6 (if i = 0 then [.blob (idV (((nth l i).fld 0).fld 0).toInt (((nth l i).fld 0).fld 1).toBlob (((nth l i).fld 0).fld 2).toBlob (((nth l i).fld 0).fld 3).toInt)] else nextV (vecV t l i) (idV (((nth l i).fld 0).fld 0).toInt (((nth l i).fld 0).fld 1).toBlob (((nth l i).fld 0).fld 2).toBlob (((nth l i).fld 0).fld 3).toInt) (levelV (idV (((nth l i).fld 0).fld 0).toInt (((nth l i).fld 0).fld 1).toBlob (((nth l i).fld 0).fld 2).toBlob (((nth l i).fld 0).fld 3).toInt) t)) l (l.length : Int) ((i : Int) + 1) o1 o2 := by
        intro m o1 o2
        rw [f11_l3_eq, ltI_f (by omega), cond_false, e4, step1, toSlice_s, w64 (by omega) (by omega)]
      have st2 : ∀ m o1 o2, f11_l3 (runE G ext n) n k (m + 2) gh gl gt gn t c1 c2 c3 c4 c5 c6 (vecV t l i) (i : Int) l (l.length : Int) (i : Int) [AV.clo 39 [Lk], .clo 40 [Lk], .clo 41 [Lk]] 3 2 o1 o2 (((nth l i).fld 0).fld 0).toInt (((nth l i).fld 0).fld 1).toBlob (((nth l i).fld 0).fld 2).toBlob (((nth l i).fld 0).fld 3).toInt ((nth l i).fld 1).toSlice = bif !(okV (idA ((nth l i).fld 0)) t) then some ⟨[.agg [.int 9, .int (i : Int)]], [], false⟩ else f11_l3 (runE G ext n) n k (m + 1) gh gl gt gn t c1 c2 c3 c4 c5 c6 (vecV t l i) (i : Int) l (l.length : Int) (i : Int) [AV.clo 39 [Lk], .clo 40 [Lk], .clo 41 [Lk]] 3 3 o1 o2 (((nth l i).fld 0).fld 0).toInt (((nth l i).fld 0).fld 1).toBlob (((nth l i).fld 0).fld 2).toBlob (((nth l i).fld 0).fld 3).toInt ((nth l i).fld 1).toSlice := by
        intro m o1 o2
        have b0 : Nat.beq (AV.clo 41 [Lk]).cloF 39 = false := rfl
        have b1 : Nat.beq (AV.clo 41 [Lk]).cloF 40 = false := rfl
        have b2 : Nat.beq (AV.clo 41 [Lk]).cloF 41 = true := rfl
        have b3 : (AV.clo 41 [Lk]).cloXs = [Lk] := rfl
        rw [f11_l3_eq, ltI_t (by omega), cond_true, len3, inR_int (by omega) (by omega), cond_true, n2, b0, cond_false, b1, cond_false, b2, cond_true, b3, q0, e3, step1, toInt_i, w2]
        rw [show okV (idV (((nth l i).fld 0).fld 0).toInt (((nth l i).fld 0).fld 1).toBlob (((nth l i).fld 0).fld 2).toBlob (((nth l i).fld 0).fld 3).toInt) t = okV (idA ((nth l i).fld 0)) t from rfl]
        cases okV (idA ((nth l i).fld 0)) t <;> rfl
      have st1 : ∀ m o1 o2, f11_l3 (runE G ext n) n k (m + 3) gh gl gt gn t c1 c2 c3 c4 c5 c6 (vecV t l i) (i : Int) l (l.length : Int) (i : Int) [AV.clo 39 [Lk], .clo 40 [Lk], .clo 41 [Lk]] 3 1 o1 o2 (((nth l i).fld 0).fld 0).toInt (((nth l i).fld 0).fld 1).toBlob (((nth l i).fld 0).fld 2).toBlob (((nth l i).fld 0).fld 3).toInt ((nth l i).fld 1).toSlice = bif !(eqI (formV (nth l i) i (vecV t l i)) 0) then some ⟨[.agg [.int (formV (nth l i) i (vecV t l i)), .int (i : Int)]], [], false⟩ else f11_l3 (runE G ext n) n k (m + 2) gh gl gt gn t c1 c2 c3 c4 c5 c6 (vecV t l i) (i : Int) l (l.length : Int) (i : Int) [AV.clo 39 [Lk], .clo 40 [Lk], .clo 41 [Lk]] 3 2 o1 o2 (((nth l i).fld 0).fld 0).toInt (((nth l i).fld 0).fld 1).toBlob (((nth l i).fld 0).fld 2).toBlob (((nth l i).fld 0).fld 3).toInt ((nth l i).fld 1).toSlice := by
        intro m o1 o2
        have b0 : Nat.beq (AV.clo 40 [Lk]).cloF 39 = false := rfl
        have b1 : Nat.beq (AV.clo 40 [Lk]).cloF 40 = true := rfl
        have b3 : (AV.clo 40 [Lk]).cloXs = [Lk] := rfl
        rw [f11_l3_eq, ltI_t (by omega), cond_true, len3, inR_int (by omega) (by omega), cond_true, n1, b0, cond_false, b1, cond_true, b3, q0, e2, step1, toInt_i, w1]
        rfl
      have st0 : ∀ m o1 o2, f11_l3 (runE G ext n) n k (m + 4) gh gl gt gn t c1 c2 c3 c4 c5 c6 (vecV t l i) (i : Int) l (l.length : Int) (i : Int) [AV.clo 39 [Lk], .clo 40 [Lk], .clo 41 [Lk]] 3 0 o1 o2 (((nth l i).fld 0).fld 0).toInt (((nth l i).fld 0).fld 1).toBlob (((nth l i).fld 0).fld 2).toBlob (((nth l i).fld 0).fld 3).toInt ((nth l i).fld 1).toSlice = bif !(eqI (ancV gh gl gt gn ((nth l i).fld 0) i) 0) then some ⟨[.agg [.int (ancV gh gl gt gn ((nth l i).fld 0) i), .int (i : Int)]], [], false⟩ else f11_l3 (runE G ext n) n k (m + 3) gh gl gt gn t c1 c2 c3 c4 c5 c6 (vecV t l i) (i : Int) l (l.length : Int) (i : Int) [AV.clo 39 [Lk], .clo 40 [Lk], .clo 41 [Lk]] 3 1 o1 o2 (((nth l i).fld 0).fld 0).toInt (((nth l i).fld 0).fld 1).toBlob (((nth l i).fld 0).fld 2).toBlob (((nth l i).fld 0).fld 3).toInt ((nth l i).fld 1).toSlice := by
        intro m o1 o2
        have b0 : Nat.beq (AV.clo 39 [Lk]).cloF 39 = true := rfl
        have b3 : (AV.clo 39 [Lk]).cloXs = [Lk] := rfl
        rw [f11_l3_eq, ltI_t (by omega), cond_true, len3, inR_int (by omega) (by omega), cond_true, n0, b0, cond_true, b3, q0, e1, step1, toInt_i, w0]
        rfl
      rw [hm] at st0 st1 st2 fin ih' ⊢
      rw [st0 m]
      cases ha : eqI (ancV gh gl gt gn ((nth l i).fld 0) i) 0 with
      | false => rw [blkErr_a ha, ha]; rfl
      | true =>
      rw [not_t, cond_false, st1]
      cases hf : eqI (formV (nth l i) i (vecV t l i)) 0 with
      | false => rw [blkErr_f ha hf, hf]; rfl
      | true =>
      rw [not_t, cond_false, st2, fin, blkErr_o ha hf]
      cases okV (idA ((nth l i).fld 0)) t
      · rfl
      · exact ih'
  rw [f11_run, f11_eq, eqI_f (by omega), ltI_f (by omega), cond_false, cond_false]
  exact key l.length n 0 0 0 (by omega) (by omega)
end

end Go.Proofs.YtogehijjhibdkaaGreat.Ev
