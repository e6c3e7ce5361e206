/- Infix proofs: the document's answer. -/
import Derived.Test.YtddcooedbibehaaGreatEvPTrail
namespace Go.Proofs.YtddcooedbibehaaGreat.Ev
open Go Go.RowKit

section
variable {t : List UInt8} {l : List AV} {at_ : Int} {st : List AV} {bi bn : Int} {bp : List AV} {w : Int} {tx : List UInt8} {oi om : Int} {op : List AV}
def blockR (l : List AV) (at_ : Int) (st : List AV) (w : Int) : List AV :=
  bif !(eqI (placeV (l.length : Int) at_ w st.length) 0) then [.agg [.int 0, .blob (List.replicate 32 0), .blob (List.replicate 32 0), .int 0], .int (placeV (l.length : Int) at_ w st.length)]
  else [headN (blkA l at_.toNat st w.toNat), .int 0]
theorem refBlock_runs : RunsX 23 [.slice l, Ix at_ st bi bn bp w tx oi om op] ⟨blockR l at_ st w, [], false⟩ := by
  refine Evt.succ (.of fun n => ?_)
  rw [f23_run, f23_eq]
  unfold blockR placeV blkA
  rw [mx2_eq]
  by_cases h1 : at_ < 0
  · rw [ltI_t h1]; rfl
  rw [ltI_f h1, cond_false, cond_false]
  by_cases h2 : (l.length : Int) ≤ at_
  · rw [leI_t h2]; rfl
  rw [leI_f h2, cond_false, cond_false]
  by_cases h3 : w < 0
  · rw [ltI_t h3]; rfl
  rw [ltI_f h3, cond_false, cond_false]
  by_cases h0 : (st.length : Int) = 0
  · rw [eqI_t h0, cond_true, ltI_f (a := 0) (b := (st.length : Int)) (by omega), Bool.false_and, cond_false, cond_false, cond_false, cond_false]
    by_cases h4 : 0 < w
    · rw [ltI_t h4, leI_t (by omega)]; rfl
    · rw [ltI_f h4, leI_f (by omega), cond_false, cond_false, ltI_f (a := 1024) (by omega), cond_false, cond_false, inR_int (by omega) (by omega)]; rfl
  · rw [eqI_f h0, cond_false, ltI_t (a := 0) (b := (st.length : Int)) (by omega), Bool.true_and, cond_true, cond_true, cond_true]
    by_cases h4 : (st.length : Int) ≤ w
    · rw [leI_t h4, leI_t (by omega)]; rfl
    · rw [leI_f h4, leI_f (by omega), cond_false, cond_false]
      by_cases h5 : at_ = 0
      · rw [eqI_t h5]; rfl
      · rw [eqI_f h5, cond_false, cond_false]
        by_cases h6 : 1024 < (st.length : Int)
        · rw [ltI_t h6]; rfl
        · rw [ltI_f h6, cond_false, cond_false, inR_int (i := w) (by omega) (by omega)]; rfl

theorem refHolds47_runs (ht : t.length = 32) (hl : l.length ≤ 100000) (hst : st.length ≤ 100000) (hL : Steps l) (hS : Steps st) (hb : Blob32 bp) (ho : Blob32 op) (hx : tx.length ≤ 140737488351232) :
    RunsX 25 [.blob t, .slice l, Ix at_ st bi bn bp w tx oi om op] ⟨[.int (withinV t l at_ st bi bn bp w tx oi om op)], [], false⟩ := by
  have r1 := refBlock_runs (l := l) (at_ := at_) (st := st) (bi := bi) (bn := bn) (bp := bp) (w := w) (tx := tx) (oi := oi) (om := om) (op := op)
  unfold blockR at r1
  unfold withinV
  by_cases hp : placeV (l.length : Int) at_ w st.length = 0
  · obtain ⟨p1, p2, p3, p4, p5, p6⟩ := placeV_zero hp
    have r4 := refTxCheck_runs (root := ((blkA l at_.toNat st w.toNat).fld 2).toBlob) (s := tx) (i := oi) (n := om) hx ho
    rw [eqI_t hp, not_t, cond_false] at r1 ⊢
    have q0 : ((headN (blkA l at_.toNat st w.toNat)).fld 0).toInt = ((blkA l at_.toNat st w.toNat).fld 0).toInt := rfl
    have q1 : ((headN (blkA l at_.toNat st w.toNat)).fld 1).toBlob = ((blkA l at_.toNat st w.toNat).fld 1).toBlob := rfl
    have q2 : ((headN (blkA l at_.toNat st w.toNat)).fld 2).toBlob = ((blkA l at_.toNat st w.toNat).fld 2).toBlob := rfl
    have q3 : ((headN (blkA l at_.toNat st w.toNat)).fld 3).toInt = ((blkA l at_.toNat st w.toNat).fld 3).toInt := rfl
    generalize blkA l at_.toNat st w.toNat = B at *
    unfold innerV
    by_cases h0 : (st.length : Int) = 0
    · refine Evt.succ (((r1.and r4).and (Evt.ge 10)).mono fun n hn => ?_)
      obtain ⟨⟨g1, g4⟩, g5⟩ := hn
      rw [f25_run, f25_eq, g1, step2, toInt_i, eqI_t (a := 0) rfl, not_t, cond_false, eqI_t h0, cond_true, cond_true, q0, q1, q2, q3]
      have hfin : f25_l0 (runE G ext n) n n l 0 t at_ st bi bn bp w tx oi om op (B.fld 0).toInt (B.fld 1).toBlob (B.fld 2).toBlob (B.fld 3).toInt = some ⟨[.int (bif !(txChkV (B.fld 2).toBlob tx oi om op) then 14 else 0)], [], false⟩ := by
        obtain ⟨k, hk⟩ : ∃ k, n = k + 1 := ⟨n - 1, by omega⟩
        have : ∀ m, f25_l0 (runE G ext n) n (m + 1) l 0 t at_ st bi bn bp w tx oi om op (B.fld 0).toInt (B.fld 1).toBlob (B.fld 2).toBlob (B.fld 3).toInt = some ⟨[.int (bif !(txChkV (B.fld 2).toBlob tx oi om op) then 14 else 0)], [], false⟩ := by
          intro m
          rw [f25_l0_eq, ltI_f (by omega), cond_false, cond_false, g4, step1, toBool_b]
          cases txChkV (B.fld 2).toBlob tx oi om op <;> rfl
        have h2 := this k
        rw [← hk] at h2
        exact h2
      rw [hfin]
      cases eqI bn 0
      · rw [not_f, cond_true, Bool.false_and, Bool.and_false]; rfl
      · rw [not_t, cond_false, Bool.true_and]
        cases eqI bi 0
        · rfl
        · rw [not_t, cond_false, Bool.true_and]
          by_cases hp0 : (bp.length : Int) = 0
          · rw [ltI_f (by omega), eqI_t hp0]; rfl
          · rw [ltI_t (by omega), eqI_f hp0]; rfl
    · obtain ⟨p, hpp⟩ : ∃ p : Nat, at_ = (p : Int) := ⟨at_.toNat, by omega⟩
      subst hpp
      have hp1 : 1 ≤ p := by have := p5 (by omega); omega
      have ha0 := (hL (p - 1) (by omega)).1
      have hall := Evt.all st.length fun i (hi : i < st.length) =>
        ((refId_runs (hS i hi).1).and (refOk_runs (idA_len ((nth st i).fld 0)) ht)).and
        (refHolds_runs' (h := (((nth st i).fld 0).fld 0).toInt) (ls := (((nth st i).fld 0).fld 1).toBlob) (ts := (((nth st i).fld 0).fld 2).toBlob) (nc := (((nth st i).fld 0).fld 3).toInt) (i := (((nth st i).fld 1).fld 0).toInt) (n := (((nth st i).fld 1).fld 1).toInt) (hS i hi).2 (aheadA_ok ha0 hS (i := i) (by omega)))
      have r2 := refHolds_runs' (h := (((nth l p).fld 0).fld 0).toInt) (ls := (((nth l p).fld 0).fld 1).toBlob) (ts := (((nth l p).fld 0).fld 2).toBlob) (nc := (((nth l p).fld 0).fld 3).toInt) (i := bi) (n := bn) hb (aheadA_ok ha0 hS (Nat.le_refl st.length))
      refine Evt.succ ((((r1.and r4).and (hall.and r2)).and (Evt.ge (st.length + 10))).mono fun n hn => ?_)
      obtain ⟨⟨⟨g1, g4⟩, g6, g7⟩, g5⟩ := hn
      have ea : aheadA ((nth l (p - 1)).fld 0) st st.length = (nth st (st.length - 1)).fld 0 := by
        unfold aheadA; rw [if_neg (by omega)]
      rw [ea] at g7
      rw [f25_run, f25_eq, g1, step2, toInt_i, eqI_t (a := 0) rfl, not_t, cond_false, eqI_f h0, cond_false, cond_false, q0, q1, q2, q3, Int.toNat_natCast]
      have key : ∀ (j k i : Nat), i + j = st.length → j < k → f25_l0 (runE G ext n) n k l (i : Int) t (p : Int) st bi bn bp w tx oi om op (B.fld 0).toInt (B.fld 1).toBlob (B.fld 2).toBlob (B.fld 3).toInt =
          some ⟨[.int (bif !(eqI (innerL t st ((nth l (p - 1)).fld 0) ((nth l p).fld 0) bi bn bp j i) 0) then innerL t st ((nth l (p - 1)).fld 0) ((nth l p).fld 0) bi bn bp j i else bif !(txChkV (B.fld 2).toBlob tx oi om op) then 14 else 0)], [], false⟩ := by
        intro j
        induction j with
        | zero =>
          intro k i hi hk
          obtain ⟨k, rfl⟩ : ∃ j, k = j + 1 := ⟨k - 1, by omega⟩
          obtain rfl : i = st.length := by omega
          rw [f25_l0_eq, ltI_f (by omega), cond_false, ltI_t (a := 0) (b := (st.length : Int)) (by omega), cond_true, inR_nat (by omega), cond_true, w64 (x := (st.length : Int) - 1) (by omega) (by omega), show (st.length : Int) - 1 = ((st.length - 1 : Nat) : Int) by omega, inR_nat (by omega), cond_true, Int.toNat_natCast, Int.toNat_natCast, g7, step1, toBool_b, g4, step1, toBool_b]
          simp only [innerL]
          rw [ea]
          change (bif !(leadsV (((nth l p).fld 0).fld 1).toBlob (idA ((nth st (st.length - 1)).fld 0)) bi bn bp) then _ else _) = _
          cases leadsV (((nth l p).fld 0).fld 1).toBlob (idA ((nth st (st.length - 1)).fld 0)) bi bn bp
          · rfl
          · cases txChkV (B.fld 2).toBlob tx oi om op <;> rfl
        | succ j ih =>
          intro k i hi hk
          obtain ⟨k, rfl⟩ : ∃ j, k = j + 1 := ⟨k - 1, by omega⟩
          have ih' := ih k (i + 1) (by omega) (by omega)
          obtain ⟨⟨e1, e2⟩, e3⟩ := g6 i (by omega)
          rw [show ((i + 1 : Nat) : Int) = (i : Int) + 1 by omega] at ih'
          simp only [innerL, oneA, holdsA]
          unfold idA at e2
          rw [f25_l0_eq, ltI_t (a := (i : Int)) (b := (st.length : Int)) (by omega), cond_true, inR_nat (i := i) (by omega), cond_true, w64 (x := (p : Int) - 1) (by omega) (by omega), show (p : Int) - 1 = ((p - 1 : Nat) : Int) by omega, inR_nat (i := p - 1) (by omega), cond_true, Int.toNat_natCast, Int.toNat_natCast, Int.toNat_natCast, w64 (x := (i : Int) + 1) (by omega) (by omega), ih']
          by_cases hi0 : i = 0
          · subst hi0
            have ez : aheadA ((nth l (p - 1)).fld 0) st 0 = (nth l (p - 1)).fld 0 := rfl
            rw [ez] at e3 ⊢
            rw [ltI_f (a := 0) (b := ((0 : Nat) : Int)) (by omega), cond_false, inR_nat (i := p) (by omega), cond_true, e1, step1, toBlob_b, e2, step1, toBool_b, e3, step1, toBool_b]
            by_cases hr : (((nth l (p - 1)).fld 0).fld 0).toInt < (((nth st 0).fld 0).fld 0).toInt
            · rw [leI_f (by omega), cond_false, ltI_t hr, not_t, cond_false]
              cases leI (((nth l p).fld 0).fld 0).toInt (((nth st 0).fld 0).fld 0).toInt
              · rw [cond_false, cond_false]
                change (bif !(okV (idA ((nth st 0).fld 0)) t) then _ else bif !(leadsV (((nth st 0).fld 0).fld 1).toBlob (idA ((nth l (p - 1)).fld 0)) (((nth st 0).fld 1).fld 0).toInt (((nth st 0).fld 1).fld 1).toInt (((nth st 0).fld 1).fld 2).toSlice) then _ else _) = _
                cases okV (idA ((nth st 0).fld 0)) t
                · rfl
                · cases leadsV (((nth st 0).fld 0).fld 1).toBlob (idA ((nth l (p - 1)).fld 0)) (((nth st 0).fld 1).fld 0).toInt (((nth st 0).fld 1).fld 1).toInt (((nth st 0).fld 1).fld 2).toSlice <;> rfl
              · rfl
            · rw [leI_t (by omega), cond_true, ltI_f hr]; rfl
          · have ez : aheadA ((nth l (p - 1)).fld 0) st i = (nth st (i - 1)).fld 0 := by unfold aheadA; rw [if_neg hi0]
            rw [ez] at e3 ⊢
            rw [ltI_t (a := 0) (b := (i : Int)) (by omega), cond_true, w64 (x := (i : Int) - 1) (by omega) (by omega), show (i : Int) - 1 = ((i - 1 : Nat) : Int) by omega, inR_nat (i := i - 1) (by omega), cond_true, inR_nat (i := p) (by omega), cond_true, Int.toNat_natCast, e1, step1, toBlob_b, e2, step1, toBool_b, e3, step1, toBool_b]
            by_cases hr : (((nth st (i - 1)).fld 0).fld 0).toInt < (((nth st i).fld 0).fld 0).toInt
            · rw [leI_f (a := (((nth st i).fld 0).fld 0).toInt) (b := (((nth st (i - 1)).fld 0).fld 0).toInt) (by omega), cond_false, ltI_t hr, not_t, cond_false]
              cases leI (((nth l p).fld 0).fld 0).toInt (((nth st i).fld 0).fld 0).toInt
              · rw [cond_false, cond_false]
                change (bif !(okV (idA ((nth st i).fld 0)) t) then _ else bif !(leadsV (((nth st i).fld 0).fld 1).toBlob (idA ((nth st (i - 1)).fld 0)) (((nth st i).fld 1).fld 0).toInt (((nth st i).fld 1).fld 1).toInt (((nth st i).fld 1).fld 2).toSlice) then _ else _) = _
                cases okV (idA ((nth st i).fld 0)) t
                · rfl
                · cases leadsV (((nth st i).fld 0).fld 1).toBlob (idA ((nth st (i - 1)).fld 0)) (((nth st i).fld 1).fld 0).toInt (((nth st i).fld 1).fld 1).toInt (((nth st i).fld 1).fld 2).toSlice <;> rfl
              · rfl
            · rw [leI_t (a := (((nth st i).fld 0).fld 0).toInt) (b := (((nth st (i - 1)).fld 0).fld 0).toInt) (by omega), cond_true, ltI_f hr]; rfl
      exact key st.length n 0 (by omega) (by omega)
  · rw [eqI_f hp, not_f, cond_true] at r1 ⊢
    refine Evt.succ (r1.mono fun n hn => ?_)
    rw [f25_run, f25_eq, hn, step2, toInt_i, eqI_f hp]; rfl

theorem withinChecks_runs (ht : t.length = 32) (hl : l.length ≤ maxLen) (hst : st.length ≤ maxLen) (hL : Steps l) (hS : Steps st) (hb : Blob32 bp) (ho : Blob32 op) :
    RunsX 5 [.blob t, .slice l, Ix at_ st bi bn bp w tx oi om op] ⟨[.bool true], [], false⟩ := by
  obtain ⟨b1, h1, r1⟩ := much50_runs (l := l) (at_ := at_) (st := st) (bi := bi) (bn := bn) (bp := bp) (w := w) (tx := tx) (oi := oi) (om := om) (op := op) hl hst
  cases b1 with
  | true =>
    refine Evt.succ ((r1.and withinAwake).mono fun n hn => ?_)
    rw [f5_run, f5_eq, hn.1, step1, toBool_b, cond_true, hn.2]; rfl
  | false =>
    obtain ⟨c1, c2, c3, c4, c5⟩ := h1 rfl
    have r2 := block_runs (l := l) (at_ := at_) (st := st) (bi := bi) (bn := bn) (bp := bp) (w := w) (tx := tx) (oi := oi) (om := om) (op := op)
    have r3 := refBlock_runs (l := l) (at_ := at_) (st := st) (bi := bi) (bn := bn) (bp := bp) (w := w) (tx := tx) (oi := oi) (om := om) (op := op)
    have r4 := within_runs (t := t) (l := l) (at_ := at_) (st := st) (bi := bi) (bn := bn) (bp := bp) (w := w) (tx := tx) (oi := oi) (om := om) (op := op) ht (by omega) (by omega) hL hS hb ho (by omega)
    have r5 := refHolds47_runs (t := t) (l := l) (at_ := at_) (st := st) (bi := bi) (bn := bn) (bp := bp) (w := w) (tx := tx) (oi := oi) (om := om) (op := op) ht (by omega) (by omega) hL hS hb ho (by omega)
    unfold blockV at r2
    unfold blockR at r3
    refine Evt.succ (((r1.and withinAwake).and ((r2.and r3).and (r4.and r5))).mono fun n hn => ?_)
    obtain ⟨⟨g1, g2⟩, ⟨g3, g4⟩, g5, g6⟩ := hn
    rw [f5_run, f5_eq, g1, step1, toBool_b, cond_false, g3, g4, g5, g6]
    by_cases hp : placeV (l.length : Int) at_ w st.length = 0
    · rw [eqI_t hp, not_t, cond_false, cond_false, step2, step2, step1, step1, eqI_t rfl, cond_true, eqI_t rfl, eqS_t rfl, eqS_t rfl, eqI_t rfl, show (true && (true && (true && (true && true)))) = true from rfl, cond_true, toBool_b, toInt_i, eqI_t (a := 0) rfl, eqO_same, cond_true, g2]
      rfl
    · rw [eqI_f hp, not_f, cond_true, cond_true, step2, step2, step1, step1, eqI_t rfl, cond_true, eqI_t rfl, eqS_t rfl, eqS_t rfl, eqI_t rfl, show (true && (true && (true && (true && true)))) = true from rfl, cond_true, toBool_b, toInt_i, eqI_f hp, eqO_same, cond_true, g2]
      rfl

theorem trailMakes_runs (ht : t.length = 32) (hl : l.length ≤ maxLen) (hst : st.length ≤ maxLen) (hL : Steps l) (hS : Steps st) (hpl : PathsOk l) (hps : PathsOk st) (hb : Blob32 bp) (ho : Blob32 op) :
    RunsX 7 [.blob t, .slice l, Ix at_ st bi bn bp w tx oi om op] ⟨[.bool true], [], false⟩ := by
  obtain ⟨b1, h1, r1⟩ := much50_runs (l := l) (at_ := at_) (st := st) (bi := bi) (bn := bn) (bp := bp) (w := w) (tx := tx) (oi := oi) (om := om) (op := op) hl hst
  cases b1 with
  | true =>
    refine Evt.succ ((r1.and trailAwake).mono fun n hn => ?_)
    rw [f7_run, f7_eq, hn.1, step1, toBool_b, cond_true, hn.2]; rfl
  | false =>
    obtain ⟨c1, c2, c3, c4, c5⟩ := h1 rfl
    have r2 := trail_runs (t := t) (l := l) (at_ := at_) (st := st) (bi := bi) (bn := bn) (bp := bp) (w := w) (tx := tx) (oi := oi) (om := om) (op := op) ht (by omega) (by omega) (by omega) hpl hL hS hb ho (by omega)
    have r3 := refHolds47_runs (t := t) (l := l) (at_ := at_) (st := st) (bi := bi) (bn := bn) (bp := bp) (w := w) (tx := tx) (oi := oi) (om := om) (op := op) ht (by omega) (by omega) hL hS hb ho (by omega)
    have r4 := refBlock_runs (l := l) (at_ := at_) (st := st) (bi := bi) (bn := bn) (bp := bp) (w := w) (tx := tx) (oi := oi) (om := om) (op := op)
    have r5 := at_runs (l := l) (at_ := at_) (st := st) (bi := bi) (bn := bn) (bp := bp) (w := w) (tx := tx) (oi := oi) (om := om) (op := op)
    have r6 := refTrail_runs (l := l) (at_ := at_) (st := st) (bi := bi) (bn := bn) (bp := bp) (w := w) (tx := tx) (oi := oi) (om := om) (op := op) (by omega) (by omega)
    obtain ⟨k1, k2⟩ := trailL_ok (l := l) (at_ := at_) (st := st) (bi := bi) (bn := bn) (bp := bp) (by omega) (by omega) hpl hps l.length 0 (by omega)
    have r7 := sameSteps_runs (by omega) k1
    unfold blockR at r4
    refine Evt.succ (((r1.and trailAwake).and (((r2.and r3).and (r4.and r5)).and (r6.and r7))).mono fun n hn => ?_)
    obtain ⟨⟨g1, g2⟩, ⟨⟨g3, g4⟩, g5, g6⟩, g7, g8⟩ := hn
    rw [f7_run, f7_eq, g1, step1, toBool_b, cond_false, g3, g4, g5, g6]
    by_cases hp : placeV (l.length : Int) at_ w st.length = 0
    · rw [eqI_t hp, not_t, cond_false, cond_false]
      by_cases hz : withinV t l at_ st bi bn bp w tx oi om op = 0
      · rw [hz, eqI_t (a := 0) rfl, not_t, cond_false, step2, step1, step2, toInt_i, eqI_t (a := 0) rfl, cond_true, not_t, cond_false, step1, toInt_i, eqI_t rfl, not_t, cond_false, cond_false, g7, step1f, toSlice_s, g8, step1, toBool_b, cond_true, g2]
        rfl
      · rw [eqI_f hz, not_f, cond_true, step2, step1, step2, toInt_i, toInt_i, eqI_t (a := 0) rfl, cond_true, eqI_t rfl, not_t, cond_false, step1, toInt_i, eqI_t rfl, not_t, cond_false, eqI_f hz, not_f, cond_true, toSlice_s, show eqI ((([] : List AV).length : Nat) : Int) 0 = true from rfl, cond_true, g2]
        rfl
    · have hz : withinV t l at_ st bi bn bp w tx oi om op = placeV (l.length : Int) at_ w st.length := by
        unfold withinV; rw [eqI_f hp]; rfl
      rw [hz, eqI_f hp, not_f, cond_true, cond_true, cond_true, step2, step1, step2, toInt_i, eqI_f hp, cond_false, eqI_t rfl, not_t, cond_false, step1, toInt_i, eqI_t (a := -1) rfl, not_t, cond_false, not_f, cond_true, toSlice_s, show eqI ((([] : List AV).length : Nat) : Int) 0 = true from rfl, cond_true, g2]
      rfl
end
theorem withinChecks_sat (xs : List AV) (h : Ty.HasL [.blob 32, .slice (.struct [.struct [.int .u32, .blob 32, .blob 32, .int .u64], .struct [.int .i64, .int .i64, .slice (.blob 32)]]), .struct [.int .i64, .slice (.struct [.struct [.int .u32, .blob 32, .blob 32, .int .u64], .struct [.int .i64, .int .i64, .slice (.blob 32)]]), .struct [.int .i64, .int .i64, .slice (.blob 32)], .int .i64, .str, .struct [.int .i64, .int .i64, .slice (.blob 32)]]] xs) : ∃ r, r.vals = [.bool true] ∧ Sat Tryz.prog f5_info 5 xs r := by
  obtain ⟨x, r, rfl, ⟨t, rfl, ht⟩, y, r2, rfl, ⟨l, rfl, hl, _, hlx⟩, z, r3, rfl, hz, rfl⟩ := h
  obtain ⟨at_, st, bi, bn, bp, w, tx, oi, om, op, rfl, hst, hS, hb, ho, _⟩ := infix_of hz
  exact ⟨_, rfl, sat_of_runsX (by kernel_rfl) (withinChecks_runs ht hl hst (steps_of hlx) hS hb ho)⟩
theorem trailMakes_sat (xs : List AV) (h : Ty.HasL [.blob 32, .slice (.struct [.struct [.int .u32, .blob 32, .blob 32, .int .u64], .struct [.int .i64, .int .i64, .slice (.blob 32)]]), .struct [.int .i64, .slice (.struct [.struct [.int .u32, .blob 32, .blob 32, .int .u64], .struct [.int .i64, .int .i64, .slice (.blob 32)]]), .struct [.int .i64, .int .i64, .slice (.blob 32)], .int .i64, .str, .struct [.int .i64, .int .i64, .slice (.blob 32)]]] xs) : ∃ r, r.vals = [.bool true] ∧ Sat Tryz.prog f7_info 7 xs r := by
  obtain ⟨x, r, rfl, ⟨t, rfl, ht⟩, y, r2, rfl, ⟨l, rfl, hl, _, hlx⟩, z, r3, rfl, hz, rfl⟩ := h
  obtain ⟨at_, st, bi, bn, bp, w, tx, oi, om, op, rfl, hst, hS, hb, ho, hSx⟩ := infix_of hz
  exact ⟨_, rfl, sat_of_runsX (by kernel_rfl) (trailMakes_runs ht hl hst (steps_of hlx) hS (pathOk_of hlx) (pathOk_of hSx) hb ho)⟩

end Go.Proofs.YtddcooedbibehaaGreat.Ev
