/- What several leaves tell: both programs tell the same. -/
import Derived.Test.YtcpdiahbdmcdcaaEvPMulT
namespace Go.Proofs.Ytcpdiahbdmcdcaa.Ev
open Go Go.RowKit

abbrev Mny (c : Int) (P : List Int) (ph : List AV) : AV := .agg [.int c, .slice (I P), .slice ph]

theorem may_bad1 {n c : Int} {P : List Int} {ph : List AV} (h : c < 1 ∨ 1048576 < c) : RunsX 44 [.int n, Mny c P ph] ⟨[.int 3], [], false⟩ := by
  refine Evt.succ (.of fun m => ?_)
  rw [f44_run, f44_eq]
  by_cases h1 : c < 1
  · rw [ltI_t h1, cond_true]; rfl
  · rw [ltI_f h1, cond_false, ltI_t (by omega), cond_true]; rfl

theorem may_bad2 {n c : Int} {P : List Int} {ph : List AV} (h1 : 1 ≤ c) (h2 : c ≤ 1048576) (hP : P.length ≤ 1000) (hr : risV P c P.length 0 = false) : RunsX 44 [.int n, Mny c P ph] ⟨[.int 3], [], false⟩ := by
  have r1 := rising_runs (P := P) (n := c) hP
  rw [hr] at r1
  refine Evt.succ (r1.mono fun m hm => ?_)
  rw [f44_run, f44_eq, ltI_f (by omega), ltI_f (by omega), cond_false, cond_false, hm, step1, toBool_b, not_f, cond_true]; rfl

theorem may_len {n c : Int} {P : List Int} {ph : List AV} (h1 : 1 ≤ c) (h2 : c ≤ 1048576) (hP : P.length ≤ 1000) (hr : risV P c P.length 0 = true) (hn : ¬ n = (P.length : Int)) : RunsX 44 [.int n, Mny c P ph] ⟨[.int 2], [], false⟩ := by
  have r1 := rising_runs (P := P) (n := c) hP
  rw [hr] at r1
  refine Evt.succ (r1.mono fun m hm => ?_)
  rw [f44_run, f44_eq, ltI_f (by omega), ltI_f (by omega), cond_false, cond_false, hm, step1, toBool_b, not_t, cond_false, I_len, eqI_f hn, not_f, cond_true]; rfl

theorem may_need {n c k : Int} {P : List Int} {ph : List AV} (h1 : 1 ≤ c) (h2 : c ≤ 1048576) (hP : P.length ≤ 1000) (hr : risV P c P.length 0 = true) (hn : n = (P.length : Int)) (r2 : RunsX 81 [.int c, .slice (I P)] ⟨[.int k], [], false⟩) :
    RunsX 44 [.int n, Mny c P ph] ⟨[.int (bif eqI (ph.length : Int) k then 0 else 2)], [], false⟩ := by
  have r1 := rising_runs (P := P) (n := c) hP
  rw [hr] at r1
  refine Evt.succ ((r1.and r2).mono fun m hm => ?_)
  rw [f44_run, f44_eq, ltI_f (by omega), ltI_f (by omega), cond_false, cond_false, hm.1, step1, toBool_b, not_t, cond_false, I_len, eqI_t hn, not_t, cond_false, hm.2, step1, toInt_i]
  cases eqI (ph.length : Int) k <;> rfl

theorem root_bad {c w : Int} {P : List Int} {ph lv : List AV} (hw : ¬ w = 0) (r : RunsX 44 [.int (lv.length : Int), Mny c P ph] ⟨[.int w], [], false⟩) : RunsX 43 [.slice lv, Mny c P ph] ⟨[.blob zero32, .int w], [], false⟩ := by
  refine Evt.succ (r.mono fun m hm => ?_)
  rw [f43_run, f43_eq, hm, step1, toInt_i, eqI_f hw, not_f, cond_true]; rfl

theorem check_any {c w : Int} {P : List Int} {ph lv : List AV} {h : List UInt8} (root : List UInt8) (r : RunsX 43 [.slice lv, Mny c P ph] ⟨[.blob h, .int w], [], false⟩) : RunsX 45 [.blob root, .slice lv, Mny c P ph] ⟨[.bool (eqI w 0 && eqS h root)], [], false⟩ := by
  refine Evt.succ (r.mono fun m hm => ?_)
  rw [f45_run, f45_eq, hm, step2, toInt_i, toBlob_b]
  cases eqI w 0 <;> rfl

theorem eqS_comm (a b : List UInt8) : eqS a b = eqS b a := by
  by_cases h : a = b
  · rw [eqS_t h, eqS_t h.symm]
  · rw [eqS_f h, eqS_f (fun e => h e.symm)]

theorem multiTells_runs {root : List UInt8} {lv ph : List AV} {c : Int} {P : List Int} (hlm : lv.length ≤ maxLen) (hsh : Short lv) (hb : Blob32 ph) : RunsX 9 [.blob root, .slice lv, Mny c P ph] ⟨[.bool true], [], false⟩ := by
  obtain ⟨b, h0, hm⟩ := much_runs hlm
  cases b with
  | true =>
    refine Evt.succ ((hm.and multiAwake).mono fun n hn => ?_)
    rw [f9_run, f9_eq, hn.1, step1, toBool_b, cond_true, hn.2, step1]; rfl
  | false =>
    by_cases hc : 100 < c
    · by_cases hc2 : c ≤ 1048576
      · refine Evt.succ ((hm.and multiAwake).mono fun n hn => ?_)
        rw [f9_run, f9_eq, hn.1, step1, toBool_b, cond_false, ltI_t hc, leI_t hc2, cond_true, cond_true, hn.2, step1]; rfl
      · by_cases hp : 200 < P.length
        · refine Evt.succ ((hm.and multiAwake).mono fun n hn => ?_)
          rw [f9_run, f9_eq, hn.1, step1, toBool_b, cond_false, ltI_t hc, leI_f hc2, cond_true, cond_false, I_len, ltI_t (by omega), cond_true, hn.2, step1]; rfl
        · by_cases hq : 200 < ph.length
          · refine Evt.succ ((hm.and multiAwake).mono fun n hn => ?_)
            rw [f9_run, f9_eq, hn.1, step1, toBool_b, cond_false, ltI_t hc, leI_f hc2, cond_true, cond_false, I_len, ltI_f (by omega), cond_false, ltI_t (by omega), cond_true, hn.2, step1]; rfl
          · have r1 := may_bad1 (n := (lv.length : Int)) (c := c) (P := P) (ph := ph) (.inr (by omega))
            have r2 := root_bad (by decide) r1
            have r3 := check_any root r2
            refine Evt.succ (((hm.and multiAwake).and ((r1.and r2).and r3)).mono fun n hn => ?_)
            obtain ⟨⟨g1, g2⟩, ⟨g3, g4⟩, g5⟩ := hn
            rw [f9_run, f9_eq, g1, step1, toBool_b, cond_false, ltI_t hc, leI_f hc2, cond_true, cond_false, I_len, ltI_f (a := 200) (b := (P.length : Int)) (by omega), cond_false, ltI_f (a := 200) (b := (ph.length : Int)) (by omega), cond_false, ltI_f (a := c) (b := 1) (by omega), cond_false, ltI_t (a := 1048576) (b := c) (by omega), cond_true,
              g4, step2, toInt_i, eqI_t rfl, not_t, cond_false, g3, step1, toInt_i, eqI_t rfl, not_t, cond_false, toBlob_b, eqS_t (by rfl), cond_true, g5, step1, toBool_b, eqI_f (by decide), Bool.false_and, not_f, cond_true, g2, step1]
            rfl
    · by_cases hp : 200 < P.length
      · refine Evt.succ ((hm.and multiAwake).mono fun n hn => ?_)
        rw [f9_run, f9_eq, hn.1, step1, toBool_b, cond_false, ltI_f hc, cond_false, I_len, ltI_t (by omega), cond_true, hn.2, step1]; rfl
      · by_cases hq : 200 < ph.length
        · refine Evt.succ ((hm.and multiAwake).mono fun n hn => ?_)
          rw [f9_run, f9_eq, hn.1, step1, toBool_b, cond_false, ltI_f hc, cond_false, I_len, ltI_f (by omega), cond_false, ltI_t (by omega), cond_true, hn.2, step1]; rfl
        · by_cases hc1 : c < 1
          · have r1 := may_bad1 (n := (lv.length : Int)) (c := c) (P := P) (ph := ph) (.inl hc1)
            have r2 := root_bad (by decide) r1
            have r3 := check_any root r2
            refine Evt.succ (((hm.and multiAwake).and ((r1.and r2).and r3)).mono fun n hn => ?_)
            obtain ⟨⟨g1, g2⟩, ⟨g3, g4⟩, g5⟩ := hn
            rw [f9_run, f9_eq, g1, step1, toBool_b, cond_false, ltI_f hc, cond_false, I_len, ltI_f (a := 200) (b := (P.length : Int)) (by omega), cond_false, ltI_f (a := 200) (b := (ph.length : Int)) (by omega), cond_false, ltI_t hc1, cond_true,
              g4, step2, toInt_i, eqI_t rfl, not_t, cond_false, g3, step1, toInt_i, eqI_t rfl, not_t, cond_false, toBlob_b, eqS_t (by rfl), cond_true, g5, step1, toBool_b, eqI_f (by decide), Bool.false_and, not_f, cond_true, g2, step1]
            rfl
          · have s2 := refRising_runs (P := P) (n := c) (by omega)
            cases hr : risV P c P.length 0 with
            | false =>
              rw [hr] at s2
              have r1 := may_bad2 (n := (lv.length : Int)) (c := c) (P := P) (ph := ph) (by omega) (by omega) (by omega) hr
              have r2 := root_bad (by decide) r1
              have r3 := check_any root r2
              refine Evt.succ ((((hm.and multiAwake).and s2).and ((r1.and r2).and r3)).mono fun n hn => ?_)
              obtain ⟨⟨⟨g1, g2⟩, g6⟩, ⟨g3, g4⟩, g5⟩ := hn
              rw [f9_run, f9_eq, g1, step1, toBool_b, cond_false, ltI_f hc, cond_false, I_len, ltI_f (a := 200) (b := (P.length : Int)) (by omega), cond_false, ltI_f (a := 200) (b := (ph.length : Int)) (by omega), cond_false, ltI_f hc1, cond_false, ltI_f (a := 1048576) (b := c) (by omega), cond_false,
                g6, step1, toBool_b, not_f, cond_true, g4, step2, toInt_i, eqI_t rfl, not_t, cond_false, g3, step1, toInt_i, eqI_t rfl, not_t, cond_false, toBlob_b, eqS_t (by rfl), cond_true, g5, step1, toBool_b, eqI_f (by decide), Bool.false_and, not_f, cond_true, g2, step1]
              rfl
            | true =>
              rw [hr] at s2
              obtain ⟨f1, f2, f3, f4⟩ := rising_facts hr
              by_cases hl : (lv.length : Int) = (P.length : Int)
              · obtain ⟨cn, rfl⟩ : ∃ cn : Nat, c = cn := ⟨c.toNat, by omega⟩
                obtain ⟨v, hv1, hv2, hv3, hv4⟩ := need_both (P := P) (by omega) f3 cn 0 (by omega) (by omega) (by omega) (by omega)
                obtain ⟨k, hk1, hk2, hk3⟩ := top_both (P := P) (by omega) f3 (lv := lv) (by omega) hsh cn 0 (by omega) (by omega) (by omega)
                rw [Int.zero_add] at hv3 hv4 hk2 hk3
                rw [f4] at hv3 hk3
                have hvk := runs_det hv4 hk2
                injection hvk with hvk _ _
                injection hvk with hvk _
                injection hvk with hvk
                obtain rfl : k = v := by omega
                have r1 := may_need (n := (lv.length : Int)) (c := (cn : Int)) (P := P) (ph := ph) (by omega) (by omega) (by omega) hr hl hv3
                by_cases hpk : (ph.length : Int) = (k : Int)
                · rw [eqI_t hpk, cond_true] at r1
                  obtain ⟨x, hx, t1, t2⟩ := hk3 ph hb (by omega) (by omega)
                  have c0 : cntB P 0 = 0 := by
                    have := risV_of P.length 0 (by omega) hr
                    unfold cntB
                    rw [List.length_eq_zero_iff, List.filter_eq_nil_iff]
                    intro y hy
                    obtain ⟨q, hq, rfl⟩ := List.getElem_of_mem hy
                    have := this.2 q (by omega) hq
                    rw [gd hq] at this
                    simp; omega
                  rw [c0, List.drop_zero] at t1
                  have t3 := rootSum_runs cn hx
                  have t4 := refRoot_runs cn hx
                  have r2 : RunsX 43 [.slice lv, Mny cn P ph] ⟨[.blob (rootH cn x), .int 0], [], false⟩ := by
                    refine Evt.succ (((r1.and t1).and t3).mono fun m hm => ?_)
                    obtain ⟨⟨g1, g2⟩, g3⟩ := hm
                    rw [f43_run, f43_eq, g1, step1, toInt_i, eqI_t rfl, not_t, cond_false, g2, bind_run, consV_c, nilV_n, consV_c, nilV_n, wrapLen (by omega), toBlob_b, g3, step1]
                    rfl
                  have r3 := check_any root r2
                  have r4 := check_any (rootH cn x) r2
                  refine Evt.succ (((((hm.and multiAwake).and s2).and ((r1.and r2).and r3)).and ((hv4.and r4).and (t2.and t4))).mono fun n hn => ?_)
                  obtain ⟨⟨⟨⟨g1, g2⟩, g6⟩, ⟨g3, g4⟩, g5⟩, ⟨g7, g8⟩, g9, g10⟩ := hn
                  rw [f9_run, f9_eq, g1, step1, toBool_b, cond_false, ltI_f hc, cond_false, I_len, ltI_f (a := 200) (b := (P.length : Int)) (by omega), cond_false, ltI_f (a := 200) (b := (ph.length : Int)) (by omega), cond_false, ltI_f hc1, cond_false, ltI_f (a := 1048576) (b := (cn : Int)) (by omega), cond_false,
                    g6, step1, toBool_b, not_t, cond_false, eqI_t hl, not_t, cond_false, g7, step1, toInt_i, eqI_t hpk, not_t, cond_false, g4, step2, toInt_i, eqI_t rfl, not_t, cond_false, g3, step1, toInt_i, eqI_t rfl, not_t, cond_false, g9, step2, wrapLen (by omega), toBlob_b, g10, step1, toBlob_b, eqS_t rfl, cond_true,
                    g5, step1, toBool_b, eqI_t rfl, Bool.true_and, eqS_comm (rootH cn x) root, eqO_t rfl, cond_true, g8, step1, toBool_b, eqI_t rfl, eqS_t rfl, Bool.true_and, cond_true, g2, step1]
                  rfl
                · rw [eqI_f hpk, cond_false] at r1
                  have r2 := root_bad (by decide) r1
                  have r3 := check_any root r2
                  refine Evt.succ (((((hm.and multiAwake).and s2).and ((r1.and r2).and r3)).and hv4).mono fun n hn => ?_)
                  obtain ⟨⟨⟨⟨g1, g2⟩, g6⟩, ⟨g3, g4⟩, g5⟩, g7⟩ := hn
                  rw [f9_run, f9_eq, g1, step1, toBool_b, cond_false, ltI_f hc, cond_false, I_len, ltI_f (a := 200) (b := (P.length : Int)) (by omega), cond_false, ltI_f (a := 200) (b := (ph.length : Int)) (by omega), cond_false, ltI_f hc1, cond_false, ltI_f (a := 1048576) (b := (cn : Int)) (by omega), cond_false,
                    g6, step1, toBool_b, not_t, cond_false, eqI_t hl, not_t, cond_false, g7, step1, toInt_i, eqI_f hpk, not_f, cond_true, g4, step2, toInt_i, eqI_t rfl, not_t, cond_false, g3, step1, toInt_i, eqI_t rfl, not_t, cond_false, toBlob_b, eqS_t (by rfl), cond_true, g5, step1, toBool_b, eqI_f (by decide), Bool.false_and, not_f, cond_true, g2, step1]
                  rfl
              · have r1 := may_len (n := (lv.length : Int)) (c := c) (P := P) (ph := ph) (by omega) (by omega) (by omega) hr hl
                have r2 := root_bad (by decide) r1
                have r3 := check_any root r2
                refine Evt.succ ((((hm.and multiAwake).and s2).and ((r1.and r2).and r3)).mono fun n hn => ?_)
                obtain ⟨⟨⟨g1, g2⟩, g6⟩, ⟨g3, g4⟩, g5⟩ := hn
                rw [f9_run, f9_eq, g1, step1, toBool_b, cond_false, ltI_f hc, cond_false, I_len, ltI_f (a := 200) (b := (P.length : Int)) (by omega), cond_false, ltI_f (a := 200) (b := (ph.length : Int)) (by omega), cond_false, ltI_f hc1, cond_false, ltI_f (a := 1048576) (b := c) (by omega), cond_false,
                  g6, step1, toBool_b, not_t, cond_false, eqI_f hl, not_f, cond_true, g4, step2, toInt_i, eqI_t rfl, not_t, cond_false, g3, step1, toInt_i, eqI_t rfl, not_t, cond_false, toBlob_b, eqS_t (by rfl), cond_true, g5, step1, toBool_b, eqI_f (by decide), Bool.false_and, not_f, cond_true, g2, step1]
                rfl

theorem multiTells_sat (xs : List AV) (h : Ty.HasL [.blob 32, .slice .str, .struct [.int .i64, .slice (.int .i64), .slice (.blob 32)]] xs) : ∃ r, r.vals = [.bool true] ∧ Sat Try.prog f9_info 9 xs r := by
  obtain ⟨z, q, rfl, ⟨root, rfl, _⟩, x, r, rfl, ⟨l, rfl, hl, _, hx⟩, y, r2, rfl, ⟨m0, rfl, y0, s0, rfl, ⟨c, rfl, _⟩, y1, s1, rfl, ⟨p, rfl, _, _, hp⟩, y2, s2, rfl, ⟨m, rfl, _, _, hm⟩, rfl⟩, rfl⟩ := h
  rw [I_of hp]
  exact ⟨_, rfl, sat_of_runsX (by kernel_rfl) (multiTells_runs hl (short_of hx) (blob32_of hm))⟩

end Go.Proofs.Ytcpdiahbdmcdcaa.Ev
