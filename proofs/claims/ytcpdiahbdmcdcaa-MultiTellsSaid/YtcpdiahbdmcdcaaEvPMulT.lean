/- Several leaves under one root: both programs tell the same. -/
import Derived.Test.YtcpdiahbdmcdcaaEvPMulO
namespace Go.Proofs.Ytcpdiahbdmcdcaa.Ev
open Go Go.RowKit

theorem runs_det {f : FuncId} {xs : List AV} {r r' : Res} (h : RunsX f xs r) (h' : RunsX f xs r') : r = r' := by
  obtain ⟨n, h1, h2⟩ := (Evt.and h h').ex
  rw [h1] at h2
  exact Option.some.inj h2

/-- How many places stand ahead of one. -/
def cntB (P : List Int) (a : Int) : Nat := (P.filter fun x => decide (x < a)).length

theorem cntB_add (a s : Int) (hs : 0 ≤ s) : ∀ P : List Int, cntB P (a + s) = cntB P a + (sub_ P a (a + s)).length
  | [] => rfl
  | x :: P => by
    have ih := cntB_add a s hs P
    unfold cntB sub_ inB at ih ⊢
    rw [List.length_map] at ih ⊢
    simp only [List.filter_cons]
    by_cases h1 : x < a
    · rw [dec_t h1, dec_t (show x < a + s by omega), dec_f (show ¬ a ≤ x by omega)]
      simp only [if_true, Bool.false_and, List.length_cons, Bool.false_eq_true, if_false]
      omega
    · rw [dec_f h1]
      by_cases h2 : x < a + s
      · rw [dec_t h2, dec_t (show a ≤ x by omega)]
        simp only [if_true, Bool.and_true, List.length_cons, Bool.false_eq_true, if_false]
        omega
      · rw [dec_f h2]
        simp only [Bool.and_false, Bool.false_eq_true, if_false]
        exact ih

theorem cntB_at {P : List Int} (hs : P.Pairwise (· < ·)) {i : Nat} (hi : i < P.length) : cntB P P[i] = i := by
  have h1 : ∀ x ∈ P.take i, x < P[i] := by
    intro x hx
    obtain ⟨j, hj, rfl⟩ := List.getElem_of_mem hx
    rw [List.length_take] at hj
    rw [List.getElem_take]
    exact List.pairwise_iff_getElem.1 hs j i (by omega) hi (by omega)
  have := (split_sorted hs h1 (fun _ => Int.le_refl _)).1
  unfold cntB
  rw [← this, List.length_take]; omega

theorem cntB_le (P : List Int) (a : Int) : cntB P a ≤ P.length := List.length_filter_le _ _

theorem refTop_l0 (run : Run) (n : Nat) (lv : List AV) (P : List Int) (ph : List AV) (a b : Int) (o : List UInt8) (hP : P.length ≤ 1000) {i : Nat} (hi : i < P.length) (hne : ∀ q, q < i → P.getD q 0 ≠ a) (hai : P[i] = a) (hlv : i < lv.length) {h : List UInt8}
    (h63 : run 63 [.str (nth lv i).toStr] = some ⟨[.blob h], [], false⟩) : ∀ (j k c : Nat), c + j = i → j < k →
    f46_l0 run n k lv (I P) ph a b (c : Int) o = some ⟨[.blob h, .slice ph], [], false⟩ := by
  intro j
  induction j with
  | zero =>
    intro k c hc hk
    obtain ⟨k, rfl⟩ : ∃ j, k = j + 1 := ⟨k - 1, by omega⟩
    rw [Nat.add_zero] at hc
    subst hc
    rw [f46_l0_eq, I_len, ltI_t (by omega), cond_true, inR_nat hi, cond_true, Int.toNat_natCast, nthD hi, gd hi, eqI_t hai, cond_true, inR_nat hlv, cond_true, h63, step1]; rfl
  | succ j ih =>
    intro k c hc hk
    obtain ⟨k, rfl⟩ : ∃ j, k = j + 1 := ⟨k - 1, by omega⟩
    have ih' := ih k (c + 1) (by omega) (by omega)
    rw [show ((c + 1 : Nat) : Int) = (c : Int) + 1 by omega] at ih'
    rw [f46_l0_eq, I_len, ltI_t (by omega), cond_true, inR_nat (by omega), cond_true, Int.toNat_natCast, nthD (by omega), eqI_f (hne c (by omega)), cond_false, w64 (by omega) (by omega)]
    exact ih'

theorem top_both {P : List Int} (hP : P.length ≤ 1000) (hs : P.Pairwise (· < ·)) {lv : List AV} (hlv : lv.length = P.length) (hsh : Short lv) : ∀ (s : Nat) (a : Int), 1 ≤ s → 0 ≤ a → a + s ≤ 100 →
    ∃ k : Nat, k ≤ s ∧ RunsX 42 [.slice (I P), .int a, .int (a + s)] ⟨[.int k], [], false⟩ ∧ ∀ ph : List AV, Blob32 ph → ph.length ≤ 1000 → k ≤ ph.length →
      ∃ h : List UInt8, h.length = 32 ∧ RunsX 79 [.agg [.slice (lv.drop (cntB P a)), .slice ph], .int s, .slice (I (sub_ P a (a + s)))] ⟨[.blob h], [.agg [.slice (lv.drop (cntB P (a + s))), .slice (ph.drop k)]], false⟩ ∧
        RunsX 46 [.slice lv, .slice (I P), .slice ph, .int a, .int (a + s)] ⟨[.blob h, .slice (ph.drop k)], [], false⟩ := by
  intro s
  induction s using Nat.strongRecOn with
  | ind s ih =>
    intro a h1 ha has
    have ham := among_runs (P := P) (a := a) (b := a + s) hP
    rw [any_sub] at ham
    have hcn := cntB_add a s (by omega) P
    by_cases h0 : (sub_ P a (a + s)).length = 0
    · refine ⟨1, h1, Evt.succ (ham.mono fun n hn => ?_), fun ph hb hl hk => ?_⟩
      · rw [f42_run, f42_eq, hn, step1, toBool_b, dec_t h0, Bool.not_true, not_f, cond_true]; rfl
      · obtain ⟨b, hb1, hb2⟩ := hb (nth ph 0) (by rw [nth_lt (by omega)]; exact List.getElem_mem _)
        have b1 : boundsOk 1 (ph.length : Int) (ph.length : Int) (ph.length : Int) = true := by simp [boundsOk]; omega
        have et : (nth ph 0).toBlob = b := by rw [hb1]; rfl
        refine ⟨b, hb2, Evt.succ (.of fun n => ?_), Evt.succ (ham.mono fun n hn => ?_)⟩
        · rw [f79_run, f79_eq, I_len, eqI_t (by omega), cond_true, inR_yes (by omega) (by omega), cond_true, b1, Bool.and_true, cond_true, Int.toNat_natCast, List.take_length, et, hcn, h0, Nat.add_zero]; rfl
        · rw [f46_run, f46_eq, hn, step1, toBool_b, dec_t h0, Bool.not_true, not_f, cond_true, inR_yes (by omega) (by omega), cond_true, b1, Bool.and_true, cond_true, Int.toNat_natCast, List.take_length, et]; rfl
    · by_cases h5 : s = 1
      · subst h5
        refine ⟨0, by omega, Evt.succ (ham.mono fun n hn => ?_), fun ph hb hl hk => ?_⟩
        · rw [f42_run, f42_eq, hn, step1, toBool_b, dec_f h0, Bool.not_false, not_t, cond_false, w64 (x := a + ((1 : Nat) : Int) - a) (by omega) (by omega), eqI_t (by omega)]; rfl
        · have hm : ∃ x, x ∈ P ∧ x = a := by
            have : 0 < (P.filter (inB a (a + ((1 : Nat) : Int)))).length := by unfold sub_ at h0; rw [List.length_map] at h0; omega
            obtain ⟨x, hx⟩ := List.exists_mem_of_length_pos this
            rw [List.mem_filter] at hx
            refine ⟨x, hx.1, ?_⟩
            have := hx.2
            simp [inB] at this
            omega
          obtain ⟨x, hx, rfl⟩ := hm
          obtain ⟨i, hi, rfl⟩ := List.getElem_of_mem hx
          have hc := cntB_at hs hi
          have hil : i < lv.length := by omega
          have hld : (lv.drop i).length = lv.length - i := by simp
          have en : (nth (lv.drop i) 0).toStr = (nth lv i).toStr := by rw [nth_lt (by omega), nth_lt hil, List.getElem_drop]; simp
          have hls := leafSum_runs (hsh i hil)
          have hlr := refLeaf_runs (hsh i hil)
          have hone : (sub_ P P[i] (P[i] + ((1 : Nat) : Int))).length = 1 := by
            by_cases hlast : i + 1 < P.length
            · have h2 := cntB_at hs hlast
              have h3 : cntB P (P[i] + ((1 : Nat) : Int)) ≤ i + 1 := by
                have hlt := List.pairwise_iff_getElem.1 hs i (i + 1) hi hlast (by omega)
                have h4 := cntB_add (P[i] + ((1 : Nat) : Int)) (P[i + 1] - (P[i] + ((1 : Nat) : Int))) (by omega) P
                rw [show P[i] + ((1 : Nat) : Int) + (P[i + 1] - (P[i] + ((1 : Nat) : Int))) = P[i + 1] by omega, h2] at h4
                omega
              omega
            · have := cntB_le P (P[i] + ((1 : Nat) : Int))
              omega
          have b1 : boundsOk 1 ((lv.drop i).length : Int) ((lv.drop i).length : Int) ((lv.drop i).length : Int) = true := by simp [boundsOk]; omega
          refine ⟨leafH (nth lv i).toStr, hashV_len _, Evt.succ (hls.mono fun n hn => ?_), Evt.succ (((ham.and hlr).and (Evt.ge 2000)).mono fun n hn => ?_)⟩
          · rw [hcn, hc, hone, f79_run, f79_eq, I_len, eqI_f (by omega), cond_false, eqI_t (by rfl), cond_true, inR_yes (by omega) (by omega), cond_true, b1, Bool.and_true, cond_true, en, hn, step1, Int.toNat_natCast, List.take_length, List.drop_drop]
            rfl
          · rw [f46_run, f46_eq, hn.1.1, step1, toBool_b, dec_f h0, Bool.not_false, not_t, cond_false, w64 (x := P[i] + ((1 : Nat) : Int) - P[i]) (by omega) (by omega), eqI_t (by omega), cond_true]
            refine refTop_l0 _ n lv P ph P[i] _ _ hP hi (fun q hq => ?_) rfl hil hn.1.2 i n 0 (by omega) (by omega)
            rw [gd (show q < P.length by omega)]
            have := List.pairwise_iff_getElem.1 hs q i (by omega) hi hq
            omega
      · obtain ⟨hlv1, hlv2⟩ := leftV_range (n := (s : Int)) (by omega)
        have hLr := left_runs (n := (s : Int)) (by omega)
        have hRL := refLeft_runs (n := (s : Int)) (by omega)
        generalize leftV (s : Int) = p at hlv1 hlv2 hLr hRL
        obtain ⟨p', rfl⟩ : ∃ p' : Nat, p = p' := ⟨p.toNat, by omega⟩
        have hpart := parted_runs (P := P) (a := a) (b := a + s) (left := (p' : Int)) hP hs (by omega) (by omega)
        obtain ⟨k1, hk1, hn1, ht1⟩ := ih p' (by omega) a (by omega) ha (by omega)
        obtain ⟨k2, hk2, hn2, ht2⟩ := ih (s - p') (by omega) (a + p') (by omega) (by omega) (by omega)
        have e1 : a + (p' : Int) + ((s - p' : Nat) : Int) = a + s := by omega
        rw [e1] at hn2 ht2
        refine ⟨k1 + k2, by omega, Evt.succ (((ham.and hRL).and (hn1.and hn2)).mono fun n hn => ?_), fun ph hb hl hk => ?_⟩
        · obtain ⟨⟨g1, g2⟩, g3, g4⟩ := hn
          rw [f42_run, f42_eq, g1, step1, toBool_b, dec_f h0, Bool.not_false, not_t, cond_false, w64 (x := a + (s : Int) - a) (by omega) (by omega), eqI_f (by omega), cond_false, show a + (s : Int) - a = (s : Int) by omega, g2, step1, toInt_i, w64 (x := a + (p' : Int)) (by omega) (by omega), g3, step1, g4, step1, toInt_i, toInt_i, w64 (by omega) (by omega)]
          rw [show (k1 : Int) + (k2 : Int) = ((k1 + k2 : Nat) : Int) by omega]
          rfl
        · obtain ⟨x1, hx1, r1, q1⟩ := ht1 ph hb hl (by omega)
          obtain ⟨x2, hx2, r2, q2⟩ := ht2 (ph.drop k1) (fun y hy => hb y (List.mem_of_mem_drop hy)) (by simp; omega) (by simp; omega)
          have t1 := nodeSum_runs hx1 hx2
          have t2 := refNode_runs hx1 hx2
          rw [List.drop_drop] at r2 q2
          refine ⟨nodeH x1 x2, hashV_len _, Evt.succ (((hLr.and hpart).and ((r1.and r2).and t1)).mono fun n hn => ?_), Evt.succ (((ham.and hRL).and ((q1.and q2).and t2)).mono fun n hn => ?_)⟩
          · obtain ⟨⟨g1, g2⟩, ⟨g3, g4⟩, g5⟩ := hn
            rw [f79_run, f79_eq, I_len, eqI_f (by omega), cond_false, eqI_f (by omega), cond_false, g1, step1, toInt_i, g2, step2, toSlice_s, toSlice_s, g3, bind_run, consV_c, nilV_n, consV_c, nilV_n, w64 (x := (s : Int) - p') (by omega) (by omega), show (s : Int) - p' = ((s - p' : Nat) : Int) by omega]
            have e2 : ∀ x y : List AV, [AV.slice ((AV.fld (.agg [.slice x, .slice y]) 0).toSlice), AV.slice ((AV.fld (.agg [.slice x, .slice y]) 1).toSlice)] = [.slice x, .slice y] := fun _ _ => rfl
            rw [e2, g4, bind_run, consV_c, nilV_n, consV_c, nilV_n, toBlob_b, toBlob_b, g5, step1, e2]
            rfl
          · obtain ⟨⟨g1, g2⟩, ⟨g3, g4⟩, g5⟩ := hn
            rw [f46_run, f46_eq, g1, step1, toBool_b, dec_f h0, Bool.not_false, not_t, cond_false, w64 (x := a + (s : Int) - a) (by omega) (by omega), eqI_f (by omega), cond_false, show a + (s : Int) - a = (s : Int) by omega, g2, step1, toInt_i, w64 (x := a + (p' : Int)) (by omega) (by omega), g3, step2, toSlice_s, g4, step2, toBlob_b, toBlob_b, g5, step1]
            rfl

end Go.Proofs.Ytcpdiahbdmcdcaa.Ev
