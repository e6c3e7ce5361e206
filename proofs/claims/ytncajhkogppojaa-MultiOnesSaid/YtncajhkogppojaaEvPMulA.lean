/- Each of several leaves alone. -/
import Derived.Test.YtncajhkogppojaaEvPMulU
import Derived.Test.YtncajhkogppojaaEvPHold
import Derived.Test.YtncajhkogppojaaEvPKit
namespace Go.Proofs.Ytncajhkogppojaa.Ev
open Go Go.RowKit

/-- How many sums stand beside the places of a part. -/
def nd (P : List Int) : Nat → Nat → Int → Nat
  | 0, _, _ => 0
  | f + 1, s, a => if (sub_ P a (a + s)).length = 0 then 1 else if s = 1 then 0 else nd P f (leftV (s : Int)).toNat a + nd P f (s - (leftV (s : Int)).toNat) (a + ((leftV (s : Int)).toNat : Nat))
/-- The sum at the top of a part. -/
def mt (P : List Int) (lv : List AV) : Nat → Nat → Int → List AV → List UInt8
  | 0, _, _, _ => []
  | f + 1, s, a, ph => if (sub_ P a (a + s)).length = 0 then (nth ph 0).toBlob else if s = 1 then leafH (nth lv (cntB P a)).toStr
    else nodeH (mt P lv f (leftV (s : Int)).toNat a ph) (mt P lv f (s - (leftV (s : Int)).toNat) (a + ((leftV (s : Int)).toNat : Nat)) (ph.drop (nd P f (leftV (s : Int)).toNat a)))

/-- A leaf's way, of what is taken. -/
def ot (P : List Int) (lv : List AV) (x : Int) : Nat → Nat → Int → List AV → List AV
  | 0, _, _, _ => []
  | f + 1, s, a, ph => if s = 1 then [] else if x - a < leftV (s : Int) then ot P lv x f (leftV (s : Int)).toNat a ph ++ [.blob (mt P lv f (s - (leftV (s : Int)).toNat) (a + ((leftV (s : Int)).toNat : Nat)) (ph.drop (nd P f (leftV (s : Int)).toNat a)))]
    else ot P lv x f (s - (leftV (s : Int)).toNat) (a + ((leftV (s : Int)).toNat : Nat)) (ph.drop (nd P f (leftV (s : Int)).toNat a)) ++ [.blob (mt P lv f (leftV (s : Int)).toNat a ph)]

theorem needU {P : List Int} (hP : P.length ≤ 1000) (hs : P.Pairwise (· < ·)) : ∀ (f s : Nat) (a : Int), 1 ≤ s → s ≤ f → 0 ≤ a → a + s ≤ 100 →
    nd P f s a ≤ s ∧ RunsX 81 [.int s, .slice (I (sub_ P a (a + s)))] ⟨[.int (nd P f s a : Int)], [], false⟩ := by
  intro f
  induction f with
  | zero => intro s a h1 h2; omega
  | succ f ih =>
    intro s a h1 h2 h3 h4
    simp only [nd]
    by_cases h0 : (sub_ P a (a + s)).length = 0
    · rw [if_pos h0]
      refine ⟨h1, Evt.succ (.of fun n => ?_)⟩
      rw [f81_run, f81_eq, I_len, eqI_t (by omega)]; rfl
    rw [if_neg h0]
    by_cases h5 : s = 1
    · subst h5
      rw [if_pos rfl]
      refine ⟨by omega, Evt.succ (.of fun n => ?_)⟩
      rw [f81_run, f81_eq, I_len, eqI_f (by omega), eqI_t (by omega)]; rfl
    rw [if_neg h5]
    obtain ⟨hlv1, hlv2⟩ := leftV_range (n := (s : Int)) (by omega)
    have hL := left_runs (n := (s : Int)) (by omega)
    generalize leftV (s : Int) = p at hlv1 hlv2 hL
    obtain ⟨p', rfl⟩ : ∃ p' : Nat, p = p' := ⟨p.toNat, by omega⟩
    rw [Int.toNat_natCast]
    have hpart := parted_runs (P := P) (a := a) (b := a + s) (left := (p' : Int)) hP hs (by omega) (by omega)
    obtain ⟨v1, v2⟩ := ih p' a (by omega) (by omega) h3 (by omega)
    obtain ⟨u1, u2⟩ := ih (s - p') (a + p') (by omega) (by omega) (by omega) (by omega)
    rw [show a + (p' : Int) + ((s - p' : Nat) : Int) = a + s by omega] at u2
    refine ⟨by omega, Evt.succ (((hL.and hpart).and (v2.and u2)).mono fun n hn => ?_)⟩
    obtain ⟨⟨g1, g2⟩, g3, g4⟩ := hn
    rw [f81_run, f81_eq, I_len, eqI_f (by omega), eqI_f (by omega), cond_false, cond_false, g1, step1, toInt_i, g2, step2, toSlice_s, g3, step1, w64 (x := (s : Int) - p') (by omega) (by omega), show (s : Int) - p' = ((s - p' : Nat) : Int) by omega, toSlice_s, g4, step1, toInt_i, toInt_i, w64 (by omega) (by omega), ← Int.natCast_add]
    rfl

theorem cnt_one {P : List Int} (hs : P.Pairwise (· < ·)) {i : Nat} (hi : i < P.length) : (sub_ P P[i] (P[i] + ((1 : Nat) : Int))).length ≤ 1 := by
  have hcn := cntB_add P[i] ((1 : Nat) : Int) (by omega) P
  have hc := cntB_at hs hi
  by_cases hlast : i + 1 < P.length
  · have h2 := cntB_at hs hlast
    have h3 : cntB P (P[i] + ((1 : Nat) : Int)) ≤ i + 1 := by
      have hlt := List.pairwise_iff_getElem.1 hs i (i + 1) hi hlast (by omega)
      have h4 := cntB_add (P[i] + ((1 : Nat) : Int)) (P[i + 1] - (P[i] + ((1 : Nat) : Int))) (by omega) P
      rw [show P[i] + ((1 : Nat) : Int) + (P[i + 1] - (P[i] + ((1 : Nat) : Int))) = P[i + 1] by omega, h2] at h4
      omega
    omega
  · have := cntB_le P (P[i] + ((1 : Nat) : Int))
    omega
theorem sub_one {P : List Int} {a : Int} (h0 : ¬ (sub_ P a (a + ((1 : Nat) : Int))).length = 0) : ∃ i, ∃ hi : i < P.length, P[i] = a := by
  have : 0 < (P.filter (inB a (a + ((1 : Nat) : Int)))).length := by unfold sub_ at h0; rw [List.length_map] at h0; omega
  obtain ⟨x, hx⟩ := List.exists_mem_of_length_pos this
  rw [List.mem_filter] at hx
  have h2 := hx.2
  simp [inB] at h2
  obtain ⟨i, hi, he⟩ := List.getElem_of_mem hx.1
  exact ⟨i, hi, by omega⟩

theorem topU {P : List Int} (hP : P.length ≤ 1000) (hs : P.Pairwise (· < ·)) {lv : List AV} (hlv : lv.length = P.length) (hsh : Short lv) : ∀ (f s : Nat) (a : Int) (ph : List AV), 1 ≤ s → s ≤ f → 0 ≤ a → a + s ≤ 100 → Blob32 ph → ph.length ≤ 1000 → nd P f s a ≤ ph.length →
    (mt P lv f s a ph).length = 32 ∧ RunsX 54 [.agg [.slice (lv.drop (cntB P a)), .slice ph], .int s, .slice (I (sub_ P a (a + s)))] ⟨[.blob (mt P lv f s a ph)], [.agg [.slice (lv.drop (cntB P (a + s))), .slice (ph.drop (nd P f s a))]], false⟩ := by
  intro f
  induction f with
  | zero => intro s a ph h1 h2; omega
  | succ f ih =>
    intro s a ph h1 h2 h3 h4 hb hl hk
    have hcn := cntB_add a s (by omega) P
    simp only [nd, mt] at hk ⊢
    by_cases h0 : (sub_ P a (a + s)).length = 0
    · rw [if_pos h0] at hk ⊢
      rw [if_pos h0]
      obtain ⟨b, hb1, hb2⟩ := hb (nth ph 0) (by rw [nth_lt (by omega)]; exact List.getElem_mem _)
      have b1 : boundsOk 1 (ph.length : Int) (ph.length : Int) (ph.length : Int) = true := by simp [boundsOk]; omega
      refine ⟨by rw [hb1]; exact hb2, Evt.succ (.of fun n => ?_)⟩
      rw [f54_run, f54_eq, I_len, eqI_t (by omega), cond_true, inR_yes (by omega) (by omega), cond_true, b1, Bool.and_true, cond_true, Int.toNat_natCast, List.take_length, hcn, h0, Nat.add_zero]; rfl
    rw [if_neg h0] at hk ⊢
    rw [if_neg h0]
    by_cases h5 : s = 1
    · subst h5
      rw [if_pos rfl] at hk ⊢
      rw [if_pos rfl]
      obtain ⟨i, hi, rfl⟩ := sub_one h0
      have hc := cntB_at hs hi
      have hil : i < lv.length := by omega
      have hld : (lv.drop i).length = lv.length - i := by simp
      have en : (nth (lv.drop i) 0).toStr = (nth lv i).toStr := by rw [nth_lt (by omega), nth_lt hil, List.getElem_drop]; simp
      have hls := leafSum_runs (hsh i hil)
      have hone : (sub_ P P[i] (P[i] + ((1 : Nat) : Int))).length = 1 := by have := cnt_one hs hi; omega
      have b1 : boundsOk 1 ((lv.drop i).length : Int) ((lv.drop i).length : Int) ((lv.drop i).length : Int) = true := by simp [boundsOk]; omega
      rw [hc]
      refine ⟨hashV_len _, Evt.succ (hls.mono fun n hn => ?_)⟩
      rw [hcn, hc, hone, f54_run, f54_eq, I_len, eqI_f (by omega), cond_false, eqI_t (by rfl), cond_true, inR_yes (by omega) (by omega), cond_true, b1, Bool.and_true, cond_true, en, hn, step1, Int.toNat_natCast, List.take_length, List.drop_drop]
      rfl
    rw [if_neg h5] at hk ⊢
    rw [if_neg h5]
    obtain ⟨hlv1, hlv2⟩ := leftV_range (n := (s : Int)) (by omega)
    have hLr := left_runs (n := (s : Int)) (by omega)
    generalize leftV (s : Int) = p at hlv1 hlv2 hLr hk ⊢
    obtain ⟨p', rfl⟩ : ∃ p' : Nat, p = p' := ⟨p.toNat, by omega⟩
    rw [Int.toNat_natCast] at hk ⊢
    have hpart := parted_runs (P := P) (a := a) (b := a + s) (left := (p' : Int)) hP hs (by omega) (by omega)
    obtain ⟨l1, r1⟩ := ih p' a ph (by omega) (by omega) h3 (by omega) hb hl (by omega)
    obtain ⟨l2, r2⟩ := ih (s - p') (a + p') (ph.drop (nd P f p' a)) (by omega) (by omega) (by omega) (by omega) (fun y hy => hb y (List.mem_of_mem_drop hy)) (by simp; omega) (by simp; omega)
    rw [show a + (p' : Int) + ((s - p' : Nat) : Int) = a + s by omega] at r2
    rw [List.drop_drop] at r2
    have t1 := nodeSum_runs l1 l2
    refine ⟨hashV_len _, Evt.succ (((hLr.and hpart).and ((r1.and r2).and t1)).mono fun n hn => ?_)⟩
    obtain ⟨⟨g1, g2⟩, ⟨g3, g4⟩, g5⟩ := hn
    have e2 : ∀ x y : List AV, [AV.slice ((AV.fld (.agg [.slice x, .slice y]) 0).toSlice), AV.slice ((AV.fld (.agg [.slice x, .slice y]) 1).toSlice)] = [.slice x, .slice y] := fun _ _ => rfl
    rw [f54_run, f54_eq, I_len, eqI_f (by omega), cond_false, eqI_f (by omega), cond_false, g1, step1, toInt_i, g2, step2, toSlice_s, toSlice_s, g3, bind_run, consV_c, nilV_n, consV_c, nilV_n, w64 (x := (s : Int) - p') (by omega) (by omega), show (s : Int) - p' = ((s - p' : Nat) : Int) by omega]
    rw [e2, g4, bind_run, consV_c, nilV_n, consV_c, nilV_n, toBlob_b, toBlob_b, g5, step1, e2]
    rfl

theorem skipU {P : List Int} {lvs ph : List AV} {s : Nat} {q : List Int} {k : Nat} (h : RunsX 81 [.int s, .slice (I q)] ⟨[.int (k : Int)], [], false⟩) (h1 : q.length ≤ lvs.length) (h2 : k ≤ ph.length) :
    RunsX 53 [.agg [.slice lvs, .slice ph], .int s, .slice (I q)] ⟨[], [.agg [.slice (lvs.drop q.length), .slice (ph.drop k)]], false⟩ := by
  refine Evt.succ (h.mono fun n hn => ?_)
  have b1 : boundsOk (q.length : Int) (lvs.length : Int) (lvs.length : Int) (lvs.length : Int) = true := by simp [boundsOk]; omega
  have b2 : boundsOk (k : Int) (ph.length : Int) (ph.length : Int) (ph.length : Int) = true := by simp [boundsOk]; omega
  rw [f53_run, f53_eq, I_len, b1, Bool.and_true, cond_true, hn, step1, toInt_i, b2, Bool.and_true, cond_true, Int.toNat_natCast, Int.toNat_natCast, Int.toNat_natCast, Int.toNat_natCast, List.take_length, List.take_length]
  rfl
theorem in_sub {P : List Int} {a b : Int} {i : Nat} (hi : i < P.length) (h1 : a ≤ P[i]) (h2 : P[i] < b) : ¬ (sub_ P a b).length = 0 := by
  unfold sub_
  rw [List.length_map]
  intro h
  have : P[i] ∈ P.filter (inB a b) := List.mem_filter.2 ⟨List.getElem_mem _, by simp [inB]; omega⟩
  rw [List.length_eq_zero_iff.1 h] at this
  cases this
theorem sides1 (f : Nat) (n i : Int) (h : n < 2) : sidesV f n i = [] := by
  cases f
  · rfl
  · simp only [sidesV]; rw [if_pos h]
/-- One leaf's way up tells the part's top. -/
theorem oneU {P : List Int} (hP : P.length ≤ 1000) (hs : P.Pairwise (· < ·)) {lv : List AV} (hlv : lv.length = P.length) (hsh : Short lv) {i : Nat} (hi : i < P.length) : ∀ (f s : Nat) (a : Int) (ph : List AV), 1 ≤ s → s ≤ f → 0 ≤ a → a + s ≤ 100 → Blob32 ph → ph.length ≤ 1000 → nd P f s a ≤ ph.length → a ≤ P[i] → P[i] < a + s →
    ∃ Q : List AV, Blob32 Q ∧ Q.length = (sidesV f (s : Int) (P[i] - a)).length ∧ Q.length ≤ s ∧ climb ((sidesV f (s : Int) (P[i] - a)).zip Q) (leafH (nth lv i).toStr) = mt P lv f s a ph ∧ Q = ot P lv P[i] f s a ph ∧
      ∀ o1 o2 : Int, Evt fun n => ∀ (k : Nat) (acc : List AV), s < k → acc.length + s ≤ 1000 → f14_l0 (runE G ext n) n k (P[i] - a) (s : Int) (I (sub_ P a (a + s))) 0 0 [] o1 o2 acc (lv.drop (cntB P a)) ph = some ⟨[.agg [.int o1, .int o2, .slice (Q ++ acc)], .bool true], [], false⟩ := by
  intro f
  induction f with
  | zero => intro s a ph h1 h2; omega
  | succ f ih =>
    intro s a ph h1 h2 h3 h4 hb hl hk h6 h7
    have h0 := in_sub hi h6 h7
    simp only [nd, mt, ot] at hk ⊢
    rw [if_neg h0] at hk
    rw [if_neg h0]
    by_cases h5 : s = 1
    · subst h5
      rw [if_pos rfl, if_pos rfl]
      have ha : P[i] = a := by omega
      have hc := cntB_at hs hi
      rw [ha] at hc
      refine ⟨[], no_blobs, by rw [sides1 _ _ _ (by omega)], by simp, by rw [sides1 _ _ _ (by omega), hc]; rfl, rfl, fun o1 o2 => .of fun n k acc hk2 _ => ?_⟩
      obtain ⟨k, rfl⟩ : ∃ j, k = j + 1 := ⟨k - 1, by omega⟩
      rw [f14_l0_eq, ltI_f (by omega), cond_false]; rfl
    rw [if_neg h5] at hk ⊢
    rw [if_neg h5]
    obtain ⟨hlv1, hlv2⟩ := leftV_range (n := (s : Int)) (by omega)
    have hLr := left_runs (n := (s : Int)) (by omega)
    have hsd : sidesV (f + 1) (s : Int) (P[i] - a) = if P[i] - a < leftV (s : Int) then sidesV f (leftV (s : Int)) (P[i] - a) ++ [.bool false] else sidesV f ((s : Int) - leftV (s : Int)) (P[i] - a - leftV (s : Int)) ++ [.bool true] := by
      simp only [sidesV]
      rw [if_neg (by omega)]
    generalize leftV (s : Int) = p at hlv1 hlv2 hLr hk hsd ⊢
    obtain ⟨p', rfl⟩ : ∃ p' : Nat, p = p' := ⟨p.toNat, by omega⟩
    rw [Int.toNat_natCast] at hk ⊢
    have hpart := parted_runs (P := P) (a := a) (b := a + s) (left := (p' : Int)) hP hs (by omega) (by omega)
    have hdb : Blob32 (ph.drop (nd P f p' a)) := fun y hy => hb y (List.mem_of_mem_drop hy)
    obtain ⟨l1, r1⟩ := topU hP hs hlv hsh f p' a ph (by omega) (by omega) h3 (by omega) hb hl (by omega)
    obtain ⟨l2, r2⟩ := topU hP hs hlv hsh f (s - p') (a + p') (ph.drop (nd P f p' a)) (by omega) (by omega) (by omega) (by omega) hdb (by simp; omega) (by simp; omega)
    rw [show a + (p' : Int) + ((s - p' : Nat) : Int) = a + s by omega] at r2
    have e2 : ∀ x y : List AV, [AV.slice ((AV.fld (.agg [.slice x, .slice y]) 0).toSlice), AV.slice ((AV.fld (.agg [.slice x, .slice y]) 1).toSlice)] = [.slice x, .slice y] := fun _ _ => rfl
    have f0 : ∀ x y : List AV, (AV.fld (.agg [.slice x, .slice y]) 0).toSlice = x := fun _ _ => rfl
    have f1 : ∀ x y : List AV, (AV.fld (.agg [.slice x, .slice y]) 1).toSlice = y := fun _ _ => rfl
    by_cases hside : P[i] - a < (p' : Int)
    · rw [if_pos hside] at hsd
      obtain ⟨Q, q1, q2, q3, q4, q6, q5⟩ := ih p' a ph (by omega) (by omega) h3 (by omega) hb hl (by omega) h6 (by omega)
      have hnd := (needU hP hs f p' a (by omega) (by omega) h3 (by omega)).2
      have hcn := cntB_add a p' (by omega) P
      have hcl := cntB_le P (a + p')
      have r3 := skipU (P := P) (lvs := lv.drop (cntB P a)) (ph := ph) hnd (by simp; omega) (by omega)
      rw [List.drop_drop, ← hcn] at r3
      generalize hy : mt P lv f (s - p') (a + (p' : Nat)) (ph.drop (nd P f p' a)) = y at r2 l2 ⊢
      refine ⟨Q ++ [.blob y], fun z hz => ?_, ?_, ?_, ?_, by rw [if_pos hside, q6], fun o1 o2 => ?_⟩
      · rcases List.mem_append.1 hz with h | h
        · exact q1 z h
        · rw [List.mem_singleton.1 h]; exact ⟨_, rfl, l2⟩
      · rw [hsd, List.length_append, List.length_append, q2]; rfl
      · simp; omega
      · rw [hsd, List.zip_append q2.symm]
        show climb (_ ++ [(AV.bool false, AV.blob y)]) _ = _
        rw [climb_snoc, q4]; rfl
      · refine (((hLr.and hpart).and (r3.and r2)).and (q5 o1 o2)).mono fun n hn => ?_
        obtain ⟨⟨⟨g1, g2⟩, g3, g4⟩, g5⟩ := hn
        intro k acc hk2 hacc
        obtain ⟨k, rfl⟩ : ∃ j, k = j + 1 := ⟨k - 1, by omega⟩
        have ih' := g5 k ([.blob y] ++ acc) (by omega) (by simp; omega)
        rw [f14_l0_eq, ltI_t (by omega), cond_true, g1, step1, toInt_i, g2, step2, toSlice_s, toSlice_s, ltI_t (by omega), cond_true, g3, bind_run, consV_c, nilV_n, nilV_n, e2, w64 (x := (s : Int) - p') (by omega) (by omega), show (s : Int) - p' = ((s - p' : Nat) : Int) by omega, g4, bind_run, consV_c, nilV_n, consV_c, nilV_n, toBlob_b, show Nat.ble ((1 + acc.length) * 32) 140737488355328 = true from Nat.ble_eq_true_of_le (by omega), cond_true, ih', List.append_assoc]
    · rw [if_neg hside] at hsd
      obtain ⟨Q, q1, q2, q3, q4, q6, q5⟩ := ih (s - p') (a + p') (ph.drop (nd P f p' a)) (by omega) (by omega) (by omega) (by omega) hdb (by simp; omega) (by simp; omega) (by omega) (by omega)
      rw [show a + (p' : Int) + ((s - p' : Nat) : Int) = a + s by omega] at q5
      rw [show P[i] - (a + (p' : Int)) = P[i] - a - p' by omega, show ((s - p' : Nat) : Int) = (s : Int) - p' by omega] at q2 q4 q5
      generalize hx : mt P lv f p' a ph = x at r1 l1 ⊢
      refine ⟨Q ++ [.blob x], fun z hz => ?_, ?_, ?_, ?_, by rw [if_neg hside, q6], fun o1 o2 => ?_⟩
      · rcases List.mem_append.1 hz with h | h
        · exact q1 z h
        · rw [List.mem_singleton.1 h]; exact ⟨_, rfl, l1⟩
      · rw [hsd, List.length_append, List.length_append, q2]; rfl
      · simp; omega
      · rw [hsd, List.zip_append q2.symm]
        show climb (_ ++ [(AV.bool true, AV.blob x)]) _ = _
        rw [climb_snoc, q4]; rfl
      · refine (((hLr.and hpart).and r1).and (q5 o1 o2)).mono fun n hn => ?_
        obtain ⟨⟨⟨g1, g2⟩, g3⟩, g5⟩ := hn
        intro k acc hk2 hacc
        obtain ⟨k, rfl⟩ : ∃ j, k = j + 1 := ⟨k - 1, by omega⟩
        have ih' := g5 k ([.blob x] ++ acc) (by omega) (by simp; omega)
        rw [f14_l0_eq, ltI_t (by omega), cond_true, g1, step1, toInt_i, g2, step2, toSlice_s, toSlice_s, ltI_f (by omega), cond_false, g3, bind_run, consV_c, nilV_n, consV_c, nilV_n, toBlob_b, show Nat.ble ((1 + acc.length) * 32) 140737488355328 = true from Nat.ble_eq_true_of_le (by omega), cond_true, f0, f1, w64 (x := P[i] - a - p') (by omega) (by omega), w64 (x := (s : Int) - p') (by omega) (by omega), ih', List.append_assoc]

theorem may_any {lv ph : List AV} {c : Int} {P : List Int} (hc : c ≤ 100 ∨ 1048576 < c) (hP : P.length ≤ 200) : ∃ w : Int, RunsX 50 [.int (lv.length : Int), Mny c P ph] ⟨[.int w], [], false⟩ ∧ (w = 0 → 1 ≤ c ∧ c ≤ 100 ∧ risV P c P.length 0 = true ∧ lv.length = P.length ∧ ph.length = nd P c.toNat c.toNat 0) := by
  by_cases hb : c < 1 ∨ 1048576 < c
  · exact ⟨3, may_bad1 hb, fun h => absurd h (by decide)⟩
  cases hr : risV P c P.length 0 with
  | false => exact ⟨3, may_bad2 (by omega) (by omega) (by omega) hr, fun h => absurd h (by decide)⟩
  | true =>
    by_cases hn : (lv.length : Int) = (P.length : Int)
    · obtain ⟨f1, f2, f3, f4⟩ := rising_facts hr
      obtain ⟨cn, rfl⟩ : ∃ cn : Nat, c = cn := ⟨c.toNat, by omega⟩
      have hu := (needU (P := P) (by omega) f3 cn cn 0 (by omega) (Nat.le_refl _) (by omega) (by omega)).2
      rw [Int.zero_add, f4] at hu
      refine ⟨_, may_need (by omega) (by omega) (by omega) hr hn hu, fun h => ⟨by omega, by omega, rfl, by omega, ?_⟩⟩
      by_cases he : (ph.length : Int) = (nd P cn cn 0 : Int)
      · rw [Int.toNat_natCast]; omega
      · rw [eqI_f he, cond_false] at h; exact absurd h (by decide)
    · exact ⟨2, may_len (by omega) (by omega) (by omega) hr hn, fun h => absurd h (by decide)⟩

theorem one_bad {c w i : Int} {P : List Int} {ph lv : List AV} (hw : ¬ w = 0) (r : RunsX 50 [.int (lv.length : Int), Mny c P ph] ⟨[.int w], [], false⟩) : RunsX 14 [.slice lv, Mny c P ph, .int i] ⟨[.agg [.int 0, .int 0, .slice []], .bool false], [], false⟩ := by
  refine Evt.succ (r.mono fun m hm => ?_)
  rw [f14_run, f14_eq, hm, step1, toInt_i, eqI_f hw, not_f, cond_true]; rfl
theorem one_out {c i : Int} {P : List Int} {ph lv : List AV} (r : RunsX 50 [.int (lv.length : Int), Mny c P ph] ⟨[.int 0], [], false⟩) (hi : i < 0 ∨ (P.length : Int) ≤ i) : RunsX 14 [.slice lv, Mny c P ph, .int i] ⟨[.agg [.int 0, .int 0, .slice []], .bool false], [], false⟩ := by
  refine Evt.succ (r.mono fun m hm => ?_)
  rw [f14_run, f14_eq, hm, step1, toInt_i, eqI_t rfl, not_t, cond_false, I_len]
  by_cases h : i < 0
  · rw [ltI_t h, cond_true]; rfl
  · rw [ltI_f h, cond_false, leI_t (by omega), cond_true]; rfl
theorem root_ok {c : Nat} {P : List Int} {lv ph : List AV} (hsh : Short lv) (hb : Blob32 ph) (h1 : 1 ≤ c) (h2 : c ≤ 100) (hP : P.length ≤ 200) (hr : risV P c P.length 0 = true) (hl : lv.length = P.length) (hk : ph.length = nd P c c 0) (r1 : RunsX 50 [.int (lv.length : Int), Mny c P ph] ⟨[.int 0], [], false⟩) :
    (mt P lv c c 0 ph).length = 32 ∧ RunsX 49 [.slice lv, Mny c P ph] ⟨[.blob (rootH c (mt P lv c c 0 ph)), .int 0], [], false⟩ := by
  obtain ⟨f1, f2, f3, f4⟩ := rising_facts hr
  have hu := (needU (P := P) (by omega) f3 c c 0 h1 (Nat.le_refl _) (by omega) (by omega)).1
  obtain ⟨l1, t1⟩ := topU (P := P) (by omega) f3 hl hsh c c 0 ph h1 (Nat.le_refl _) (by omega) (by omega) hb (by omega) (by omega)
  have c0 : cntB P 0 = 0 := by
    have := risV_of P.length 0 (by omega) hr
    unfold cntB
    rw [List.length_eq_zero_iff, List.filter_eq_nil_iff]
    intro y hy
    obtain ⟨q, hq, rfl⟩ := List.getElem_of_mem hy
    have := this.2 q (by omega) hq
    rw [gd hq] at this
    simp; omega
  rw [c0, List.drop_zero, Int.zero_add, f4] at t1
  have t3 := rootSum_runs c l1
  refine ⟨l1, Evt.succ (((r1.and t1).and t3).mono fun m hm => ?_)⟩
  obtain ⟨⟨g1, g2⟩, g3⟩ := hm
  rw [f49_run, f49_eq, g1, step1, toInt_i, eqI_t rfl, not_t, cond_false, g2, bind_run, consV_c, nilV_n, consV_c, nilV_n, wrapLen (by omega), toBlob_b, g3, step1]
  rfl
theorem one_ok {c i : Nat} {P : List Int} {lv ph : List AV} (hsh : Short lv) (hb : Blob32 ph) (h1 : 1 ≤ c) (h2 : c ≤ 100) (hP : P.length ≤ 200) (hr : risV P c P.length 0 = true) (hl : lv.length = P.length) (hk : ph.length = nd P c c 0) (hi : i < P.length) (r1 : RunsX 50 [.int (lv.length : Int), Mny c P ph] ⟨[.int 0], [], false⟩) :
    ∃ Q : List AV, Blob32 Q ∧ mayH P[i] (c : Int) Q = 0 ∧ toldH (nth lv i).toStr P[i] (c : Int) Q = rootH c (mt P lv c c 0 ph) ∧ Q = ot P lv P[i] c c 0 ph ∧ RunsX 14 [.slice lv, Mny c P ph, .int (i : Int)] ⟨[.agg [.int P[i], .int (c : Int), .slice Q], .bool true], [], false⟩ := by
  obtain ⟨f1, f2, f3, f4⟩ := rising_facts hr
  have hin := (risV_of P.length 0 (by omega) hr).2 i (by omega) hi
  rw [gd hi] at hin
  have hu := (needU (P := P) (by omega) f3 c c 0 h1 (Nat.le_refl _) (by omega) (by omega)).1
  obtain ⟨Q, q1, q2, q3, q4, q6, q5⟩ := oneU (P := P) (by omega) f3 hl hsh hi c c 0 ph h1 (Nat.le_refl _) (by omega) (by omega) hb (by omega) (by omega) (by omega) (by omega)
  rw [Int.sub_zero] at q2 q4
  have c0 : cntB P 0 = 0 := by
    have := risV_of P.length 0 (by omega) hr
    unfold cntB
    rw [List.length_eq_zero_iff, List.filter_eq_nil_iff]
    intro y hy
    obtain ⟨q, hq, rfl⟩ := List.getElem_of_mem hy
    have := this.2 q (by omega) hq
    rw [gd hq] at this
    simp; omega
  have hm : mayH P[i] (c : Int) Q = 0 := by
    unfold mayH
    rw [if_neg (by omega), Int.toNat_natCast, if_pos (by omega)]
  refine ⟨Q, q1, hm, ?_, q6, Evt.succ ((((r1.and (q5 P[i] (c : Int))).and (Evt.ge 300))).mono fun n hn => ?_)⟩
  · unfold toldH waysH
    rw [if_pos hm, Int.toNat_natCast, q4]
  · obtain ⟨⟨g1, g2⟩, g3⟩ := hn
    have := g2 n [] (by omega) (by simp; omega)
    rw [c0, List.drop_zero, Int.zero_add, f4, Int.sub_zero, List.append_nil] at this
    have en : (nth (I P) i).toInt = P[i] := by rw [nthD hi, gd hi]
    rw [f14_run, f14_eq, g1, step1, toInt_i, eqI_t rfl, not_t, cond_false, I_len, ltI_f (by omega), cond_false, leI_f (by omega), cond_false, inR_nat hi, cond_true, Int.toNat_natCast, en, this]

end Go.Proofs.Ytncajhkogppojaa.Ev
