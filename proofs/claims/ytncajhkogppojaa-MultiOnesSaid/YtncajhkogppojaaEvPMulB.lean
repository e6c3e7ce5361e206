/- Several leaves of a list, each alone. -/
import Derived.Test.YtncajhkogppojaaEvPMulA
import Derived.Test.YtncajhkogppojaaEvPOpens
namespace Go.Proofs.Ytncajhkogppojaa.Ev
open Go Go.RowKit

theorem topV_fuel {l : List AV} {k m : Nat} (h1 : l.length ≤ k) (h2 : l.length ≤ m) (hl : l.length ≤ 100000) (hb : Blob32 l) : topV k l = topV m l := by
  have := runs_det (top_runs k l h1 (by omega) hb) (top_runs m l h2 (by omega) hb)
  injection this with h _ _
  injection h with h _
  injection h with h
theorem pathV_fuel {l : List AV} {k m : Nat} {i : Int} (h1 : l.length ≤ k) (h2 : l.length ≤ m) (hk : k ≤ 100000) (hm : m ≤ 100000) (h0 : 0 ≤ i) (hi : i < l.length) (hb : Blob32 l) : pathV k l i = pathV m l i := by
  have := runs_det (refPath_runs k l i h1 hk h0 hi hb) (refPath_runs m l i h2 hm h0 hi hb)
  injection this with h _ _
  injection h with h _
  injection h with h

/-- What stands beside places. -/
def bs_ (P : List Int) (L : List AV) : Nat → Nat → Nat → List AV
  | 0, _, _ => []
  | f + 1, s, a => if (sub_ P (a : Int) ((a : Int) + s)).length = 0 then [.blob (topV s (cut L a (a + s)))] else if s = 1 then [] else bs_ P L f (leftV (s : Int)).toNat a ++ bs_ P L f (s - (leftV (s : Int)).toNat) (a + (leftV (s : Int)).toNat)

section
variable {P : List Int} {L : List AV}
theorem bs_facts (hP : P.length ≤ 1000) (hs : P.Pairwise (· < ·)) (hL : L.length ≤ 100) (hB : Blob32 L) : ∀ (f s a : Nat), 1 ≤ s → s ≤ f → a + s ≤ L.length →
    (bs_ P L f s a).length = nd P f s (a : Int) ∧ (bs_ P L f s a).length ≤ s ∧ Blob32 (bs_ P L f s a) ∧ RunsX 44 [.slice (cut L a (a + s)), .slice (I (sub_ P (a : Int) ((a : Int) + s)))] ⟨[.slice (bs_ P L f s a)], [], true⟩ := by
  intro f
  induction f with
  | zero => intro s a h1 h2; omega
  | succ f ih =>
    intro s a h1 hf h2
    have hcl := cut_len (L := L) (a := a) (b := a + s) (by omega) h2
    simp only [bs_, nd]
    by_cases h0 : (sub_ P (a : Int) ((a : Int) + s)).length = 0
    · rw [if_pos h0, if_pos h0]
      have t1 := top_runs s (cut L a (a + s)) (by omega) (by omega) (cut_blob hB _ _)
      refine ⟨rfl, by simp; omega, fun y hy => ?_, Evt.succ (t1.mono fun n hn => ?_)⟩
      · rw [List.mem_singleton.1 hy]; exact ⟨_, rfl, topV_len s _ (cut_blob hB _ _)⟩
      · rw [f44_run, f44_eq, I_len, eqI_t (by omega), cond_true, hn, step1]; rfl
    rw [if_neg h0, if_neg h0]
    by_cases h5 : s = 1
    · subst h5
      rw [if_pos rfl, if_pos rfl]
      refine ⟨rfl, by simp, no_blobs, Evt.succ (.of fun n => ?_)⟩
      rw [f44_run, f44_eq, I_len, eqI_f (by omega), cond_false, eqI_t (by omega)]; rfl
    rw [if_neg h5, if_neg h5]
    obtain ⟨hlv1, hlv2⟩ := leftV_range (n := (s : Int)) (by omega)
    have hLr := left_runs (n := (s : Int)) (by omega)
    generalize leftV (s : Int) = p at hlv1 hlv2 hLr ⊢
    obtain ⟨p', rfl⟩ : ∃ p' : Nat, p = p' := ⟨p.toNat, by omega⟩
    rw [Int.toNat_natCast]
    have hpart := parted_runs (P := P) (a := (a : Int)) (b := (a : Int) + s) (left := (p' : Int)) hP hs (by omega) (by omega)
    obtain ⟨v1, v2, v3, hv3⟩ := ih p' a (by omega) (by omega) (by omega)
    obtain ⟨u1, u2, u3, hu3⟩ := ih (s - p') (a + p') (by omega) (by omega) (by omega)
    have e1 : ((a + p' : Nat) : Int) + ((s - p' : Nat) : Int) = (a : Int) + s := by omega
    have e2 : a + p' + (s - p') = a + s := by omega
    have e3 : ((a + p' : Nat) : Int) = (a : Int) + p' := by omega
    rw [e1, e2, e3] at hu3
    rw [e3] at u1
    generalize bs_ P L f p' a = v at v1 v2 v3 hv3 ⊢
    generalize bs_ P L f (s - p') (a + p') = u at u1 u2 u3 hu3 ⊢
    have b1 : boundsOk 0 (p' : Int) ((cut L a (a + s)).length : Int) ((cut L a (a + s)).length : Int) = true := by rw [hcl]; simp [boundsOk]; omega
    have b2 : boundsOk (p' : Int) ((cut L a (a + s)).length : Int) ((cut L a (a + s)).length : Int) ((cut L a (a + s)).length : Int) = true := by rw [hcl]; simp [boundsOk]; omega
    have hlen : ((cut L a (a + s)).length : Int) = (s : Int) := by rw [hcl]; omega
    refine ⟨by rw [List.length_append, v1, u1], by simp; omega, fun y hy => ?_, Evt.succ (((hLr.and hpart).and (hv3.and hu3)).mono fun n hn => ?_)⟩
    · rcases List.mem_append.1 hy with h | h
      · exact v3 y h
      · exact u3 y h
    · obtain ⟨⟨g1, g2⟩, g3, g4⟩ := hn
      rw [← hlen] at g1
      rw [f44_run, f44_eq, I_len, eqI_f (by omega), cond_false, eqI_f (by omega), cond_false, g1, step1, toInt_i, g2, step2, toSlice_s, toSlice_s, b1, b2, Int.toNat_natCast, Int.toNat_natCast, List.drop_zero, List.take_length, cut_take (by omega), cut_drop, Bool.and_true, cond_true, g3, step1f, cond_true, g4, step1f, toSlice_s, toSlice_s,
        show Nat.ble ((v.length + u.length) * 32) 140737488355328 = true from Nat.ble_eq_true_of_le (by omega), cond_true]
      rfl

theorem topV_split {s a p : Nat} (hL : L.length ≤ 100) (hB : Blob32 L) (h1 : 2 ≤ s) (h2 : a + s ≤ L.length) (hp : leftV (s : Int) = (p : Int)) (hp1 : 1 ≤ p) (hp2 : p < s) :
    topV s (cut L a (a + s)) = nodeH (topV p (cut L a (a + p))) (topV (s - p) (cut L (a + p) (a + s))) := by
  have hcl := cut_len (L := L) (a := a) (b := a + s) (by omega) h2
  obtain ⟨k, rfl⟩ : ∃ k, s = k + 1 := ⟨s - 1, by omega⟩
  simp only [topV]
  rw [if_neg (by omega), if_neg (by omega), show (cut L a (a + (k + 1))).length = k + 1 by omega, hp, Int.toNat_natCast, cut_take (by omega), cut_drop]
  have c1 := cut_len (L := L) (a := a) (b := a + p) (by omega) (by omega)
  have c2 := cut_len (L := L) (a := a + p) (b := a + (k + 1)) (by omega) (by omega)
  rw [topV_fuel (k := k) (m := p) (by omega) (by omega) (by omega) (cut_blob hB _ _), topV_fuel (k := k) (m := k + 1 - p) (by omega) (by omega) (by omega) (cut_blob hB _ _)]

theorem mt_bs (hP : P.length ≤ 1000) (hs : P.Pairwise (· < ·)) (hL : L.length ≤ 100) (hB : Blob32 L) {lv : List AV} (hlv : ∀ i (hi : i < P.length), leafH (nth lv i).toStr = (nth L P[i].toNat).toBlob) : ∀ (f s a : Nat) (R : List AV), 1 ≤ s → s ≤ f → a + s ≤ L.length →
    mt P lv f s (a : Int) (bs_ P L f s a ++ R) = topV s (cut L a (a + s)) := by
  intro f
  induction f with
  | zero => intro s a R h1 h2; omega
  | succ f ih =>
    intro s a R h1 hf h2
    have hcl := cut_len (L := L) (a := a) (b := a + s) (by omega) h2
    simp only [bs_, mt]
    by_cases h0 : (sub_ P (a : Int) ((a : Int) + s)).length = 0
    · rw [if_pos h0, if_pos h0]; rfl
    rw [if_neg h0, if_neg h0]
    by_cases h5 : s = 1
    · subst h5
      rw [if_pos rfl]
      obtain ⟨i, hi, he⟩ := sub_one h0
      have hc := cntB_at hs hi
      rw [he] at hc
      rw [hc, hlv i hi, he, Int.toNat_natCast]
      simp only [topV]
      rw [if_neg (by omega), if_pos (by omega)]
      have : nth (cut L a (a + 1)) 0 = nth L a := by
        rw [nth_lt (by omega), nth_lt (show a < L.length by omega)]
        unfold cut
        rw [List.getElem_drop, List.getElem_take]
        rfl
      rw [this]
    rw [if_neg h5, if_neg h5]
    obtain ⟨hlv1, hlv2⟩ := leftV_range (n := (s : Int)) (by omega)
    obtain ⟨p', hp'⟩ : ∃ p' : Nat, leftV (s : Int) = p' := ⟨(leftV (s : Int)).toNat, by omega⟩
    rw [topV_split hL hB (by omega) h2 hp' (by omega) (by omega), hp', Int.toNat_natCast]
    obtain ⟨v1, _, _, _⟩ := bs_facts hP hs hL hB f p' a (by omega) (by omega) (by omega)
    have m1 := ih p' a (bs_ P L f (s - p') (a + p') ++ R) (by omega) (by omega) (by omega)
    have m2 := ih (s - p') (a + p') R (by omega) (by omega) (by omega)
    rw [List.append_assoc, m1, ← v1, List.drop_left, show (a : Int) + (p' : Int) = ((a + p' : Nat) : Int) by omega, m2, show a + p' + (s - p') = a + s by omega]

theorem ot_bs (hP : P.length ≤ 1000) (hs : P.Pairwise (· < ·)) (hL : L.length ≤ 100) (hB : Blob32 L) {lv : List AV} (hlv : ∀ i (hi : i < P.length), leafH (nth lv i).toStr = (nth L P[i].toNat).toBlob) {x : Nat} {i : Nat} (hi : i < P.length) (hx : P[i] = (x : Int)) : ∀ (f s a : Nat) (R : List AV), 1 ≤ s → s ≤ f → a + s ≤ L.length → a ≤ x → x < a + s →
    ot P lv (x : Int) f s (a : Int) (bs_ P L f s a ++ R) = pathV s (cut L a (a + s)) ((x : Int) - a) := by
  intro f
  induction f with
  | zero => intro s a R h1 h2; omega
  | succ f ih =>
    intro s a R h1 hf h2 hx1 hx2
    have hcl := cut_len (L := L) (a := a) (b := a + s) (by omega) h2
    have h0 := in_sub (P := P) (a := (a : Int)) (b := (a : Int) + s) hi (by omega) (by omega)
    simp only [bs_, ot]
    rw [if_neg h0]
    obtain ⟨k, hk⟩ : ∃ k, s = k + 1 := ⟨s - 1, by omega⟩
    by_cases h5 : s = 1
    · rw [if_pos h5, h5]
      simp only [pathV]
      rw [if_pos (by rw [h5] at hcl; omega)]
    rw [if_neg h5]
    rw [if_neg h5]
    obtain ⟨hlv1, hlv2⟩ := leftV_range (n := (s : Int)) (by omega)
    obtain ⟨p', hp'⟩ : ∃ p' : Nat, leftV (s : Int) = p' := ⟨(leftV (s : Int)).toNat, by omega⟩
    obtain ⟨v1, _, _, _⟩ := bs_facts hP hs hL hB f p' a (by omega) (by omega) (by omega)
    have m1 := mt_bs hP hs hL hB hlv f p' a (bs_ P L f (s - p') (a + p') ++ R) (by omega) (by omega) (by omega)
    have m2 := mt_bs hP hs hL hB hlv f (s - p') (a + p') R (by omega) (by omega) (by omega)
    have c1 := cut_len (L := L) (a := a) (b := a + p') (by omega) (by omega)
    have c2 := cut_len (L := L) (a := a + p') (b := a + s) (by omega) (by omega)
    rw [show a + p' + (s - p') = a + s by omega] at m2
    have hpath : pathV s (cut L a (a + s)) ((x : Int) - a) = if (x : Int) - a < (p' : Int) then pathV k (cut L a (a + p')) ((x : Int) - a) ++ [.blob (topV (s - p') (cut L (a + p') (a + s)))] else pathV k (cut L (a + p') (a + s)) ((x : Int) - a - p') ++ [.blob (topV p' (cut L a (a + p')))] := by
      rw [show pathV s (cut L a (a + s)) ((x : Int) - a) = pathV (k + 1) (cut L a (a + s)) ((x : Int) - a) by rw [hk]]
      simp only [pathV]
      rw [if_neg (by omega), show ((cut L a (a + s)).length : Int) = (s : Int) by omega, hp', Int.toNat_natCast, cut_take (by omega), cut_drop, show (cut L a (a + s)).length - p' = s - p' by omega]
    rw [hpath, hp', Int.toNat_natCast, List.append_assoc, m1, ← v1, List.drop_left, show (a : Int) + (p' : Int) = ((a + p' : Nat) : Int) by omega, m2]
    by_cases hside : (x : Int) - a < (p' : Int)
    · rw [if_pos hside, if_pos hside]
      have := ih p' a (bs_ P L f (s - p') (a + p') ++ R) (by omega) (by omega) (by omega) hx1 (by omega)
      rw [this, pathV_fuel (k := p') (m := k) (by omega) (by omega) (by omega) (by omega) (by omega) (by omega) (cut_blob hB _ _)]
    · rw [if_neg hside, if_neg hside]
      have := ih (s - p') (a + p') R (by omega) (by omega) (by omega) (by omega) (by omega)
      rw [show a + p' + (s - p') = a + s by omega] at this
      rw [this, show (x : Int) - ((a + p' : Nat) : Int) = (x : Int) - a - p' by omega, pathV_fuel (k := s - p') (m := k) (by omega) (by omega) (by omega) (by omega) (by omega) (by omega) (cut_blob hB _ _)]
end

theorem openM_runs {l : List AV} {P : List Int} (hl : l.length ≤ 100) (hs : Short l) (hP : P.length ≤ 200) (hr : risV P (l.length : Int) P.length 0 = true) :
    RunsX 10 [.slice l, .slice (I P)] ⟨[.agg [.int (l.length : Int), .slice (I P), .slice (bs_ P (leavesV l) l.length l.length 0)], .int 0], [], false⟩ := by
  obtain ⟨f1, f2, f3, f4⟩ := rising_facts hr
  have r1 := rising_runs (P := P) (n := (l.length : Int)) (by omega)
  rw [hr] at r1
  have hll := leavesV_len l
  have hb := (bs_facts (P := P) (by omega) f3 (L := leavesV l) (by omega) (leavesV_blob l) l.length l.length 0 (by omega) (Nat.le_refl _) (by omega)).2.2.2
  have hc : cut (leavesV l) 0 (0 + l.length) = leavesV l := by
    unfold cut; rw [List.drop_zero, Nat.zero_add, ← hll, List.take_length]
  rw [hc, show ((0 : Nat) : Int) + (l.length : Int) = (l.length : Int) by omega, show ((0 : Nat) : Int) = 0 from rfl, f4] at hb
  refine Evt.succ (((r1.and hb).and (leaves_runs (l := l) (by omega) hs)).mono fun n hn => ?_)
  obtain ⟨⟨g1, g2⟩, g3⟩ := hn
  rw [f10_run, f10_eq, ltI_f (by omega), cond_false, g1, step1, toBool_b, not_t, cond_false, I_len, show Nat.ble (P.length * 8) 140737488355328 = true from Nat.ble_eq_true_of_le (by omega), cond_true, g3, step1f, toSlice_s, g2, step1f, toSlice_s]
  rfl
def pickL (l : List AV) (P : List Int) : List AV := P.map fun x => .str (nth l x.toNat).toStr
theorem pickL_len (l : List AV) (P : List Int) : (pickL l P).length = P.length := by simp [pickL]
theorem pickL_nth {l : List AV} {P : List Int} {i : Nat} (h : i < P.length) : nth (pickL l P) i = .str (nth l P[i].toNat).toStr := by
  rw [nth_lt (by rw [pickL_len]; exact h)]; simp [pickL]
theorem pickL_take {l : List AV} {P : List Int} {i : Nat} (h : i < P.length) : pickL l (P.take i) ++ [.str (nth l P[i].toNat).toStr] = pickL l (P.take (i + 1)) := by
  rw [List.take_succ_eq_append_getElem h]; simp only [pickL, List.map_append, List.map_cons, List.map_nil]
theorem leavesV_nth' {l : List AV} {i : Nat} (h : i < l.length) : (nth (leavesV l) i).toBlob = leafH (nth l i).toStr := by
  rw [nth_lt (by rw [leavesV_len]; exact h), nth_lt h]; simp [leavesV]; rfl
theorem multiOnes_runs {l : List AV} {P : List Int} {q : Int} (hlm : l.length ≤ maxLen) (hs : Short l) : RunsX 3 [.slice l, .slice (I P), .int q] ⟨[.bool true], [], false⟩ := by
  obtain ⟨b, h0, hm⟩ := much_runs hlm
  cases b with
  | true =>
    refine Evt.succ ((hm.and multiAwake).mono fun n hn => ?_)
    rw [f3_run, f3_eq, hn.1, step1, toBool_b, cond_true, hn.2, step1]; rfl
  | false =>
  have hl := h0 rfl
  by_cases hp : 200 < P.length
  · refine Evt.succ ((hm.and multiAwake).mono fun n hn => ?_)
    rw [f3_run, f3_eq, hn.1, step1, toBool_b, cond_false, I_len, ltI_t (by omega), cond_true, hn.2, step1]; rfl
  have rr := refRising_runs (P := P) (n := (l.length : Int)) (by omega)
  cases hr : risV P (l.length : Int) P.length 0 with
  | false =>
    have r1 := rising_runs (P := P) (n := (l.length : Int)) (by omega)
    rw [hr] at r1 rr
    have ro : RunsX 10 [.slice l, .slice (I P)] ⟨[.agg [.int 0, .slice [], .slice []], .int 3], [], false⟩ := by
      refine Evt.succ (r1.mono fun n hn => ?_)
      rw [f10_run, f10_eq, ltI_f (by omega), cond_false, hn, step1]; rfl
    refine Evt.succ (((hm.and multiAwake).and (ro.and rr)).mono fun n hn => ?_)
    obtain ⟨⟨g1, g2⟩, g3, g4⟩ := hn
    rw [f3_run, f3_eq, g1, step1, toBool_b, cond_false, I_len, ltI_f (by omega), cond_false, g3, step2, g4, step1, toBool_b, not_f, cond_true, toInt_i, eqI_f (a := 3) (by decide), not_f, cond_true, g2]; rfl
  | true =>
  rw [hr] at rr
  obtain ⟨f1, f2, f3, f4⟩ := rising_facts hr
  have hin := (risV_of P.length 0 (by omega) hr).2
  have ro := openM_runs (l := l) (P := P) hl hs (by omega) hr
  have hll := leavesV_len l
  have hlv : ∀ i (hi : i < P.length), leafH (nth (pickL l P) i).toStr = (nth (leavesV l) P[i].toNat).toBlob := by
    intro i hi
    have hx := hin i (by omega) hi
    rw [gd hi] at hx
    rw [pickL_nth hi, leavesV_nth' (by omega)]; rfl
  have hsh : Short (pickL l P) := by
    intro i hi
    rw [pickL_len] at hi
    have hx := hin i (by omega) hi
    rw [gd hi] at hx
    rw [pickL_nth hi]
    exact hs _ (by omega)
  obtain ⟨b1, b2, b3, _⟩ := bs_facts (P := P) (by omega) f3 (L := leavesV l) (by omega) (leavesV_blob l) l.length l.length 0 (by omega) (Nat.le_refl _) (by omega)
  have hmt := mt_bs (P := P) (by omega) f3 (L := leavesV l) (by omega) (leavesV_blob l) hlv l.length l.length 0 [] (by omega) (Nat.le_refl _) (by omega)
  have hc : cut (leavesV l) 0 (0 + l.length) = leavesV l := by
    unfold cut; rw [List.drop_zero, Nat.zero_add, ← hll, List.take_length]
  rw [List.append_nil, hc] at hmt
  have hot := fun (x i : Nat) (hi : i < P.length) (hx : P[i] = (x : Int)) (hxl : x < l.length) => ot_bs (P := P) (by omega) f3 (L := leavesV l) (by omega) (leavesV_blob l) hlv hi hx l.length l.length 0 [] (by omega) (Nat.le_refl _) (by omega) (by omega) (by omega)
  rw [show ((0 : Nat) : Int) = 0 from rfl] at b1 hmt
  generalize bs_ P (leavesV l) l.length l.length 0 = ph at *
  have hneed := (needU (P := P) (by omega) f3 l.length l.length 0 (by omega) (Nat.le_refl _) (by omega) (by omega)).2
  rw [Int.zero_add, f4] at hneed
  have rmay := may_need (n := ((pickL l P).length : Int)) (c := (l.length : Int)) (P := P) (ph := ph) (by omega) (by omega) (by omega) hr (by rw [pickL_len]) hneed
  rw [eqI_t (show (ph.length : Int) = (nd P l.length l.length 0 : Int) by omega), cond_true] at rmay
  obtain ⟨l1, r2⟩ := root_ok hsh b3 (by omega) hl (by omega) hr (pickL_len l P) b1 rmay
  have hroot : rootH l.length (mt P (pickL l P) l.length l.length 0 ph) = rootV l := by rw [hmt]; rfl
  rw [hroot] at r2
  have r3 := check_any (rootV l) r2
  rw [eqI_t (a := 0) rfl, eqS_t rfl] at r3
  have r4 := refTreeRoot_runs (l := l) (by omega) hs
  have loop : ∀ (run : Run) (n : Nat) (j k i : Nat), i + j = P.length → j < k → ∃ k', f3_l0 run n k l (I P) q (pickL l (P.take i)) (i : Int) (l.length : Int) (I P) ph = f3_l0 run n (k' + 1) l (I P) q (pickL l P) (P.length : Int) (l.length : Int) (I P) ph := by
    intro run n j
    induction j with
    | zero =>
      intro k i hi hk
      obtain ⟨k, rfl⟩ : ∃ j, k = j + 1 := ⟨k - 1, by omega⟩
      exact ⟨k, by rw [List.take_of_length_le (by omega), show i = P.length by omega]⟩
    | succ j ih =>
      intro k i hi hk
      obtain ⟨k, rfl⟩ : ∃ j, k = j + 1 := ⟨k - 1, by omega⟩
      obtain ⟨k', ih'⟩ := ih k (i + 1) (by omega) (by omega)
      have hx := hin i (by omega) (by omega)
      rw [gd (show i < P.length by omega)] at hx
      have en : (nth (I P) i).toInt = P[i] := by rw [nthD (by omega), gd (by omega)]
      refine ⟨k', ?_⟩
      rw [show ((i + 1 : Nat) : Int) = (i : Int) + 1 by omega, ← pickL_take (show i < P.length by omega)] at ih'
      rw [f3_l0_eq, I_len, ltI_t (by omega), cond_true, inR_nat (by omega), cond_true, Int.toNat_natCast, en, inR_int (by omega) (by omega), cond_true, show Nat.ble (((pickL l (P.take i)).length + 1) * 16) 140737488355328 = true from Nat.ble_eq_true_of_le (by rw [pickL_len]; simp; omega), cond_true, w64 (by omega) (by omega)]
      exact ih'
  by_cases hq : 0 ≤ q ∧ q < P.length
  · obtain ⟨i, rfl⟩ : ∃ i : Nat, q = i := ⟨q.toNat, by omega⟩
    have hi : i < P.length := by omega
    have hx := hin i (by omega) hi
    rw [gd hi] at hx
    obtain ⟨x, hxe⟩ : ∃ x : Nat, P[i] = (x : Int) := ⟨P[i].toNat, by omega⟩
    obtain ⟨Q, q1, q2, q3, q6, q4⟩ := one_ok hsh b3 (by omega) hl (by omega) hr (pickL_len l P) b1 hi rmay
    have hQ := hot x i hi hxe (by omega)
    rw [List.append_nil, hc] at hQ
    rw [hxe] at q2 q3 q4 q6 hx
    rw [show ((0 : Nat) : Int) = 0 from rfl, ← q6, Int.sub_zero] at hQ
    have r5 := refOpen_runs (l := l) (i := (x : Int)) (by omega) hs
    rw [openV_in (by omega) (by omega)] at r5
    have hpl : pathL l (x : Int) = Q := by rw [hQ]; rfl
    rw [hpl] at r5
    have r6 := refSame_refl (a := (x : Int)) (b := (l.length : Int)) (l := Q) (by
      rw [hQ, maxLen_eq]
      have := pathV_len l.length (leavesV l) (x : Int)
      omega)
    have r7 := holdCheck_runs (root := rootV l) (s := (nth l x).toStr) (i := (x : Int)) (n := (l.length : Int)) (P := Q) (by have := hs x (by omega); omega) q1
    have hck : checkH (rootV l) (nth l x).toStr (x : Int) (l.length : Int) Q = true := by
      have hst : (nth (pickL l P) i).toStr = (nth l x).toStr := by rw [pickL_nth hi, hxe, Int.toNat_natCast]; rfl
      rw [hst, hroot] at q3
      unfold checkH
      rw [eqI_t q2, cond_true, q3, eqS_t rfl]
    rw [hck] at r7
    refine Evt.succ ((((hm.and multiAwake).and (ro.and rr)).and (((r4.and r3).and (q4.and r5)).and ((r6.and r7).and (Evt.ge 300)))).mono fun n hn => ?_)
    obtain ⟨⟨⟨g1, g2⟩, g3, g4⟩, ⟨⟨g5, g6⟩, g7, g8⟩, ⟨g9, g10⟩, g11⟩ := hn
    obtain ⟨k', hk'⟩ := loop (runE G ext n) n P.length n 0 (by omega) (by omega)
    have en : (nth (I P) i).toInt = (x : Int) := by rw [nthD hi, gd hi, hxe]
    have e0 : pickL l (P.take 0) = [] := rfl
    rw [e0, show ((0 : Nat) : Int) = 0 from rfl] at hk'
    rw [f3_run, f3_eq, g1, step1, toBool_b, cond_false, I_len, ltI_f (by omega), cond_false, g3, step2, g4, step1, toBool_b, not_t, cond_false, toInt_i, eqI_t (a := 0) rfl, not_t, cond_false, fld0, fld1, fld2, toInt_i, toSlice_s, toSlice_s, hk', f3_l0_eq, I_len, ltI_f (a := (P.length : Int)) (by omega), cond_false, g5, step1, toBlob_b, g6, step1, toBool_b, Bool.true_and, not_t, cond_false, g7, step2, ltI_f (a := (i : Int)) (b := 0) (by omega), cond_false, leI_f (a := (P.length : Int)) (b := (i : Int)) (by omega), cond_false, inR_nat hi, cond_true, Int.toNat_natCast, en, g8, step2, toBool_b, cond_true, fld0, fld1, fld2, toInt_i, toInt_i, toSlice_s, g9, step1, toBool_b, cond_true, cond_true, inR_int (by omega) (by omega), cond_true, Int.toNat_natCast, g10, step1, toBool_b, cond_true, g2]
    rfl
  · have r5 := one_out (i := q) rmay (by omega)
    have r6 := refSame_refl (a := 0) (b := 0) (l := []) (by simp)
    refine Evt.succ ((((hm.and multiAwake).and (ro.and rr)).and (((r4.and r3).and (r5.and r6)).and (Evt.ge 300))).mono fun n hn => ?_)
    obtain ⟨⟨⟨g1, g2⟩, g3, g4⟩, ⟨⟨g5, g6⟩, g7, g8⟩, g11⟩ := hn
    obtain ⟨k', hk'⟩ := loop (runE G ext n) n P.length n 0 (by omega) (by omega)
    have e0 : pickL l (P.take 0) = [] := rfl
    rw [e0, show ((0 : Nat) : Int) = 0 from rfl] at hk'
    rw [f3_run, f3_eq, g1, step1, toBool_b, cond_false, I_len, ltI_f (by omega), cond_false, g3, step2, g4, step1, toBool_b, not_t, cond_false, toInt_i, eqI_t (a := 0) rfl, not_t, cond_false, fld0, fld1, fld2, toInt_i, toSlice_s, toSlice_s, hk', f3_l0_eq, I_len, ltI_f (a := (P.length : Int)) (by omega), cond_false, g5, step1, toBlob_b, g6, step1, toBool_b, Bool.true_and, not_t, cond_false, g7, step2, toBool_b, not_f, cond_true, fld0, fld1, fld2, toInt_i, toSlice_s, g8, step1, toBool_b, cond_true, g2]
    by_cases hneg : q < 0
    · rw [ltI_t hneg]; rfl
    · rw [ltI_f hneg, leI_t (by omega)]; rfl
theorem multiOnes_sat (xs : List AV) (h : Ty.HasL [.slice .str, .slice (.int .i64), .int .i64] xs) : ∃ r, r.vals = [.bool true] ∧ Sat Try.prog f3_info 3 xs r := by
  obtain ⟨x, r, rfl, ⟨l, rfl, hl, _, hs⟩, y, r2, rfl, ⟨p, rfl, _, _, hp⟩, z, r3, rfl, ⟨q, rfl, _⟩, rfl⟩ := h
  rw [I_of hp]
  exact ⟨_, rfl, sat_of_runsX (by kernel_rfl) (multiOnes_runs hl (short_of hs))⟩

end Go.Proofs.Ytncajhkogppojaa.Ev
