/- Opening several leaves: both programs tell the same. -/
import Derived.Test.YtcpdiahbdmcdcaaEvPMulX
import Derived.Test.YtcpdiahbdmcdcaaEvPOpen
namespace Go.Proofs.Ytcpdiahbdmcdcaa.Ev
open Go Go.RowKit

def cut (L : List AV) (a b : Nat) : List AV := (L.take b).drop a
theorem cut_len {L : List AV} {a b : Nat} (h1 : a ≤ b) (h2 : b ≤ L.length) : (cut L a b).length = b - a := by simp [cut]; omega
theorem cut_take {L : List AV} {a s p : Nat} (hp : p ≤ s) : (cut L a (a + s)).take p = cut L a (a + p) := by
  unfold cut
  rw [List.take_drop, List.take_take, show min (a + p) (a + s) = a + p by omega]
theorem cut_drop (L : List AV) (a s p : Nat) : (cut L a (a + s)).drop p = cut L (a + p) (a + s) := by
  unfold cut
  rw [List.drop_drop]
theorem cut_blob {L : List AV} (h : Blob32 L) (a b : Nat) : Blob32 (cut L a b) := fun y hy => h y (List.mem_of_mem_take (List.mem_of_mem_drop hy))

theorem beside_both {P : List Int} (hP : P.length ≤ 1000) (hs : P.Pairwise (· < ·)) {L : List AV} (hL : L.length ≤ 100) (hB : Blob32 L) : ∀ (s a : Nat), 1 ≤ s → a + s ≤ L.length →
    ∃ v : List AV, v.length ≤ s ∧ RunsX 82 [.slice (cut L a (a + s)), .slice (I (sub_ P (a : Int) ((a : Int) + s)))] ⟨[.slice v], [], true⟩ ∧ RunsX 49 [.slice L, .slice (I P), .int (a : Int), .int ((a : Int) + s)] ⟨[.slice v], [], true⟩ := by
  intro s
  induction s using Nat.strongRecOn with
  | ind s ih =>
    intro a h1 h2
    have ham := among_runs (P := P) (a := (a : Int)) (b := (a : Int) + s) hP
    rw [any_sub] at ham
    have hcl := cut_len (L := L) (a := a) (b := a + s) (by omega) h2
    by_cases h0 : (sub_ P (a : Int) ((a : Int) + s)).length = 0
    · have t1 := top_runs s (cut L a (a + s)) (by omega) (by omega) (cut_blob hB _ _)
      have t2 := refTop_runs s (cut L a (a + s)) (by omega) (by omega) (cut_blob hB _ _)
      refine ⟨[.blob (topV s (cut L a (a + s)))], by simp; omega, Evt.succ (t1.mono fun n hn => ?_), Evt.succ ((ham.and t2).mono fun n hn => ?_)⟩
      · rw [f82_run, f82_eq, I_len, eqI_t (by omega), cond_true, hn, step1]; rfl
      · have b1 : boundsOk (a : Int) ((a : Int) + s) (L.length : Int) (L.length : Int) = true := by simp [boundsOk]; omega
        have e : List.drop (Int.toNat (a : Int)) (List.take (Int.toNat ((a : Int) + s)) L) = cut L a (a + s) := by
          rw [Int.toNat_natCast, show ((a : Int) + s).toNat = a + s by omega]; rfl
        rw [f49_run, f49_eq, hn.1, step1, toBool_b, dec_t h0, Bool.not_true, not_f, cond_true, b1, Bool.and_true, cond_true, e, hn.2, step1]; rfl
    · by_cases h5 : s = 1
      · subst h5
        refine ⟨[], by simp, Evt.succ (.of fun n => ?_), Evt.succ (ham.mono fun n hn => ?_)⟩
        · rw [f82_run, f82_eq, I_len, eqI_f (by omega), cond_false, eqI_t (by omega)]; rfl
        · rw [f49_run, f49_eq, hn, step1, toBool_b, dec_f h0, Bool.not_false, not_t, cond_false, w64 (x := (a : Int) + ((1 : Nat) : Int) - a) (by omega) (by omega), eqI_t (by omega)]; rfl
      · obtain ⟨hlv1, hlv2⟩ := leftV_range (n := (s : Int)) (by omega)
        have hLr := left_runs (n := (s : Int)) (by omega)
        have hRL := refLeft_runs (n := (s : Int)) (by omega)
        generalize leftV (s : Int) = p at hlv1 hlv2 hLr hRL
        obtain ⟨p', rfl⟩ : ∃ p' : Nat, p = p' := ⟨p.toNat, by omega⟩
        have hpart := parted_runs (P := P) (a := (a : Int)) (b := (a : Int) + s) (left := (p' : Int)) hP hs (by omega) (by omega)
        obtain ⟨v, hv1, hv3, hv4⟩ := ih p' (by omega) a (by omega) (by omega)
        obtain ⟨u, hu1, hu3, hu4⟩ := ih (s - p') (by omega) (a + p') (by omega) (by omega)
        have e1 : ((a + p' : Nat) : Int) + ((s - p' : Nat) : Int) = (a : Int) + s := by omega
        have e2 : a + p' + (s - p') = a + s := by omega
        have e3 : ((a + p' : Nat) : Int) = (a : Int) + p' := by omega
        rw [e1, e2, e3] at hu3
        rw [e1, e3] at hu4
        have b1 : boundsOk 0 (p' : Int) ((cut L a (a + s)).length : Int) ((cut L a (a + s)).length : Int) = true := by rw [hcl]; simp [boundsOk]; omega
        have b2 : boundsOk (p' : Int) ((cut L a (a + s)).length : Int) ((cut L a (a + s)).length : Int) ((cut L a (a + s)).length : Int) = true := by rw [hcl]; simp [boundsOk]; omega
        have hlen : ((cut L a (a + s)).length : Int) = (s : Int) := by rw [hcl]; omega
        refine ⟨v ++ u, by simp; omega, Evt.succ (((hLr.and hpart).and (hv3.and hu3)).mono fun n hn => ?_), Evt.succ (((ham.and hRL).and (hv4.and hu4)).mono fun n hn => ?_)⟩
        · obtain ⟨⟨g1, g2⟩, g3, g4⟩ := hn
          rw [← hlen] at g1
          rw [f82_run, f82_eq, I_len, eqI_f (by omega), cond_false, eqI_f (by omega), cond_false, g1, step1, toInt_i, g2, step2, toSlice_s, toSlice_s, b1, b2, Int.toNat_natCast, Int.toNat_natCast, List.drop_zero, List.take_length, cut_take (by omega), cut_drop, Bool.and_true, cond_true, g3, step1f, cond_true, g4, step1f, toSlice_s, toSlice_s,
            show Nat.ble ((v.length + u.length) * 32) 140737488355328 = true from Nat.ble_eq_true_of_le (by omega), cond_true]
          rfl
        · obtain ⟨⟨g1, g2⟩, g3, g4⟩ := hn
          rw [f49_run, f49_eq, g1, step1, toBool_b, dec_f h0, Bool.not_false, not_t, cond_false, w64 (x := (a : Int) + (s : Int) - a) (by omega) (by omega), eqI_f (by omega), cond_false, show (a : Int) + (s : Int) - a = (s : Int) by omega, g2, step1, toInt_i, w64 (x := (a : Int) + (p' : Int)) (by omega) (by omega), g3, step1f, g4, step1f, toSlice_s, toSlice_s,
            show Nat.ble ((v.length + u.length) * 32) 140737488355328 = true from Nat.ble_eq_true_of_le (by omega), cond_true]
          rfl

/-- Places that rise. -/
theorem rising_facts {P : List Int} {n : Int} (h : risV P n P.length 0 = true) : 0 < P.length ∧ 1 ≤ n ∧ P.Pairwise (· < ·) ∧ sub_ P 0 n = P := by
  obtain ⟨hp, hall⟩ := risV_of P.length 0 (by omega) h
  have hr0 : ∀ x ∈ P, 0 ≤ x ∧ x < n := by
    intro x hx
    obtain ⟨i, hi, rfl⟩ := List.getElem_of_mem hx
    have := hall i (by omega) hi
    rw [gd hi] at this
    exact ⟨this.1, this.2.1⟩
  refine ⟨hp, by have := hall 0 (by omega) hp; omega, pairwise_of fun m h3 h4 => (hall m (by omega) h3).2.2 h4, ?_⟩
  unfold sub_
  rw [List.filter_eq_self.2 (fun x hx => by have := hr0 x hx; simp [inB, this])]
  simp

theorem multiOpens_l0 (run : Run) (n : Nat) (l : List AV) (P : List Int) (hP : P.length ≤ 1000) (v : List AV) (c : Int)
    (h19 : run 19 [.slice l] = some ⟨[.slice (leavesV l)], [], true⟩) (h49 : run 49 [.slice (leavesV l), .slice (I P), .int 0, .int (l.length : Int)] = some ⟨[.slice v], [], true⟩)
    (h17 : run 17 [.slice v, .slice v] = some ⟨[.bool true], [], false⟩) (h40 : run 40 [] = some ⟨[.bool true], [], false⟩) : ∀ (j k i : Nat), i + j = P.length → j < k →
    f10_l0 run n k l (I P) (i : Int) c (I P) v = some ⟨[.bool true], [], false⟩ := by
  intro j
  induction j with
  | zero =>
    intro k i hi hk
    obtain ⟨k, rfl⟩ : ∃ j, k = j + 1 := ⟨k - 1, by omega⟩
    rw [f10_l0_eq, I_len, ltI_f (by omega), cond_false, h19, step1f, toSlice_s, h49, step1f, toSlice_s, h17, step1, toBool_b, cond_true, h40, step1]; rfl
  | succ j ih =>
    intro k i hi hk
    obtain ⟨k, rfl⟩ : ∃ j, k = j + 1 := ⟨k - 1, by omega⟩
    have ih' := ih k (i + 1) (by omega) (by omega)
    rw [show ((i + 1 : Nat) : Int) = (i : Int) + 1 by omega] at ih'
    rw [f10_l0_eq, I_len, ltI_t (by omega), cond_true, inR_nat (by omega), cond_true, cond_true, eqI_t rfl, not_t, cond_false, w64 (by omega) (by omega)]
    exact ih'

theorem multiOpens_runs {l : List AV} {P : List Int} (hl : l.length ≤ maxLen) (hs : Short l) : RunsX 10 [.slice l, .slice (I P)] ⟨[.bool true], [], false⟩ := by
  obtain ⟨b, h0, hm⟩ := much_runs hl
  cases b with
  | true =>
    refine Evt.succ ((hm.and multiAwake).mono fun n hn => ?_)
    rw [f10_run, f10_eq, hn.1, step1, toBool_b, cond_true, hn.2, step1]; rfl
  | false =>
    have hle := h0 rfl
    by_cases hp : 200 < P.length
    · refine Evt.succ ((hm.and multiAwake).mono fun n hn => ?_)
      rw [f10_run, f10_eq, hn.1, step1, toBool_b, cond_false, I_len, ltI_t (by omega), cond_true, hn.2, step1]; rfl
    · have r1 := rising_runs (P := P) (n := (l.length : Int)) (by omega)
      have r2 := refRising_runs (P := P) (n := (l.length : Int)) (by omega)
      cases hr : risV P (l.length : Int) P.length 0 with
      | false =>
        rw [hr] at r1 r2
        have r3 : RunsX 48 [.slice l, .slice (I P)] ⟨[.agg [.int 0, .slice [], .slice []], .int 3], [], false⟩ := by
          refine Evt.succ (r1.mono fun n hn => ?_)
          rw [f48_run, f48_eq, ltI_f (by omega), cond_false, hn, step1, toBool_b, not_f, cond_true]; rfl
        refine Evt.succ ((((hm.and multiAwake).and r2).and r3).mono fun n hn => ?_)
        obtain ⟨⟨⟨g1, g2⟩, g3⟩, g4⟩ := hn
        rw [f10_run, f10_eq, g1, step1, toBool_b, cond_false, I_len, ltI_f (by omega), cond_false, g4, step2, g3, step1, toBool_b, not_f, cond_true, g2, step1]; rfl
      | true =>
        rw [hr] at r1 r2
        obtain ⟨f1, f2, f3, f4⟩ := rising_facts hr
        obtain ⟨v, hv, r3, r4⟩ := beside_both (P := P) (by omega) f3 (L := leavesV l) (by rw [leavesV_len]; omega) (leavesV_blob l) l.length 0 (by omega) (by rw [leavesV_len]; omega)
        rw [show ((0 : Nat) : Int) = 0 from rfl, Int.zero_add] at r3 r4
        rw [f4, Nat.zero_add, show cut (leavesV l) 0 l.length = leavesV l from by unfold cut; rw [List.drop_zero, List.take_of_length_le (by rw [leavesV_len]; omega)]] at r3
        have r5 := leaves_runs (l := l) (by omega) hs
        have r6 := refLeaves_runs (l := l) (by omega) hs
        have r7 := hashes_runs (l := v) (by rw [maxLen_eq]; omega)
        have r8 : RunsX 48 [.slice l, .slice (I P)] ⟨[.agg [.int (l.length : Int), .slice (I P), .slice v], .int 0], [], false⟩ := by
          refine Evt.succ (((r1.and r5).and r3).mono fun n hn => ?_)
          obtain ⟨⟨g1, g2⟩, g3⟩ := hn
          rw [f48_run, f48_eq, ltI_f (by omega), cond_false, g1, step1, toBool_b, not_t, cond_false, I_len, show Nat.ble (P.length * 8) 140737488355328 = true from Nat.ble_eq_true_of_le (by omega), cond_true, g2, step1f, toSlice_s, g3, step1f]; rfl
        refine Evt.succ (((((hm.and multiAwake).and (r2.and r8)).and (r4.and r6)).and (r7.and (Evt.ge 1000))).mono fun n hn => ?_)
        obtain ⟨⟨⟨⟨g1, g2⟩, g3, g4⟩, g5, g6⟩, g7, g8⟩ := hn
        have e0 : (AV.fld (.agg [.int (l.length : Int), .slice (I P), .slice v]) 0).toInt = (l.length : Int) := rfl
        have e1 : (AV.fld (.agg [.int (l.length : Int), .slice (I P), .slice v]) 1).toSlice = I P := rfl
        have e2 : (AV.fld (.agg [.int (l.length : Int), .slice (I P), .slice v]) 2).toSlice = v := rfl
        rw [f10_run, f10_eq, g1, step1, toBool_b, cond_false, I_len, ltI_f (by omega), cond_false, g4, step2, g3, step1, toBool_b, not_t, cond_false, toInt_i, eqI_t rfl, not_t, cond_false, e0, e1, e2, eqI_t rfl, not_t, cond_false, I_len, eqI_t rfl, not_t, cond_false]
        exact multiOpens_l0 _ n l P (by omega) v _ g6 g5 g7 g2 P.length n 0 (by omega) (by omega)

theorem multiOpens_sat (xs : List AV) (h : Ty.HasL [.slice .str, .slice (.int .i64)] xs) : ∃ r, r.vals = [.bool true] ∧ Sat Try.prog f10_info 10 xs r := by
  obtain ⟨x, r, rfl, ⟨l, rfl, hl, _, hx⟩, y, r2, rfl, ⟨m, rfl, hm, _, hy⟩, rfl⟩ := h
  rw [I_of hy]
  exact ⟨_, rfl, sat_of_runsX (by kernel_rfl) (multiOpens_runs hl (short_of hx))⟩

end Go.Proofs.Ytcpdiahbdmcdcaa.Ev
