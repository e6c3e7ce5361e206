/- The laws PickPicks and PickBegins. -/
import Derived.Test.YtogehijjhibdkaaEvPPick
namespace Go.Proofs.Ytogehijjhibdkaa.Ev
open Go Go.RowKit

theorem same_self {X : List AV} (hX : X.length ≤ 100000) : RunsX 7 [.slice X, .slice X] ⟨[.bool true], [], false⟩ := by
  refine Evt.succ ((Evt.ge (X.length + 2)).mono fun n hn => ?_)
  have key : ∀ (j k i : Nat), i + j = X.length → j < k → f7_l0 (runE G ext n) n k X X (i : Int) = some ⟨[.bool true], [], false⟩ := by
    intro j
    induction j with
    | zero =>
      intro k i hi hk
      obtain ⟨k, rfl⟩ : ∃ j, k = j + 1 := ⟨k - 1, by omega⟩
      rw [f7_l0_eq, ltI_f (by omega), cond_false]; rfl
    | succ j ih =>
      intro k i hi hk
      obtain ⟨k, rfl⟩ : ∃ j, k = j + 1 := ⟨k - 1, by omega⟩
      have ih' := ih k (i + 1) (by omega) (by omega)
      rw [f7_l0_eq, ltI_t (by omega), cond_true, inR_nat (by omega), cond_true, cond_true, eqI_t rfl, not_t, cond_false, w64 (x := (i : Int) + 1) (by omega) (by omega), show (i : Int) + 1 = ((i + 1 : Nat) : Int) by omega, ih']
  rw [f7_run, f7_eq, eqI_t rfl, not_t, cond_false]
  exact key X.length n 0 (by omega) (by omega)

theorem pickAwake : RunsX 6 [] ⟨[.bool true], [], false⟩ := by
  have h1 := pick_runs (L := [.int 256, .int 0, .int 0]) (m := 1) (k := 1) (a := 1) (b := 2) (by simp) (by omega)
  rw [show pickV [.int 256, .int 0, .int 0] 1 1 1 2 = [.int 0, .int 1] by kernel_rfl] at h1
  have h2 := mayP_runs (m := 1) (k := 1) (a := 1) (b := 2)
  rw [show mayP 1 1 1 2 = true by decide] at h2
  have h3 := mayP_runs (m := 0) (k := 1) (a := 1) (b := 2)
  rw [show mayP 0 1 1 2 = false by decide] at h3
  refine Evt.succ (((h1.and (same_self (X := [.int 0, .int 1]) (by simp))).and (h2.and h3)).mono fun n h => ?_)
  obtain ⟨⟨g1, g2⟩, g3, g4⟩ := h
  rw [f6_run, f6_eq, g1, step1f, toSlice_s, g2, step1, toBool_b, cond_true, g3, step1, toBool_b, cond_true, g4]; rfl

theorem low_runs {L : List AV} (hL : L.length ≤ maxLen) : ∃ b, (b = true → L.length ≤ 24 ∧ ∀ i, 1 ≤ i → i < L.length → lev L i ≤ 6) ∧ RunsX 5 [.slice L] ⟨[.bool b], [], false⟩ := by
  rw [maxLen_eq] at hL
  have key : ∀ (j i : Nat), i + j = 40 → 1 ≤ i → (∀ p, 1 ≤ p → p < i → p < L.length → lev L p ≤ 6) → ∃ b, (b = true → L.length ≤ 24 ∧ ∀ i, 1 ≤ i → i < L.length → lev L i ≤ 6) ∧ ∀ (run : Run) (n k : Nat), j < k → f5_l0 run n k L (i : Int) = some ⟨[.bool b], [], false⟩ := by
    intro j
    induction j with
    | zero =>
      intro i hi h1 hp
      refine ⟨leI (L.length : Int) 24, fun h => ?_, fun run n k hk => ?_⟩
      · have := leI_iff.1 h
        exact ⟨by omega, fun p p1 p2 => hp p p1 (by omega) p2⟩
      · obtain ⟨k, rfl⟩ : ∃ j, k = j + 1 := ⟨k - 1, by omega⟩
        rw [f5_l0_eq]
        by_cases c : (i : Int) < (L.length : Int)
        · rw [ltI_t c, cond_true, ltI_f (by omega), cond_false]; rfl
        · rw [ltI_f c, cond_false]; rfl
    | succ j ih =>
      intro i hi h1 hp
      by_cases c : (i : Int) < (L.length : Int)
      · by_cases d : 6 < (nth L i).toInt
        · refine ⟨false, fun h => (by cases h), fun run n k hk => ?_⟩
          obtain ⟨k, rfl⟩ : ∃ j, k = j + 1 := ⟨k - 1, by omega⟩
          rw [f5_l0_eq, ltI_t c, cond_true, ltI_t (by omega), cond_true, inR_nat (by omega), cond_true, Int.toNat_natCast, ltI_t d, cond_true]; rfl
        · obtain ⟨b, hb, hr⟩ := ih (i + 1) (by omega) (by omega) (fun p p1 p2 p3 => by
            by_cases e : p = i
            · subst e; show (nth L p).toInt ≤ 6; omega
            · exact hp p p1 (by omega) p3)
          refine ⟨b, hb, fun run n k hk => ?_⟩
          obtain ⟨k, rfl⟩ : ∃ j, k = j + 1 := ⟨k - 1, by omega⟩
          rw [f5_l0_eq, ltI_t c, cond_true, ltI_t (by omega), cond_true, inR_nat (by omega), cond_true, Int.toNat_natCast, ltI_f d, cond_false, w64 (x := (i : Int) + 1) (by omega) (by omega), show (i : Int) + 1 = ((i + 1 : Nat) : Int) by omega]
          exact hr run n k (by omega)
      · refine ⟨leI (L.length : Int) 24, fun h => ?_, fun run n k hk => ?_⟩
        · have := leI_iff.1 h
          exact ⟨by omega, fun p p1 p2 => hp p p1 (by omega) p2⟩
        · obtain ⟨k, rfl⟩ : ∃ j, k = j + 1 := ⟨k - 1, by omega⟩
          rw [f5_l0_eq, ltI_f c, cond_false]; rfl
  obtain ⟨b, hb, hr⟩ := key 39 1 (by omega) (by omega) (fun p p1 p2 => by omega)
  refine ⟨b, hb, Evt.succ ((Evt.ge 50).mono fun n hn => ?_)⟩
  rw [f5_run, f5_eq]
  exact hr _ n n (by omega)

theorem topF_low {L : List AV} {N : Nat} (h : ∀ i, 1 ≤ i → i < L.length → lev L i ≤ 6) : ∀ i, i ≤ N → N ≤ L.length → topF (L.take N) i ≤ 6
  | 0, _, _ => by show (0 : Int) ≤ 6; omega
  | i + 1, h1, h2 => by
    have ih := topF_low h i (by omega) h2
    have e : lev (L.take N) i = lev L i := by
      unfold lev nth
      rw [List.getD_eq_getElem?_getD, List.getD_eq_getElem?_getD, List.getElem?_take, if_pos (by omega)]
    simp only [topF]
    split
    · have := h i (by omega) (by omega)
      rw [e]; omega
    · exact ih

theorem pickPicks_runs {L : List AV} {m k a b : Int} (hL : L.length ≤ maxLen) (hm : m ≤ 9223372036854775807) : RunsX 3 [.slice L, .agg [.int m, .int k], .agg [.int a, .int b]] ⟨[.bool true], [], false⟩ := by
  obtain ⟨q, hq, hlow⟩ := low_runs hL
  have f0 : ∀ x y : Int, (AV.fld (.agg [.int x, .int y]) 0).toInt = x := fun _ _ => rfl
  have f1 : ∀ x y : Int, (AV.fld (.agg [.int x, .int y]) 1).toInt = y := fun _ _ => rfl
  cases q with
  | false =>
    refine Evt.succ ((hlow.and pickAwake).mono fun n h => ?_)
    rw [f3_run, f3_eq, h.1, step1, toBool_b, not_f, cond_true, h.2]; rfl
  | true =>
    obtain ⟨h24, h6⟩ := hq rfl
    have r1 := pick_runs (L := L) (m := m) (k := k) (a := a) (b := b) (by omega) hm
    have r2 := refPick_runs (L := L) (m := m) (k := k) (a := a) (b := b) (by omega) (fun _ hk lv hlv => cmpAt_small (.inl (by
      have := topF_low (N := L.length - k.toNat) h6 (L.length - k.toNat) (Nat.le_refl _) (by omega)
      have e : (L.take (L.length - k.toNat)).length = L.length - k.toNat := by rw [List.length_take]; omega
      unfold topLv at hlv
      rw [e] at hlv
      omega)))
    have hlen : (pickV L m k a b).length ≤ 100000 := by
      unfold pickV
      cases !(mayP m k a b) with
      | true => simp
      | false =>
        rw [cond_false]
        split
        · simp
        · split
          · simp
          · have := pickL_len (L.length - k.toNat) (pickSt (L.take (L.length - k.toNat)) m a b ((topLv (L.take (L.length - k.toNat))).toNat + 1) 0 (fun _ => false))
            omega
    refine Evt.succ (((hlow.and pickAwake).and ((r1.and r2).and ((same_self hlen).and ((mayP_runs (m := m) (k := k) (a := a) (b := b)).and (refMayP_runs (m := m) (k := k) (a := a) (b := b)))))).mono fun n h => ?_)
    obtain ⟨⟨g1, g2⟩, ⟨g3, g4⟩, g5, g6, g7⟩ := h
    rw [f3_run, f3_eq, f0, f1, f0, f1, g1, step1, toBool_b, not_t, cond_false, g3, step1f, toSlice_s, g4, step1f, toSlice_s, g5, step1, toBool_b, cond_true, g6, step1, toBool_b, g7, step1, toBool_b, eqO_same, cond_true, g2]; rfl
theorem pickBegins_runs {L : List AV} {s lv m a b : Int} (hL : L.length ≤ maxLen) (hv : -9223372036854775808 ≤ lv) (hm : m ≤ 9223372036854775807) : RunsX 4 [.slice L, .agg [.int s, .int lv, .int m], .agg [.int a, .int b]] ⟨[.bool true], [], false⟩ := by
  obtain ⟨q, hq, hlow⟩ := low_runs hL
  have f0 : (AV.fld (.agg [.int a, .int b]) 0).toInt = a := rfl
  have f1 : (AV.fld (.agg [.int a, .int b]) 1).toInt = b := rfl
  have h0 : (AV.fld (.agg [.int s, .int lv, .int m]) 0).toInt = s := rfl
  have h1 : (AV.fld (.agg [.int s, .int lv, .int m]) 1).toInt = lv := rfl
  have h2 : (AV.fld (.agg [.int s, .int lv, .int m]) 2).toInt = m := rfl
  cases q with
  | false =>
    refine Evt.succ ((hlow.and pickAwake).mono fun n h => ?_)
    rw [f4_run, f4_eq, h.1, step1, toBool_b, not_f, cond_true, h.2]; rfl
  | true =>
    obtain ⟨h24, h6⟩ := hq rfl
    by_cases c1 : 6 < lv
    · by_cases c2 : lv ≤ 255
      · refine Evt.succ ((hlow.and pickAwake).mono fun n h => ?_)
        rw [f4_run, f4_eq, h.1, step1, toBool_b, not_t, cond_false, h1, ltI_t c1, cond_true, leI_t c2, cond_true, h.2]; rfl
      · refine Evt.succ (((hlow.and pickAwake).and ((begin_runs (L := L) (s := s) (lv := lv) (m := m) (a := a) (b := b) hv (by omega) hm).and (refBegin_runs (L := L) (s := s) (lv := lv) (m := m) (a := a) (b := b) (cmpAt_small (.inr (by omega))) (by omega)))).mono fun n h => ?_)
        obtain ⟨⟨g1, g2⟩, g3, g4⟩ := h
        rw [f4_run, f4_eq, h0, h1, h2, f0, f1, g1, step1, toBool_b, not_t, cond_false, ltI_t c1, cond_true, leI_f c2, cond_false, g3, step1, toInt_i, g4, step1, toInt_i, eqI_t rfl, cond_true, g2]; rfl
    · refine Evt.succ (((hlow.and pickAwake).and ((begin_runs (L := L) (s := s) (lv := lv) (m := m) (a := a) (b := b) hv (by omega) hm).and (refBegin_runs (L := L) (s := s) (lv := lv) (m := m) (a := a) (b := b) (cmpAt_small (.inl (by omega))) (by omega)))).mono fun n h => ?_)
      obtain ⟨⟨g1, g2⟩, g3, g4⟩ := h
      rw [f4_run, f4_eq, h0, h1, h2, f0, f1, g1, step1, toBool_b, not_t, cond_false, ltI_f c1, cond_false, g3, step1, toInt_i, g4, step1, toInt_i, eqI_t rfl, cond_true, g2]; rfl

theorem two_ints {l : List AV} (h : l.length = 2) (hy : ∀ (i : Nat) y, l[i]? = some y → (Ty.int .i64).Has y) : ∃ x y : Int, l = [.int x, .int y] ∧ (-9223372036854775808 ≤ x ∧ x ≤ 9223372036854775807) := by
  match l, h with
  | [p, q], _ =>
    obtain ⟨x, rfl, wx⟩ := hy 0 p rfl
    obtain ⟨y, rfl, _⟩ := hy 1 q rfl
    exact ⟨x, y, rfl, wf64 wx⟩
theorem three_ints {l : List AV} (h : l.length = 3) (hy : ∀ (i : Nat) y, l[i]? = some y → (Ty.int .i64).Has y) : ∃ x y z : Int, l = [.int x, .int y, .int z] ∧ (-9223372036854775808 ≤ y ∧ z ≤ 9223372036854775807) := by
  match l, h with
  | [p, q, r], _ =>
    obtain ⟨x, rfl, _⟩ := hy 0 p rfl
    obtain ⟨y, rfl, wy⟩ := hy 1 q rfl
    obtain ⟨z, rfl, wz⟩ := hy 2 r rfl
    exact ⟨x, y, z, rfl, (wf64 wy).1, (wf64 wz).2⟩
theorem pickPicks_sat (xs : List AV) (h : Ty.HasL [.slice (.int .i64), .arr 2 (.int .i64), .arr 2 (.int .i64)] xs) : ∃ r, r.vals = [.bool true] ∧ Sat Try.prog f3_info 3 xs r := by
  obtain ⟨x, r, rfl, ⟨l, rfl, hl, _, _⟩, y, r', rfl, ⟨p, rfl, hp, hp2⟩, z, r2, rfl, ⟨q, rfl, hq, hq2⟩, rfl⟩ := h
  obtain ⟨m, k, rfl, hm⟩ := two_ints hp hp2
  obtain ⟨a, b, rfl, _⟩ := two_ints hq hq2
  exact ⟨_, rfl, sat_of_runsX (by kernel_rfl) (pickPicks_runs hl hm.2)⟩
theorem pickBegins_sat (xs : List AV) (h : Ty.HasL [.slice (.int .i64), .arr 3 (.int .i64), .arr 2 (.int .i64)] xs) : ∃ r, r.vals = [.bool true] ∧ Sat Try.prog f4_info 4 xs r := by
  obtain ⟨x, r, rfl, ⟨l, rfl, hl, _, _⟩, y, r', rfl, ⟨p, rfl, hp, hp2⟩, z, r2, rfl, ⟨q, rfl, hq, hq2⟩, rfl⟩ := h
  obtain ⟨s, lv, m, rfl, hm⟩ := three_ints hp hp2
  obtain ⟨a, b, rfl, _⟩ := two_ints hq hq2
  exact ⟨_, rfl, sat_of_runsX (by kernel_rfl) (pickBegins_runs hl hm.1 hm.2)⟩

end Go.Proofs.Ytogehijjhibdkaa.Ev
