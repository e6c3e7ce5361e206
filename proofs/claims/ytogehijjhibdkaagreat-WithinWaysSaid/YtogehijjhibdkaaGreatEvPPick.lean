/- What is picked: both programs tell the same. -/
import Derived.Test.YtogehijjhibdkaaGreatEvPGoodR
namespace Go.Proofs.YtogehijjhibdkaaGreat.Ev
open Go Go.RowKit

def beginV (L : List AV) (s lv m a b : Int) : Int :=
  if m < 1 ∨ ((hitL L s.toNat lv).length : Int) ≤ m ∨ s < 0 then s else bif goodV (L.drop s.toNat) lv m a b then (nth (hitL L s.toNat lv) ((hitL L s.toNat lv).length - m.toNat)).toInt else s

theorem hitL_at {L : List AV} {s : Nat} {lv : Int} {i : Nat} (h : i < (hitL L s lv).length) : ∃ p : Nat, nth (hitL L s lv) i = .int (p : Int) ∧ p < L.length ∧ s ≤ p ∧ lv ≤ lev L p := by
  rw [hitL_len] at h
  have hm := hitN_mem.1 (List.getElem_mem h)
  refine ⟨(hitN L s lv L.length)[i], ?_, hm⟩
  unfold hitL nth
  rw [List.getD_eq_getElem?_getD, List.getElem?_map, List.getElem?_eq_getElem h]
  rfl
theorem beginV_in {L : List AV} {s lv m a b : Int} (h0 : 0 ≤ s) (h1 : s ≤ L.length) : s ≤ beginV L s lv m a b ∧ beginV L s lv m a b ≤ L.length := by
  unfold beginV
  by_cases hc : m < 1 ∨ ((hitL L s.toNat lv).length : Int) ≤ m ∨ s < 0
  · rw [if_pos hc]; exact ⟨Int.le_refl _, h1⟩
  · rw [if_neg hc]
    cases goodV (L.drop s.toNat) lv m a b with
    | false => exact ⟨Int.le_refl _, h1⟩
    | true =>
      obtain ⟨p, e, p1, p2, _⟩ := hitL_at (L := L) (s := s.toNat) (lv := lv) (i := (hitL L s.toNat lv).length - m.toNat) (by omega)
      rw [cond_true, e, toInt_i]
      omega
theorem hitL_le (L : List AV) (s : Nat) (lv : Int) : (hitL L s lv).length ≤ L.length := by rw [hitL_len]; exact hitN_len L s lv _

theorem begin_runs {L : List AV} {s lv m a b : Int} (hv : -9223372036854775808 ≤ lv) (hL : L.length ≤ 100000) (hm : m ≤ 9223372036854775807) : RunsX 47 [.slice L, .int s, .int lv, .int m, .int a, .int b] ⟨[.int (beginV L s lv m a b)], [], false⟩ := by
  have hle := hitL_le L s.toNat lv
  refine Evt.succ (((places_runs (L := L) (s := s) (lv := lv) (by omega)).and (good_runs (L := L.drop s.toNat) (lv := lv) (m := m) (a := a) (b := b) hv (by rw [List.length_drop]; omega) hm)).mono fun n h => ?_)
  obtain ⟨g1, g2⟩ := h
  unfold beginV
  rw [f47_run, f47_eq, g1, step1f, toSlice_s]
  by_cases c1 : m < 1
  · rw [ltI_t c1, cond_true, if_pos (.inl c1)]; rfl
  rw [ltI_f c1, cond_false]
  by_cases c2 : ((hitL L s.toNat lv).length : Int) ≤ m
  · rw [leI_t c2, cond_true, if_pos (.inr (.inl c2))]; rfl
  rw [leI_f c2, cond_false]
  by_cases c3 : s < 0
  · rw [ltI_t c3, cond_true, if_pos (.inr (.inr c3))]; rfl
  obtain ⟨p, e, p1, p2, _⟩ := hitL_at (L := L) (s := s.toNat) (lv := lv) (i := (hitL L s.toNat lv).length - m.toNat) (by omega)
  have hb : boundsOk s (L.length : Int) (L.length : Int) (L.length : Int) = true := by unfold boundsOk; simp <;> omega
  rw [ltI_f c3, cond_false, hb, Bool.and_true, cond_true, Int.toNat_natCast, List.take_length, g2, step1, toBool_b, if_neg (by intro h; rcases h with h | h | h; exact c1 h; exact c2 h; exact c3 h)]
  cases goodV (L.drop s.toNat) lv m a b with
  | false => rfl
  | true =>
    rw [not_t, cond_false, cond_true, w64 (by omega) (by omega), show ((hitL L s.toNat lv).length : Int) - m = (((hitL L s.toNat lv).length - m.toNat : Nat) : Int) by omega, inR_nat (by omega), cond_true, Int.toNat_natCast]
    rfl

/- may one pick -/
def mayP (m k a b : Int) : Bool := decide (1 ≤ m ∧ m ≤ 1024 ∧ 1 ≤ k ∧ k ≤ 1024) && mayR a b
theorem mayP_runs {m k a b : Int} : RunsX 10 [.int m, .int k, .int a, .int b] ⟨[.bool (mayP m k a b)], [], false⟩ := by
  refine Evt.succ ((ratioMay_runs (a := a) (b := b)).mono fun n h => ?_)
  unfold mayP
  rw [f10_run, f10_eq, h, step1, toBool_b]
  by_cases c1 : 1 ≤ m
  · by_cases c2 : m ≤ 1024
    · by_cases c3 : 1 ≤ k
      · by_cases c4 : k ≤ 1024
        · rw [leI_t c1, leI_t c2, leI_t c3, leI_t c4, decide_eq_true ⟨c1, c2, c3, c4⟩]; rfl
        · rw [leI_t c1, leI_t c2, leI_t c3, leI_f c4, decide_eq_false (by omega)]; rfl
      · rw [leI_t c1, leI_t c2, leI_f c3, decide_eq_false (by omega)]; rfl
    · rw [leI_t c1, leI_f c2, decide_eq_false (by omega)]; rfl
  · rw [leI_f c1, decide_eq_false (by omega)]; rfl
/- the top -/
def topF (B : List AV) : Nat → Int
  | 0 => 0
  | i + 1 => if 0 < i then max (topF B i) (lev B i) else topF B i
theorem topF_nonneg (B : List AV) : ∀ i, 0 ≤ topF B i
  | 0 => Int.le_refl _
  | i + 1 => by
    have := topF_nonneg B i
    simp only [topF]
    split <;> omega
def topLv (B : List AV) : Int := min (topF B B.length) 255
theorem topLv_in (B : List AV) : 0 ≤ topLv B ∧ topLv B ≤ 255 := by
  have := topF_nonneg B B.length
  unfold topLv; omega
theorem top_runsP {B : List AV} (hB : B.length ≤ 100000) : RunsX 45 [.slice B] ⟨[.int (topLv B)], [], false⟩ := by
  refine Evt.succ ((Evt.ge (B.length + 2)).mono fun n hn => ?_)
  have key : ∀ (j k i : Nat), i + j = B.length → j < k → f45_l0 (runE G ext n) n k (topF B i) B (B.length : Int) (i : Int) = some ⟨[.int (topLv B)], [], false⟩ := by
    intro j
    induction j with
    | zero =>
      intro k i hi hk
      obtain ⟨k, rfl⟩ : ∃ j, k = j + 1 := ⟨k - 1, by omega⟩
      rw [f45_l0_eq, ltI_f (by omega), cond_false, show i = B.length by omega, mn2_eq]; rfl
    | succ j ih =>
      intro k i hi hk
      obtain ⟨k, rfl⟩ : ∃ j, k = j + 1 := ⟨k - 1, by omega⟩
      have ih' := ih k (i + 1) (by omega) (by omega)
      rw [f45_l0_eq, ltI_t (by omega), cond_true, inR_nat (by omega), cond_true, Int.toNat_natCast, mx2_eq, w64 (x := (i : Int) + 1) (by omega) (by omega), show (i : Int) + 1 = ((i + 1 : Nat) : Int) by omega]
      by_cases h : 0 < i
      · rw [ltI_t (by omega), cond_true]
        rw [show topF B (i + 1) = max (topF B i) (lev B i) from if_pos h] at ih'
        exact ih'
      · rw [ltI_f (by omega), cond_false]
        rw [show topF B (i + 1) = topF B i from if_neg h] at ih'
        exact ih'
  rw [f45_run, f45_eq]
  exact key B.length n 0 (by omega) (by omega)

/- what is taken -/
def takeT (B : List AV) (s : Int) (lv : Int) (T : Nat → Bool) : Nat → Bool := fun p => T p || (decide (s.toNat ≤ p) && decide (lv ≤ lev B p))
def pickSt (B : List AV) (m a b : Int) : Nat → Int → (Nat → Bool) → Nat → Bool
  | 0, _, T => T
  | j + 1, s, T => pickSt B m a b j (beginV B s (j : Int) m a b) (takeT B s (j : Int) T)
def tkL (N : Nat) (T : Nat → Bool) : List AV := (List.range N).map fun p => .bool (T p)
theorem tkL_len (N : Nat) (T : Nat → Bool) : (tkL N T).length = N := by simp [tkL]
theorem tkL_congr {N : Nat} {T U : Nat → Bool} (h : ∀ p, p < N → T p = U p) : tkL N T = tkL N U := by
  unfold tkL
  apply List.map_congr_left
  intro p hp
  rw [h p (List.mem_range.1 hp)]
theorem tkL_set (N : Nat) (T : Nat → Bool) (i : Nat) : (tkL N T).set i (.bool true) = tkL N (fun p => T p || decide (p = i)) := by
  unfold tkL
  rw [set_rng]
  congr 1
  funext j
  by_cases e : j = i
  · rw [if_pos e]; subst e; simp
  · rw [if_neg e]; simp [e]
theorem tkL_none (N : Nat) : tkL N (fun _ => false) = List.replicate N (.bool false) := by
  unfold tkL
  apply List.ext_getElem
  · simp
  · intro j h1 h2; simp
def pickL (N : Nat) (T : Nat → Bool) : List AV := ((List.range N).filter T).map fun (p : Nat) => AV.int (p : Int)
theorem pickL_succ (i : Nat) (T : Nat → Bool) : pickL (i + 1) T = pickL i T ++ bif T i then [.int (i : Int)] else [] := by
  unfold pickL
  rw [List.range_succ, List.filter_append, List.map_append]
  congr 1
  cases h : T i <;> simp [h]
theorem pickL_len (N : Nat) (T : Nat → Bool) : (pickL N T).length ≤ N := by
  unfold pickL
  rw [List.length_map]
  exact Nat.le_trans (List.length_filter_le _ _) (by simp)

def pickV (L : List AV) (m k a b : Int) : List AV :=
  bif !(mayP m k a b) then [] else if (L.length : Int) ≤ k then [] else if 1024 < L.length then [] else
    pickL (L.length - k.toNat) (pickSt (L.take (L.length - k.toNat)) m a b ((topLv (L.take (L.length - k.toNat))).toNat + 1) 0 (fun _ => false))

/-- The marks of one level, one by one. -/
def markT (B : List AV) (s : Nat) (lv : Int) (T : Nat → Bool) (i : Nat) : Nat → Bool := fun p => T p || decide (p ∈ (hitN B s lv B.length).take i)
theorem markT_zero (B : List AV) (s : Nat) (lv : Int) (T : Nat → Bool) : markT B s lv T 0 = T := by
  funext p; unfold markT; simp
theorem markT_succ {B : List AV} {s : Nat} {lv : Int} {T : Nat → Bool} {i q : Nat} (h : (hitN B s lv B.length)[i]? = some q) (N : Nat) : tkL N (fun p => markT B s lv T i p || decide (p = q)) = tkL N (markT B s lv T (i + 1)) := by
  apply tkL_congr
  intro p _
  unfold markT
  rw [List.take_add_one, h]
  rw [show ((hitN B s lv B.length).take i ++ (some q).toList) = (hitN B s lv B.length).take i ++ [q] from rfl]
  cases T p <;> simp
theorem markT_all (B : List AV) (s : Int) (lv : Int) (T : Nat → Bool) {i : Nat} (hi : i = (hitN B s.toNat lv B.length).length) : tkL B.length (markT B s.toNat lv T i) = tkL B.length (takeT B s lv T) := by
  apply tkL_congr
  intro p hp
  unfold markT takeT
  rw [hi, List.take_length]
  congr 1
  rw [Bool.eq_iff_iff]
  simp [hitN_mem, hp]

section
variable {B : List AV} {m a b : Int}
theorem pickU_l4 (run : Run) (n k0 : Nat) {N : Nat} {T : Nat → Bool} (hN : N ≤ 100000) : ∀ (j k i : Nat), i + j = N → j < k → f14_l4 run n k0 k (pickL i T) N (N : Int) (i : Int) (tkL N T) = some ⟨[.slice (pickL N T)], [], true⟩ := by
  intro j
  induction j with
  | zero =>
    intro k i hi hk
    obtain ⟨k, rfl⟩ : ∃ j, k = j + 1 := ⟨k - 1, by omega⟩
    rw [f14_l4_eq, ltI_f (by omega), cond_false, show i = N by omega]; rfl
  | succ j ih =>
    intro k i hi hk
    obtain ⟨k, rfl⟩ : ∃ j, k = j + 1 := ⟨k - 1, by omega⟩
    have ih' := ih k (i + 1) (by omega) (by omega)
    rw [pickL_succ] at ih'
    have hf : (AV.fld (.agg (tkL N T)) (0 + i)).toBool = T i := by
      unfold AV.fld tkL
      rw [toAgg_a, Nat.zero_add, nth_rng (by omega)]; rfl
    have hl := pickL_len i T
    rw [f14_l4_eq, ltI_t (by omega), cond_true, inR_nat (by omega), cond_true, Int.toNat_natCast, hf, w64 (x := (i : Int) + 1) (by omega) (by omega), show (i : Int) + 1 = ((i + 1 : Nat) : Int) by omega, Nat.ble_eq_true_of_le (by omega)]
    cases hT : T i with
    | true => rw [hT, cond_true] at ih'; rw [cond_true, cond_true]; exact ih'
    | false => rw [hT, cond_false, List.append_nil] at ih'; rw [cond_false]; exact ih'
theorem pickLoop (hB : B.length ≤ 1024) (hm : m ≤ 9223372036854775807) : Evt fun n => ∀ (k0 : Nat) (s : Int) (T : Nat → Bool), ∀ (j : Nat), j ≤ 256 → j < k0 → 0 ≤ s → s ≤ B.length →
    f14_l0 (runE G ext n) n k0 m a b B B.length s ((j : Int) - 1) (tkL B.length T) = some ⟨[.slice (pickL B.length (pickSt B m a b j s T))], [], true⟩ := by
  have hp := Evt.all (B.length + 1) fun s (hs : s < B.length + 1) => Evt.all 256 fun lv (hlv : lv < 256) => (places_runs (L := B) (s := (s : Int)) (lv := (lv : Int)) (by omega)).and (begin_runs (L := B) (s := (s : Int)) (lv := (lv : Int)) (m := m) (a := a) (b := b) (by omega) (by omega) hm)
  refine (hp.and (Evt.ge 3000)).mono fun n hn => ?_
  obtain ⟨g1, g2⟩ := hn
  intro k0 s T j
  induction j generalizing k0 s T with
  | zero =>
    intro _ hk h0 h1
    obtain ⟨k0, rfl⟩ : ∃ j, k0 = j + 1 := ⟨k0 - 1, by omega⟩
    have h4 := pickU_l4 (runE G ext n) n k0 (N := B.length) (T := T) (by omega) B.length n 0 (by omega) (by omega)
    rw [f14_l0_eq, leI_f (by omega), cond_false]
    exact h4
  | succ j ih =>
    intro hj hk h0 h1
    obtain ⟨k0, rfl⟩ : ∃ j, k0 = j + 1 := ⟨k0 - 1, by omega⟩
    obtain ⟨sn, rfl⟩ : ∃ sn : Nat, s = (sn : Int) := ⟨s.toNat, by omega⟩
    obtain ⟨q1, q2⟩ := g1 sn (by omega) j (by omega)
    have hbi := beginV_in (L := B) (s := (sn : Int)) (lv := (j : Int)) (m := m) (a := a) (b := b) h0 h1
    have ih' := ih k0 (beginV B (sn : Int) (j : Int) m a b) (takeT B (sn : Int) (j : Int) T) (by omega) (by omega) (by omega) hbi.2
    have hlen := hitL_len B sn (j : Int)
    have hle := hitL_le B sn (j : Int)
    have k2 : ∀ (d k i : Nat), i + d = (hitL B sn (j : Int)).length → d < k → f14_l2 (runE G ext n) n k0 k m a b B B.length (sn : Int) (j : Int) (hitL B sn (j : Int)) ((hitL B sn (j : Int)).length : Int) (i : Int) (tkL B.length (markT B sn (j : Int) T i)) = some ⟨[.slice (pickL B.length (pickSt B m a b (j + 1) (sn : Int) T))], [], true⟩ := by
      intro d
      induction d with
      | zero =>
        intro k i hi hk
        obtain ⟨k, rfl⟩ : ∃ j, k = j + 1 := ⟨k - 1, by omega⟩
        have e := markT_all B (sn : Int) (j : Int) T (i := i) (by rw [Int.toNat_natCast]; omega)
        rw [Int.toNat_natCast] at e
        rw [f14_l2_eq, ltI_f (by omega), cond_false, q2, step1, toInt_i, w64 (x := (j : Int) - 1) (by omega) (by omega), e]
        exact ih'
      | succ d ih2 =>
        intro k i hi hk
        obtain ⟨k, rfl⟩ : ∃ j, k = j + 1 := ⟨k - 1, by omega⟩
        have hlt : i < (hitN B sn (j : Int) B.length).length := by omega
        have hm2 := hitN_mem.1 (List.getElem_mem hlt)
        have e1 : (nth (hitL B sn (j : Int)) i).toInt = (((hitN B sn (j : Int) B.length)[i] : Nat) : Int) := by
          unfold hitL nth
          rw [List.getD_eq_getElem?_getD, List.getElem?_map, List.getElem?_eq_getElem hlt]
          rfl
        rw [f14_l2_eq, ltI_t (by omega), cond_true, inR_nat (by omega), cond_true, Int.toNat_natCast, e1, inR_nat hm2.1, cond_true, Int.toNat_natCast, Nat.zero_add, tkL_set, markT_succ (List.getElem?_eq_getElem hlt), w64 (x := (i : Int) + 1) (by omega) (by omega), show (i : Int) + 1 = ((i + 1 : Nat) : Int) by omega]
        exact ih2 k (i + 1) (by omega) (by omega)
    have hk2 := k2 (hitL B sn (j : Int)).length n 0 (by omega) (by omega)
    rw [markT_zero] at hk2
    rw [Int.toNat_natCast] at q1
    rw [f14_l0_eq, show ((j + 1 : Nat) : Int) - 1 = (j : Int) by omega, leI_t (by omega), cond_true, q1, step1f, toSlice_s]
    exact hk2

theorem pick_runs {L : List AV} {k : Int} (hL : L.length ≤ 100000) : RunsX 14 [.slice L, .int m, .int k, .int a, .int b] ⟨[.slice (pickV L m k a b)], [], true⟩ := by
  unfold pickV
  cases hM : mayP m k a b with
  | false =>
    refine Evt.succ ((mayP_runs (m := m) (k := k) (a := a) (b := b)).mono fun n h => ?_)
    rw [f14_run, f14_eq, h, step1, toBool_b, hM]; rfl
  | true =>
    have hM' := hM
    unfold mayP at hM'
    rw [Bool.and_eq_true, decide_eq_true_iff] at hM'
    obtain ⟨⟨_, m2, k1, k2⟩, _⟩ := hM'
    by_cases c1 : (L.length : Int) ≤ k
    · refine Evt.succ ((mayP_runs (m := m) (k := k) (a := a) (b := b)).mono fun n h => ?_)
      rw [f14_run, f14_eq, h, step1, toBool_b, hM, not_t, cond_false, leI_t c1, cond_true, cond_false, if_pos c1]; rfl
    by_cases c2 : 1024 < L.length
    · refine Evt.succ ((mayP_runs (m := m) (k := k) (a := a) (b := b)).mono fun n h => ?_)
      rw [f14_run, f14_eq, h, step1, toBool_b, hM, not_t, cond_false, leI_f c1, cond_false, ltI_t (by omega), cond_true, cond_false, if_neg c1, if_pos c2]; rfl
    have hBl : (L.take (L.length - k.toNat)).length = L.length - k.toNat := by rw [List.length_take]; omega
    have ht := topLv_in (L.take (L.length - k.toNat))
    refine Evt.succ (((mayP_runs (m := m) (k := k) (a := a) (b := b)).and ((top_runsP (B := L.take (L.length - k.toNat)) (by omega)).and ((pickLoop (B := L.take (L.length - k.toNat)) (m := m) (a := a) (b := b) (by omega) (by omega)).and (Evt.ge 300)))).mono fun n h => ?_)
    obtain ⟨g1, g2, g3, g4⟩ := h
    have hb : boundsOk 0 ((L.length - k.toNat : Nat) : Int) (L.length : Int) (L.length : Int) = true := by unfold boundsOk; simp <;> omega
    have g := g3 n 0 (fun _ => false) ((topLv (L.take (L.length - k.toNat))).toNat + 1) (by omega) (by omega) (by omega) (by omega)
    rw [tkL_none, hBl, show ((((topLv (L.take (L.length - k.toNat))).toNat + 1 : Nat) : Int) - 1) = topLv (L.take (L.length - k.toNat)) by omega] at g
    rw [f14_run, f14_eq, g1, step1, toBool_b, hM, not_t, cond_false, cond_false, leI_f c1, cond_false, ltI_f (by omega), cond_false, if_neg c1, if_neg c2, w64 (by omega) (by omega), show (L.length : Int) - k = ((L.length - k.toNat : Nat) : Int) by omega, hb, Bool.and_true, cond_true, Int.toNat_natCast, List.drop_zero, hBl, eqI_t rfl, leI_t (by omega), Int.toNat_natCast, Nat.ble_eq_true_of_le (by omega), Bool.and_true, Bool.and_true, cond_true, g2, step1, toInt_i]
    exact g

end

end Go.Proofs.YtogehijjhibdkaaGreat.Ev
