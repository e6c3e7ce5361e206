/- Places of a tree. -/
import Derived.Test.YtncajhkogppojaaEvPRoots
namespace Go.Proofs.Ytncajhkogppojaa.Ev
open Go Go.RowKit

theorem left_runs {n : Int} (h : n ≤ 1152921504606846976) : RunsX 51 [.int n] ⟨[.int (leftV n)], [], false⟩ := Evt.succ ((Evt.ge 100).mono fun m hm => left_at m hm h)
theorem refLeft_runs {n : Int} (h : n ≤ 1152921504606846976) : RunsX 87 [.int n] ⟨[.int (leftV n)], [], false⟩ := Evt.succ ((Evt.ge 100).mono fun m hm => refLeft_at m hm h)

def I (P : List Int) : List AV := P.map AV.int
theorem I_len (P : List Int) : (I P).length = P.length := by simp [I]
theorem nthI {P : List Int} {i : Nat} (h : i < P.length) : nth (I P) i = .int P[i] := by
  rw [nth_lt (by simpa [I] using h)]; simp [I]
theorem I_of {l : List AV} {k : IntKind} (h : ∀ (i : Nat) y, l[i]? = some y → (Ty.int k).Has y) : l = I (l.map AV.toInt) := by
  apply List.ext_getElem
  · simp [I]
  · intro i h1 h2
    obtain ⟨n, hn, _⟩ := h i _ (List.getElem?_eq_getElem h1)
    simp [I, hn, AV.toInt]

/- rising places -/
def risV (P : List Int) (n : Int) : Nat → Nat → Bool
  | 0, _ => decide (0 < P.length)
  | j + 1, i => if P.getD i 0 < 0 ∨ n ≤ P.getD i 0 ∨ (0 < i ∧ P.getD i 0 ≤ P.getD (i - 1) 0) then false else risV P n j (i + 1)

theorem gd {P : List Int} {i : Nat} (h : i < P.length) : P.getD i 0 = P[i] := by simp [h]
theorem nthD {P : List Int} {i : Nat} (h : i < P.length) : (nth (I P) i).toInt = P.getD i 0 := by rw [nthI h, gd h]; rfl

theorem rising_l0 (run : Run) (m : Nat) (P : List Int) (n : Int) (hP : P.length ≤ 1000) : ∀ (j k i : Nat), i + j = P.length → j < k → f43_l0 run m k n (I P) (I P) (P.length : Int) (i : Int) = some ⟨[.bool (risV P n j i)], [], false⟩ := by
  intro j
  induction j with
  | zero =>
    intro k i hi hk
    obtain ⟨k, rfl⟩ : ∃ j, k = j + 1 := ⟨k - 1, by omega⟩
    rw [f43_l0_eq, ltI_f (by omega), cond_false, I_len]
    have : ltI 0 (P.length : Int) = risV P n 0 i := by
      simp only [risV]
      by_cases h : 0 < P.length
      · rw [dec_t h, ltI_t (by omega)]
      · rw [dec_f h, ltI_f (by omega)]
    rw [this]; rfl
  | succ j ih =>
    intro k i hi hk
    obtain ⟨k, rfl⟩ : ∃ j, k = j + 1 := ⟨k - 1, by omega⟩
    have ih' := ih k (i + 1) (by omega) (by omega)
    rw [show ((i + 1 : Nat) : Int) = (i : Int) + 1 by omega] at ih'
    rw [f43_l0_eq, ltI_t (by omega), cond_true, I_len, inR_nat (by omega), cond_true, Int.toNat_natCast, nthD (by omega), w64 (x := (i : Int) + 1) (by omega) (by omega), ih', w64 (x := (i : Int) - 1) (by omega) (by omega)]
    simp only [risV]
    by_cases h1 : P.getD i 0 < 0
    · rw [ltI_t h1, if_pos (.inl h1)]; rfl
    · rw [ltI_f h1, cond_false]
      by_cases h2 : n ≤ P.getD i 0
      · rw [leI_t h2, if_pos (.inr (.inl h2))]; rfl
      · rw [leI_f h2, cond_false]
        by_cases h3 : 0 < i
        · rw [ltI_t (by omega), inR_yes (by omega) (by omega), cond_true, cond_true, show ((i : Int) - 1).toNat = i - 1 by omega, nthD (by omega)]
          by_cases h4 : P.getD i 0 ≤ P.getD (i - 1) 0
          · rw [leI_t h4, if_pos (.inr (.inr ⟨h3, h4⟩))]; rfl
          · rw [leI_f h4, if_neg (by omega)]; rfl
        · rw [ltI_f (by omega), if_neg (by omega)]; rfl

theorem refRising_l0 (run : Run) (m : Nat) (P : List Int) (n : Int) (hP : P.length ≤ 1000) : ∀ (j k i : Nat), i + j = P.length → j < k → f11_l0 run m k n (I P) (i : Int) = some ⟨[.bool (risV P n j i)], [], false⟩ := by
  intro j
  induction j with
  | zero =>
    intro k i hi hk
    obtain ⟨k, rfl⟩ : ∃ j, k = j + 1 := ⟨k - 1, by omega⟩
    rw [f11_l0_eq, I_len, ltI_f (by omega), cond_false]
    have : ltI 0 (P.length : Int) = risV P n 0 i := by
      simp only [risV]
      by_cases h : 0 < P.length
      · rw [dec_t h, ltI_t (by omega)]
      · rw [dec_f h, ltI_f (by omega)]
    rw [this]; rfl
  | succ j ih =>
    intro k i hi hk
    obtain ⟨k, rfl⟩ : ∃ j, k = j + 1 := ⟨k - 1, by omega⟩
    have ih' := ih k (i + 1) (by omega) (by omega)
    rw [show ((i + 1 : Nat) : Int) = (i : Int) + 1 by omega] at ih'
    rw [f11_l0_eq, I_len, ltI_t (by omega), cond_true, inR_nat (by omega), cond_true, Int.toNat_natCast, nthD (by omega), w64 (x := (i : Int) + 1) (by omega) (by omega), ih', w64 (x := (i : Int) - 1) (by omega) (by omega)]
    simp only [risV, cond_true]
    by_cases h1 : P.getD i 0 < 0
    · rw [ltI_t h1, if_pos (.inl h1)]; rfl
    · rw [ltI_f h1, cond_false]
      by_cases h2 : n ≤ P.getD i 0
      · rw [leI_t h2, if_pos (.inr (.inl h2))]; rfl
      · rw [leI_f h2, cond_false]
        by_cases h3 : 0 < i
        · rw [ltI_t (by omega), inR_yes (by omega) (by omega), cond_true, cond_true, show ((i : Int) - 1).toNat = i - 1 by omega, nthD (by omega)]
          by_cases h4 : P.getD i 0 ≤ P.getD (i - 1) 0
          · rw [leI_t h4, if_pos (.inr (.inr ⟨h3, h4⟩))]; rfl
          · rw [leI_f h4, if_neg (by omega)]; rfl
        · rw [ltI_f (by omega), if_neg (by omega)]; rfl

theorem rising_runs {P : List Int} {n : Int} (hP : P.length ≤ 1000) : RunsX 43 [.int n, .slice (I P)] ⟨[.bool (risV P n P.length 0)], [], false⟩ := by
  refine Evt.succ ((Evt.ge 2000).mono fun m hm => ?_)
  rw [f43_run, f43_eq, I_len]
  exact rising_l0 _ _ P n hP _ m 0 (by omega) (by omega)

theorem refRising_runs {P : List Int} {n : Int} (hP : P.length ≤ 1000) : RunsX 11 [.int n, .slice (I P)] ⟨[.bool (risV P n P.length 0)], [], false⟩ := by
  refine Evt.succ ((Evt.ge 2000).mono fun m hm => ?_)
  rw [f11_run, f11_eq]
  exact refRising_l0 _ _ P n hP _ m 0 (by omega) (by omega)

theorem risV_of {P : List Int} {n : Int} : ∀ (j i : Nat), i + j = P.length → risV P n j i = true → 0 < P.length ∧ ∀ m, i ≤ m → m < P.length → 0 ≤ P.getD m 0 ∧ P.getD m 0 < n ∧ (0 < m → P.getD (m - 1) 0 < P.getD m 0)
  | 0, i, hi, h => by
    simp only [risV] at h
    exact ⟨of_decide_eq_true h, fun m h1 h2 => by omega⟩
  | j + 1, i, hi, h => by
    simp only [risV] at h
    split at h
    · cases h
    · obtain ⟨h1, h2⟩ := risV_of j (i + 1) (by omega) h
      refine ⟨h1, fun m h3 h4 => ?_⟩
      rcases Nat.lt_or_ge i m with h5 | h5
      · exact h2 m (by omega) h4
      · rw [show m = i by omega]; omega

theorem pairwise_of {P : List Int} (h : ∀ m, m < P.length → 0 < m → P.getD (m - 1) 0 < P.getD m 0) : P.Pairwise (· < ·) := by
  rw [List.pairwise_iff_getElem]
  have key : ∀ (d i : Nat), i + d + 1 < P.length → P.getD i 0 < P.getD (i + d + 1) 0 := by
    intro d
    induction d with
    | zero => intro i hi; have := h (i + 1) hi (by omega); exact this
    | succ d ih => intro i hi; have h1 := ih i (by omega); have h2 := h (i + d + 1 + 1) hi (by omega); rw [Nat.add_sub_cancel] at h2; exact Int.lt_trans h1 h2
  intro i j hi hj hij
  have := key (j - i - 1) i (by omega)
  rw [show i + (j - i - 1) + 1 = j by omega, gd hi, gd hj] at this
  exact this

/- among -/
def inB (a b : Int) (x : Int) : Bool := decide (a ≤ x) && decide (x < b)

/- parted -/
theorem parted_l2 (run : Run) (m k0 : Nat) (ps q : List Int) (left : Int) (c : Nat) (hc : c ≤ ps.length) (hq : q.length ≤ 1000) (h0 : ∀ x ∈ q, 0 ≤ x ∧ x ≤ 1000) (hl : 0 ≤ left ∧ left ≤ 1000) :
    ∀ (j k i : Nat), i + j = q.length → j < k → f52_l2 run m k0 k (I ps) left (c : Int) (I ((q.take i).map (· - left))) (I q) (q.length : Int) (i : Int) = some ⟨[.slice (I (ps.take c)), .slice (I (q.map (· - left)))], [], false⟩ := by
  intro j
  induction j with
  | zero =>
    intro k i hi hk
    obtain ⟨k, rfl⟩ : ∃ j, k = j + 1 := ⟨k - 1, by omega⟩
    have hb : boundsOk 0 (c : Int) ((I ps).length : Int) ((I ps).length : Int) = true := by
      rw [I_len]; simp [boundsOk]; omega
    rw [f52_l2_eq, ltI_f (by omega), cond_false, hb, List.take_of_length_le (l := q) (i := i) (by omega), Int.toNat_natCast]
    simp only [Bool.and_true, cond_true, List.drop_zero]
    rw [show List.take c (I ps) = I (ps.take c) by simp [I, List.map_take]]
    rfl
  | succ j ih =>
    intro k i hi hk
    obtain ⟨k, rfl⟩ : ∃ j, k = j + 1 := ⟨k - 1, by omega⟩
    have hi' : i < q.length := by omega
    have ih' := ih k (i + 1) (by omega) (by omega)
    rw [show ((i + 1 : Nat) : Int) = (i : Int) + 1 by omega] at ih'
    have hx := h0 _ (List.getElem_mem hi')
    have hbl : Nat.ble (((I ((q.take i).map (· - left))).length + 1) * 8) 140737488355328 = true := Nat.ble_eq_true_of_le (by rw [I_len]; simp; omega)
    rw [f52_l2_eq, ltI_t (by omega), cond_true, I_len q, inR_nat hi', cond_true, hbl, cond_true, Int.toNat_natCast, nthI hi', toInt_i, w64 (x := (i : Int) + 1) (by omega) (by omega), w64 (x := q[i] - left) (by omega) (by omega)]
    rw [← ih']
    congr 1
    rw [List.take_succ_eq_append_getElem hi']
    simp only [I, List.map_append, List.map_cons, List.map_nil]

theorem parted_l0 (run : Run) (m : Nat) (hm : 2000 ≤ m) (ps : List Int) (left : Int) (hp : ps.length ≤ 1000) (h0 : ∀ x ∈ ps, 0 ≤ x ∧ x ≤ 1000) (hl : 0 ≤ left ∧ left ≤ 1000) :
    ∀ (j k c : Nat), c + j = ps.length → j < k → (∀ x ∈ ps.take c, x < left) →
      ∃ c', c' ≤ ps.length ∧ (∀ x ∈ ps.take c', x < left) ∧ (∀ h : c' < ps.length, left ≤ ps[c']) ∧ f52_l0 run m k (I ps) left (c : Int) = some ⟨[.slice (I (ps.take c')), .slice (I ((ps.drop c').map (· - left)))], [], false⟩ := by
  have fin : ∀ (k0 c : Nat), c ≤ ps.length → f52_l2 run m k0 m (I ps) left (c : Int) [] (List.drop (Int.toNat (c : Int)) (List.take (Int.toNat ((I ps).length : Int)) (I ps))) ((List.drop (Int.toNat (c : Int)) (List.take (Int.toNat ((I ps).length : Int)) (I ps))).length : Int) 0 = some ⟨[.slice (I (ps.take c)), .slice (I ((ps.drop c).map (· - left)))], [], false⟩ := by
    intro k0 c hc
    have e : List.drop (Int.toNat (c : Int)) (List.take (Int.toNat ((I ps).length : Int)) (I ps)) = I (ps.drop c) := by
      rw [Int.toNat_natCast, Int.toNat_natCast, List.take_length]; simp [I, List.map_drop]
    rw [e, I_len]
    exact parted_l2 run m k0 ps (ps.drop c) left c hc (by simp; omega) (fun x hx => h0 x (List.mem_of_mem_drop hx)) hl (ps.drop c).length m 0 (by omega) (by simp; omega)
  intro j
  induction j with
  | zero =>
    intro k c hc hk hx
    obtain ⟨k, rfl⟩ : ∃ j, k = j + 1 := ⟨k - 1, by omega⟩
    refine ⟨c, by omega, hx, fun h => by omega, ?_⟩
    have hb : boundsOk (c : Int) ((I ps).length : Int) ((I ps).length : Int) ((I ps).length : Int) = true := by
      rw [I_len]; simp [boundsOk]; omega
    rw [f52_l0_eq, I_len ps, ltI_f (by omega), cond_false, ← I_len ps, hb]
    exact fin k c (by omega)
  | succ j ih =>
    intro k c hc hk hx
    obtain ⟨k, rfl⟩ : ∃ j, k = j + 1 := ⟨k - 1, by omega⟩
    have hc' : c < ps.length := by omega
    have hb : boundsOk (c : Int) ((I ps).length : Int) ((I ps).length : Int) ((I ps).length : Int) = true := by
      rw [I_len]; simp [boundsOk]; omega
    by_cases h : ps[c] < left
    · obtain ⟨c', h1, h2, h3, h4⟩ := ih k (c + 1) (by omega) (by omega) (by
        rw [List.take_succ_eq_append_getElem hc']
        intro x hx'
        rcases List.mem_append.1 hx' with h5 | h5
        · exact hx x h5
        · rw [List.mem_singleton.1 h5]; exact h)
      refine ⟨c', h1, h2, h3, ?_⟩
      rw [show ((c + 1 : Nat) : Int) = (c : Int) + 1 by omega] at h4
      rw [f52_l0_eq, ltI_t (a := (c : Int)) (by rw [I_len]; omega), cond_true, inR_nat (by rw [I_len]; omega), cond_true, nthI (i := Int.toNat (c : Int)) (by rw [Int.toNat_natCast]; exact hc'), toInt_i, ltI_t (by simpa using h), cond_true, w64 (by omega) (by omega)]
      exact h4
    · refine ⟨c, by omega, hx, fun _ => by omega, ?_⟩
      rw [f52_l0_eq, ltI_t (a := (c : Int)) (by rw [I_len]; omega), cond_true, inR_nat (by rw [I_len]; omega), cond_true, nthI (i := Int.toNat (c : Int)) (by rw [Int.toNat_natCast]; exact hc'), toInt_i, ltI_f (by simpa using h), cond_false, hb]
      exact fin k c (by omega)

theorem split_sorted {ps : List Int} {left : Int} {c : Nat} (hs : ps.Pairwise (· < ·)) (h1 : ∀ x ∈ ps.take c, x < left) (h2 : ∀ h : c < ps.length, left ≤ ps[c]) :
    ps.take c = ps.filter (fun x => decide (x < left)) ∧ ps.drop c = ps.filter (fun x => decide (left ≤ x)) := by
  have h3 : ∀ x ∈ ps.drop c, left ≤ x := by
    intro x hx
    by_cases hc : c < ps.length
    · rw [List.drop_eq_getElem_cons hc] at hx
      rcases List.mem_cons.1 hx with h | h
      · rw [h]; exact h2 hc
      · have hd := hs.drop (i := c)
        rw [List.drop_eq_getElem_cons hc, List.pairwise_cons] at hd
        have := hd.1 x h
        have := h2 hc
        omega
    · rw [List.drop_eq_nil_of_le (by omega)] at hx; cases hx
  have e := List.take_append_drop c ps
  constructor
  · conv => rhs; rw [← e, List.filter_append]
    rw [List.filter_eq_self.2 (fun x hx => decide_eq_true (h1 x hx)), List.filter_eq_nil_iff.2 (fun x hx => by have := h3 x hx; simp; omega), List.append_nil]
  · conv => rhs; rw [← e, List.filter_append]
    rw [List.filter_eq_self.2 (fun x hx => decide_eq_true (h3 x hx)), List.filter_eq_nil_iff.2 (fun x hx => by have := h1 x hx; simp; omega), List.nil_append]

def sub_ (P : List Int) (a b : Int) : List Int := (P.filter (inB a b)).map (· - a)

theorem sub_left {P : List Int} {a b left : Int} (hl : left ≤ b - a) : (sub_ P a b).filter (fun x => decide (x < left)) = sub_ P a (a + left) := by
  unfold sub_
  rw [List.filter_map, List.filter_filter]
  congr 1
  apply List.filter_congr
  intro x _
  simp only [inB, Function.comp]
  rw [Bool.eq_iff_iff]; simp; omega

theorem sub_right {P : List Int} {a b left : Int} (hl : 0 ≤ left) : ((sub_ P a b).filter (fun x => decide (left ≤ x))).map (· - left) = sub_ P (a + left) b := by
  unfold sub_
  rw [List.filter_map, List.filter_filter, List.map_map]
  have : (P.filter fun x => ((fun x => decide (left ≤ x)) ∘ fun x => x - a) x && inB a b x) = P.filter (inB (a + left) b) := by
    apply List.filter_congr
    intro x _
    simp only [inB, Function.comp]
    rw [Bool.eq_iff_iff]; simp; omega
  rw [this]
  apply List.map_congr_left
  intro x _
  simp only [Function.comp]; omega

theorem sub_sorted {P : List Int} (h : P.Pairwise (· < ·)) (a b : Int) : (sub_ P a b).Pairwise (· < ·) := by
  unfold sub_
  exact List.Pairwise.map _ (fun x y hxy => by omega) (h.filter _)

theorem sub_range {P : List Int} {a b : Int} : ∀ x ∈ sub_ P a b, 0 ≤ x ∧ x < b - a := by
  intro x hx
  simp only [sub_, List.mem_map, List.mem_filter, inB, Bool.and_eq_true, decide_eq_true_eq] at hx
  obtain ⟨y, ⟨_, h1, h2⟩, rfl⟩ := hx
  omega

theorem parted_runs {P : List Int} {a b left : Int} (hP : P.length ≤ 1000) (hs : P.Pairwise (· < ·)) (hb : b - a ≤ 1000) (hl : 0 ≤ left ∧ left ≤ b - a) :
    RunsX 52 [.slice (I (sub_ P a b)), .int left] ⟨[.slice (I (sub_ P a (a + left))), .slice (I (sub_ P (a + left) b))], [], false⟩ := by
  refine Evt.succ ((Evt.ge 3000).mono fun m hm => ?_)
  have hlen : (sub_ P a b).length ≤ 1000 := by
    unfold sub_; rw [List.length_map]; exact Nat.le_trans (List.length_filter_le _ _) hP
  obtain ⟨c, h1, h2, h3, h4⟩ := parted_l0 (runE G ext m) m (by omega) (sub_ P a b) left hlen (fun x hx => by have := sub_range x hx; omega) (by omega) (sub_ P a b).length m 0 (by omega) (by omega) (by simp)
  rw [f52_run, f52_eq]
  obtain ⟨e1, e2⟩ := split_sorted (sub_sorted hs a b) h2 h3
  rw [e1, e2, sub_left (by omega), sub_right (by omega)] at h4
  exact h4

theorem any_sub {P : List Int} {a b : Int} : P.any (inB a b) = !decide ((sub_ P a b).length = 0) := by
  unfold sub_
  rw [List.length_map]
  cases h : P.any (inB a b) with
  | true =>
    rw [List.any_eq_true] at h
    obtain ⟨x, hx, hx'⟩ := h
    have : x ∈ P.filter (inB a b) := List.mem_filter.2 ⟨hx, hx'⟩
    rw [dec_f (fun e => by rw [List.length_eq_zero_iff.1 e] at this; cases this)]
    rfl
  | false =>
    rw [List.any_eq_false] at h
    rw [List.filter_eq_nil_iff.2 (fun x hx => h x hx), dec_t (p := ([] : List Int).length = 0) rfl]
    rfl

set_option maxRecDepth 1000000 in
theorem multiAwake : RunsX 9 [] ⟨[.bool true], [], false⟩ := RunsX.of_eval 80 (by kernel_rfl)

end Go.Proofs.Ytncajhkogppojaa.Ev
