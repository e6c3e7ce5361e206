/- Walks down a chain. -/
import Derived.Test.YtncajhkogppojaaEvPNearV
namespace Go.Proofs.Ytncajhkogppojaa.Ev
open Go Go.RowKit

def farL (A : List AV) («to» : Int) : Nat → Nat → Int → Bool → Int × Bool
  | 0, _, b, s => (b, s)
  | j + 1, i, b, s => bif leI «to» (nth A i).toInt then (bif !s then farL A «to» j (i + 1) (nth A i).toInt true else bif ltI (nth A i).toInt b then farL A «to» j (i + 1) (nth A i).toInt true else farL A «to» j (i + 1) b s) else farL A «to» j (i + 1) b s
theorem farL_true (A : List AV) («to» : Int) : ∀ j i b, (farL A «to» j i b true).2 = true
  | 0, _, _ => rfl
  | j + 1, i, b => by
    simp only [farL]
    rw [not_t, cond_false]
    cases leI «to» (nth A i).toInt
    · exact farL_true A «to» j (i + 1) b
    · cases ltI (nth A i).toInt b
      · exact farL_true A «to» j (i + 1) b
      · exact farL_true A «to» j (i + 1) _
theorem farL_spec (A : List AV) («to» : Int) (P : Int → Prop) (hP : ∀ q, q < A.length → «to» ≤ (nth A q).toInt → P (nth A q).toInt) : ∀ j i b s, i + j = A.length → (s = true → P b) → (farL A «to» j i b s).2 = true → P (farL A «to» j i b s).1
  | 0, _, b, s, _, h, h2 => h h2
  | j + 1, i, b, s, hi, h, h2 => by
    simp only [farL] at h2 ⊢
    by_cases hc : «to» ≤ (nth A i).toInt
    · have hp := hP i (by omega) hc
      rw [leI_t hc, cond_true] at h2 ⊢
      cases s with
      | false => rw [not_f, cond_true] at h2 ⊢; exact farL_spec A «to» P hP j (i + 1) _ _ (by omega) (fun _ => hp) h2
      | true =>
        rw [not_t, cond_false] at h2 ⊢
        cases hl : ltI (nth A i).toInt b with
        | true => rw [hl, cond_true] at h2; rw [cond_true]; exact farL_spec A «to» P hP j (i + 1) _ _ (by omega) (fun _ => hp) h2
        | false => rw [hl, cond_false] at h2; rw [cond_false]; exact farL_spec A «to» P hP j (i + 1) _ _ (by omega) h h2
    · rw [leI_f hc, cond_false] at h2 ⊢
      exact farL_spec A «to» P hP j (i + 1) _ _ (by omega) h h2
theorem far_l0 (run : Run) (n : Nat) (A : List AV) («to» : Int) (hA : A.length ≤ 1000) : ∀ (j k i : Nat) (b : Int) (s : Bool), i + j = A.length → j < k →
    f80_l0 run n k «to» b s A (A.length : Int) (i : Int) = some ⟨[.int (farL A «to» j i b s).1, .bool (farL A «to» j i b s).2], [], f80_fresh⟩ := by
  intro j
  induction j with
  | zero =>
    intro k i b s hi hk
    obtain ⟨k, rfl⟩ : ∃ j, k = j + 1 := ⟨k - 1, by omega⟩
    rw [f80_l0_eq, ltI_f (by omega)]; rfl
  | succ j ih =>
    intro k i b s hi hk
    obtain ⟨k, rfl⟩ : ∃ j, k = j + 1 := ⟨k - 1, by omega⟩
    have i1 := ih k (i + 1) (nth A i).toInt true (by omega) (by omega)
    have i2 := ih k (i + 1) b s (by omega) (by omega)
    rw [show ((i + 1 : Nat) : Int) = (i : Int) + 1 by omega] at i1 i2
    simp only [farL]
    rw [f80_l0_eq, ltI_t (a := (i : Int)) (b := (A.length : Int)) (by omega), cond_true, inR_nat (by omega), cond_true, Int.toNat_natCast, w64 (by omega) (by omega), i1, i2]
    cases leI «to» (nth A i).toInt
    · rfl
    · cases s
      · rfl
      · cases ltI (nth A i).toInt b <;> rfl
theorem far_runs {A : List AV} {«to» : Int} (hA : A.length ≤ 1000) : RunsX 80 [.slice A, .int «to»] ⟨[.int (farL A «to» A.length 0 0 false).1, .bool (farL A «to» A.length 0 0 false).2], [], f80_fresh⟩ := by
  refine Evt.succ ((Evt.ge (A.length + 2)).mono fun n hn => ?_)
  rw [f80_run, f80_eq]
  exact far_l0 _ n A «to» hA A.length n 0 0 false (by omega) (by omega)

def farI (L : List AV) (x «to» : Nat) : Int := (farL (allOf L (x : Int)) («to» : Int) (allOf L (x : Int)).length 0 0 false).1
def walkL (L : List AV) («to» : Nat) : Nat → Nat → List AV
  | 0, _ => []
  | j + 1, x => if «to» < x then .int (farI L x «to») :: walkL L «to» j (farI L x «to»).toNat else []
def walkOk (L : List AV) (N «to» : Nat) : Nat → List AV → Prop
  | x, [] => x = «to»
  | x, a :: r => ∃ y : Nat, a = .int (y : Int) ∧ y < x ∧ x < N ∧ (∃ q, q < (allOf L (x : Int)).length ∧ nth (allOf L (x : Int)) q = .int (y : Int)) ∧ walkOk L N «to» y r

section
variable {t : List UInt8} {l : List AV}
theorem near_mem {x : Nat} (hok : ∀ i, i < l.length → 0 ≤ levelV (idA ((nth l i).fld 0)) t) (h1 : 1 ≤ x) (h2 : x < l.length) :
    (∀ q, q < (allOf (levsV t l) (x : Int)).length → ∃ y : Nat, nth (allOf (levsV t l) (x : Int)) q = .int (y : Int) ∧ y < x ∧ nth (vecV t l x) q = .blob (idA ((nth l y).fld 0))) ∧ (allOf (levsV t l) (x : Int)).length = (vecV t l x).length ∧ 0 < (allOf (levsV t l) (x : Int)).length ∧ nth (allOf (levsV t l) (x : Int)) 0 = .int ((x - 1 : Nat) : Int) := by
  obtain ⟨i, rfl⟩ : ∃ i, x = i + 1 := ⟨x - 1, by omega⟩
  obtain ⟨n, I⟩ := nearInv hok i (by omega)
  have ea := allOf_near (by omega) I
  have n2 := I.n2
  have n1 := I.n1
  have hlen : (allOf (levsV t l) ((i + 1 : Nat) : Int)).length = n := by rw [ea]; simp
  refine ⟨fun q hq => ?_, by rw [hlen, I.len], by omega, ?_⟩
  · rw [hlen] at hq
    have b := nearV_nonneg (L := levsV t l) (k := (q : Int)) (by rw [lev0 (by omega)]; omega) (i + 1) (by omega)
    have c := nearV_le (levsV t l) (q : Int) (i + 1)
    refine ⟨(nearV (levsV t l) (q : Int) (i + 1)).toNat, ?_, by omega, I.ent q hq⟩
    rw [ea, nth_range hq, show (((nearV (levsV t l) (q : Int) (i + 1)).toNat : Nat) : Int) = nearV (levsV t l) (q : Int) (i + 1) by omega]
  · rw [ea, nth_range (by omega), Nat.add_sub_cancel]
    have hl : ((0 : Nat) : Int) ≤ (nth (levsV t l) i).toInt := by
      by_cases h0 : i = 0
      · subst h0; rw [lev0 (by omega)]; omega
      · rw [levI (by omega) h0]; exact hok i (by omega)
    rw [show nearV (levsV t l) ((0 : Nat) : Int) (i + 1) = if ((0 : Nat) : Int) ≤ (nth (levsV t l) i).toInt then (i : Int) else nearV (levsV t l) ((0 : Nat) : Int) i from rfl, if_pos hl]
theorem far_fact {x «to» : Nat} (hok : ∀ i, i < l.length → 0 ≤ levelV (idA ((nth l i).fld 0)) t) (h1 : «to» < x) (h2 : x < l.length) :
    (farL (allOf (levsV t l) (x : Int)) («to» : Int) (allOf (levsV t l) (x : Int)).length 0 0 false).2 = true ∧ ∃ y : Nat, farI (levsV t l) x «to» = (y : Int) ∧ «to» ≤ y ∧ y < x ∧ ∃ q, q < (allOf (levsV t l) (x : Int)).length ∧ nth (allOf (levsV t l) (x : Int)) q = .int (y : Int) := by
  obtain ⟨m1, m2, m3, m4⟩ := near_mem hok (by omega) h2
  have hs : (farL (allOf (levsV t l) (x : Int)) («to» : Int) (allOf (levsV t l) (x : Int)).length 0 0 false).2 = true := by
    obtain ⟨N, hN⟩ : ∃ N, (allOf (levsV t l) (x : Int)).length = N + 1 := ⟨(allOf (levsV t l) (x : Int)).length - 1, by omega⟩
    rw [hN]
    simp only [farL]
    rw [m4]
    show (bif leI («to» : Int) ((x - 1 : Nat) : Int) then _ else _ : Int × Bool).2 = true
    rw [leI_t (by omega), cond_true, not_f, cond_true]
    exact farL_true _ _ _ _ _
  refine ⟨hs, ?_⟩
  have := farL_spec (allOf (levsV t l) (x : Int)) («to» : Int) (fun b => ∃ y : Nat, b = (y : Int) ∧ «to» ≤ y ∧ y < x ∧ ∃ q, q < (allOf (levsV t l) (x : Int)).length ∧ nth (allOf (levsV t l) (x : Int)) q = .int (y : Int)) (fun q hq hle => by
    obtain ⟨y, e1, e2, _⟩ := m1 q hq
    rw [e1] at hle ⊢
    have hle' : («to» : Int) ≤ (y : Int) := hle
    exact ⟨y, rfl, by omega, e2, q, hq, e1⟩) (allOf (levsV t l) (x : Int)).length 0 0 false (by omega) (fun h => by cases h) hs
  exact this
theorem walkL_ok (hok : ∀ i, i < l.length → 0 ≤ levelV (idA ((nth l i).fld 0)) t) {«to» : Nat} : ∀ j x, x ≤ j + «to» → «to» ≤ x → x < l.length → walkOk (levsV t l) l.length «to» x (walkL (levsV t l) «to» j x)
  | 0, x, h1, h2, _ => by show x = «to»; omega
  | j + 1, x, h1, h2, h3 => by
    simp only [walkL]
    by_cases h : «to» < x
    · rw [if_pos h]
      obtain ⟨_, y, e1, e2, e3, e4⟩ := far_fact hok h h3
      rw [e1, Int.toNat_natCast]
      exact ⟨y, rfl, e3, h3, e4, walkL_ok hok j y (by omega) e2 (by omega)⟩
    · rw [if_neg h]; show x = «to»; omega
theorem walkL_len (L : List AV) («to» : Nat) : ∀ j x, (walkL L «to» j x).length ≤ j
  | 0, _ => by simp [walkL]
  | j + 1, x => by
    simp only [walkL]
    split
    · have := walkL_len L «to» j (farI L x «to»).toNat
      simp; omega
    · simp
theorem walkOk_at {L : List AV} {N «to» : Nat} : ∀ {r : List AV} {x : Nat}, walkOk L N «to» x r → (∀ i, i < r.length → ∃ a b : Nat, nth (.int (x : Int) :: r) i = .int (a : Int) ∧ nth (.int (x : Int) :: r) (i + 1) = .int (b : Int) ∧ b < a ∧ a < N ∧ ∃ q, q < (allOf L (a : Int)).length ∧ nth (allOf L (a : Int)) q = .int (b : Int)) ∧ nth (.int (x : Int) :: r) r.length = .int («to» : Int)
  | [], x, h => ⟨fun i hi => by simp at hi, by
      have h' : x = «to» := h
      rw [h']; rfl⟩
  | a :: r, x, h => by
    obtain ⟨y, rfl, e2, e3, e4, e5⟩ := h
    obtain ⟨h1, h2⟩ := walkOk_at e5
    refine ⟨fun i hi => ?_, h2⟩
    match i, hi with
    | 0, _ => exact ⟨x, y, rfl, rfl, e2, e3, e4⟩
    | i + 1, hi => exact h1 i (by simp at hi; omega)

theorem walk_runs (hok : ∀ i, i < l.length → 0 ≤ levelV (idA ((nth l i).fld 0)) t) (hl : l.length ≤ 1000) {x «to» : Nat} (h1 : «to» ≤ x) (h2 : x < l.length) :
    RunsX 40 [.slice (levsV t l), .int (x : Int), .int («to» : Int)] ⟨[.slice (.int (x : Int) :: walkL (levsV t l) «to» x x)], [], true⟩ := by
  have hall := Evt.all l.length fun i (_ : i < l.length) => (allU_runs (l := levsV t l) (at_ := (i : Int)) (by rw [levsV_len, maxLen_eq]; omega)).and (far_runs (A := allOf (levsV t l) (i : Int)) («to» := («to» : Int)) (Nat.le_trans (allOf_len _ _) (by omega)))
  refine Evt.succ ((hall.and (Evt.ge (x + 2))).mono fun n hn => ?_)
  have key : ∀ (j k x : Nat) (acc : List AV), x ≤ j + «to» → x < l.length → j < k → acc.length + j ≤ 100000 → f40_l0 (runE G ext n) n k (levsV t l) (x : Int) («to» : Int) acc = some ⟨[.slice (acc ++ walkL (levsV t l) «to» j x)], [], true⟩ := by
    intro j
    induction j with
    | zero =>
      intro k x acc hx _ hk _
      obtain ⟨k, rfl⟩ : ∃ j, k = j + 1 := ⟨k - 1, by omega⟩
      rw [f40_l0_eq, ltI_f (by omega), cond_false]
      simp only [walkL, List.append_nil]; rfl
    | succ j ih =>
      intro k x acc hx hxl hk ha
      obtain ⟨k, rfl⟩ : ∃ j, k = j + 1 := ⟨k - 1, by omega⟩
      simp only [walkL]
      by_cases h : «to» < x
      · obtain ⟨f1, y, e1, e2, e3, e4⟩ := far_fact hok h hxl
        obtain ⟨r1, r2⟩ := hn.1 x hxl
        have ih' := ih k y (acc ++ [.int (y : Int)]) (by omega) (by omega) (by omega) (by simp; omega)
        rw [f1] at r2
        have e1' : (farL (allOf (levsV t l) (x : Int)) («to» : Int) (allOf (levsV t l) (x : Int)).length 0 0 false).1 = (y : Int) := e1
        rw [e1'] at r2
        rw [if_pos h, e1, Int.toNat_natCast, f40_l0_eq, ltI_t (by omega), cond_true, r1, step1f, toSlice_s, r2, step2, toBool_b, not_t, cond_false, toInt_i, show Nat.ble ((acc.length + 1) * 8) 140737488355328 = true from Nat.ble_eq_true_of_le (by omega), cond_true, ih', List.append_assoc]
        rfl
      · rw [if_neg h, List.append_nil, f40_l0_eq, ltI_f (by omega), cond_false]; rfl
  rw [f40_run, f40_eq, ltI_f (by omega), cond_false, ltI_f (by omega), cond_false, levsV_len, leI_f (by omega), cond_false]
  exact key x n x [.int (x : Int)] (by omega) h2 (by omega) (by simp; omega)

theorem idxV_found {A : List AV} {«to» : Int} : ∀ j i, i + j = A.length → (∃ q, i ≤ q ∧ q < A.length ∧ (nth A q).toInt = «to») → ∃ q : Nat, idxV A «to» j i = (q : Int) ∧ q < A.length ∧ (nth A q).toInt = «to»
  | 0, i, h, ⟨q, q1, q2, _⟩ => by omega
  | j + 1, i, h, ⟨q, q1, q2, q3⟩ => by
    simp only [idxV]
    by_cases hc : (nth A i).toInt = «to»
    · rw [if_pos hc]; exact ⟨i, rfl, by omega, hc⟩
    · rw [if_neg hc]
      refine idxV_found j (i + 1) (by omega) ⟨q, ?_, q2, q3⟩
      by_cases he : q = i
      · rw [he] at q3; exact absurd q3 hc
      · omega
end

set_option maxRecDepth 1000000 in
theorem downAwake : RunsX 39 [] ⟨[.bool true], [], false⟩ := RunsX.of_eval 300 (by kernel_rfl)
section
variable {gh : Int} {gl gt : List UInt8} {gn : Int} {t : List UInt8} {c1 c2 c3 c4 c5 c6 : Int}
theorem downChain_runs {l : List AV} (ht : t.length = 32) (hc0 : Blocks0 l) (hc : l.length ≤ maxLen) :
    RunsX 7 [Cfg gh gl gt gn t c1 c2 c3 c4 c5 c6, .slice l] ⟨[.bool true], [], false⟩ := by
  obtain ⟨b, hb, hm⟩ := mu24_runs hc0 hc
  cases b with
  | true =>
    refine Evt.succ ((hm.and downAwake).mono fun n hn => ?_)
    rw [f7_run, f7_eq, hn.1, step1, toBool_b, cond_true, hn.2]; rfl
  | false =>
  obtain ⟨h24, hB⟩ := hb rfl
  have r1 := chainCheck_runs (gh := gh) (gl := gl) (gt := gt) (gn := gn) (t := t) (c1 := c1) (c2 := c2) (c3 := c3) (c4 := c4) (c5 := c5) (c6 := c6) (l := l) ht hB
  by_cases hz : ((chainV gh gl gt gn t l).fld 0).toInt = 0
  case neg =>
    refine Evt.succ (((hm.and downAwake).and r1).mono fun n hn => ?_)
    obtain ⟨⟨g1, g2⟩, g3⟩ := hn
    rw [f7_run, f7_eq, g1, step1, toBool_b, cond_false, g3, step1, eqI_f hz, not_f, cond_true, g2]; rfl
  obtain ⟨z1, z2, z3⟩ := chainV_zero' hz
  have hlev := chain_levels z3
  have hA := Evt.all l.length fun i (_ : i < l.length) => allU_runs (l := levsV t l) (at_ := (i : Int)) (by rw [levsV_len]; exact hc)
  have hI := Evt.all l.length fun i (_ : i < l.length) => Evt.all l.length fun j (_ : j < l.length) => idxU_runs (l := levsV t l) (at_ := (i : Int)) («to» := (j : Int)) (by rw [levsV_len]; exact hc)
  have hW := Evt.all l.length fun i (hi : i < l.length) => Evt.all (i + 1) fun j (hj : j < i + 1) => walk_runs hlev (by omega) (x := i) («to» := j) (by omega) hi
  refine Evt.succ ((((hm.and downAwake).and (r1.and (chainIds_runs (l := l) (by omega) hB.heads))).and (((levels_runs (t := t) (l := l) ht (by omega) hB.heads).and (vectors_runs (t := t) (l := l) ht (by omega) hB.heads)).and ((hA.and hI).and (hW.and (Evt.ge 1000))))).mono fun n hn => ?_)
  obtain ⟨⟨⟨g1, g2⟩, g3, g4⟩, ⟨g5, g6⟩, ⟨g7, g8⟩, g9, g10⟩ := hn
  have k4 : ∀ (x «to» k0 k2 : Nat), «to» ≤ x → x < l.length → (f7_l2 (runE G ext n) n k0 k2 l (idsV l) (levsV t l) (vecsV t l (l.length + 1)) (x : Int) ((«to» : Int) + 1) = some ⟨[.bool true], [], false⟩) →
      ∀ (j k i : Nat), i + j = (walkL (levsV t l) «to» x x).length → j < k → f7_l4 (runE G ext n) n k0 k2 k l (idsV l) (levsV t l) (vecsV t l (l.length + 1)) (x : Int) («to» : Int) (.int (x : Int) :: walkL (levsV t l) «to» x x) ((i : Int) + 1) = some ⟨[.bool true], [], false⟩ := by
    intro x «to» k0 k2 h1 h2 hnext
    obtain ⟨w1, _⟩ := walkOk_at (walkL_ok hlev x x (by omega) h1 h2)
    have wl := walkL_len (levsV t l) «to» x x
    generalize walkL (levsV t l) «to» x x = r at w1 wl
    have hwl : ((.int (x : Int) :: r : List AV)).length = r.length + 1 := rfl
    intro j
    induction j with
    | zero =>
      intro k i hi hk
      obtain ⟨k, rfl⟩ : ∃ j, k = j + 1 := ⟨k - 1, by omega⟩
      rw [f7_l4_eq, hwl, ltI_f (by omega), cond_false, w64 (by omega) (by omega)]
      exact hnext
    | succ j ih =>
      intro k i hi hk
      obtain ⟨k, rfl⟩ : ∃ j, k = j + 1 := ⟨k - 1, by omega⟩
      have ih' := ih k (i + 1) (by omega) (by omega)
      rw [show ((i + 1 : Nat) : Int) = (i : Int) + 1 by omega] at ih'
      obtain ⟨a, b, a1, a2, a3, a4, q, q1, q2⟩ := w1 i (by omega)
      obtain ⟨m1, m2, m3, _⟩ := near_mem hlev (show 1 ≤ a by omega) a4
      obtain ⟨p, p1, p2, p3⟩ := idxV_found (A := allOf (levsV t l) (a : Int)) («to» := (b : Int)) (allOf (levsV t l) (a : Int)).length 0 (by omega) ⟨q, by omega, q1, by rw [q2]; rfl⟩
      obtain ⟨y, y1, y2, y3⟩ := m1 p p2
      have hyb : y = b := by
        rw [y1] at p3
        have : (y : Int) = (b : Int) := p3
        omega
      subst hyb
      have ei := g8 a a4 y (by omega)
      rw [p1] at ei
      have b1 : (nth (.int (x : Int) :: r) i).toInt = (a : Int) := by rw [a1]; rfl
      have b2 : (nth (.int (x : Int) :: r) (i + 1)).toInt = (y : Int) := by rw [a2]; rfl
      rw [f7_l4_eq, hwl, ltI_t (a := (i : Int) + 1) (by omega), cond_true, w64 (x := (i : Int) + 1 - 1) (by omega) (by omega), show (i : Int) + 1 - 1 = (i : Int) by omega, inR_nat (i := i) (by omega), cond_true, show (i : Int) + 1 = ((i + 1 : Nat) : Int) by omega, inR_nat (i := i + 1) (by omega), cond_true, Int.toNat_natCast, Int.toNat_natCast, b1, b2, ei, step1, toInt_i, cond_true, cond_true, leI_f (by omega), cond_false, ltI_f (by omega), cond_false, vecsV_len, inR_nat (i := a) (n := l.length + 1) (by omega), cond_true, Int.toNat_natCast, vecsV_nth t l (by omega), toSlice_s, ← m2, leI_f (by omega), cond_false, cond_true, cond_true, inR_nat p2, cond_true, cond_true, idsV_len, inR_nat (i := y) (by omega), cond_true, Int.toNat_natCast, Int.toNat_natCast, y3, toBlob_b, idsV_nth l (by omega), toBlob_b, eqS_t rfl, not_t, cond_false, g7 a a4, step1f, toSlice_s, leI_f (by omega), cond_false, w64 (x := ((i + 1 : Nat) : Int) + 1) (by omega) (by omega), show ((i + 1 : Nat) : Int) + 1 = (i : Int) + 1 + 1 by omega]
      exact ih'
  have k2 : ∀ (x k0 : Nat), x < l.length → (f7_l0 (runE G ext n) n k0 l (idsV l) (levsV t l) (vecsV t l (l.length + 1)) ((x : Int) + 1) = some ⟨[.bool true], [], false⟩) →
      ∀ (j k «to» : Nat), «to» + j = x + 1 → j < k → f7_l2 (runE G ext n) n k0 k l (idsV l) (levsV t l) (vecsV t l (l.length + 1)) (x : Int) («to» : Int) = some ⟨[.bool true], [], false⟩ := by
    intro x k0 hx hnext j
    induction j with
    | zero =>
      intro k «to» hi hk
      obtain ⟨k, rfl⟩ : ∃ j, k = j + 1 := ⟨k - 1, by omega⟩
      rw [f7_l2_eq, leI_f (by omega), cond_false, w64 (by omega) (by omega)]
      exact hnext
    | succ j ih =>
      intro k «to» hi hk
      obtain ⟨k, rfl⟩ : ∃ j, k = j + 1 := ⟨k - 1, by omega⟩
      have ih' := ih k («to» + 1) (by omega) (by omega)
      rw [show ((«to» + 1 : Nat) : Int) = («to» : Int) + 1 by omega] at ih'
      have h4 := k4 x «to» k0 k (by omega) hx ih' (walkL (levsV t l) «to» x x).length n 0 (by omega) (by have := walkL_len (levsV t l) «to» x x; omega)
      obtain ⟨_, wlast⟩ := walkOk_at (walkL_ok hlev x x (by omega) (show «to» ≤ x by omega) hx)
      have wl := walkL_len (levsV t l) «to» x x
      have hwl : ((.int (x : Int) :: walkL (levsV t l) «to» x x : List AV)).length = (walkL (levsV t l) «to» x x).length + 1 := rfl
      have n0 : (nth (.int (x : Int) :: walkL (levsV t l) «to» x x) 0).toInt = (x : Int) := rfl
      have nl : (nth (.int (x : Int) :: walkL (levsV t l) «to» x x) (walkL (levsV t l) «to» x x).length).toInt = («to» : Int) := by rw [wlast]; rfl
      rw [f7_l2_eq, leI_t (by omega), cond_true, g9 x hx «to» (by omega), step1f, toSlice_s, hwl, eqI_f (by omega), cond_false, inR_int (i := 0) (by omega) (by omega), cond_true, n0, eqI_t rfl, not_t, cond_false, w64 (x := (((walkL (levsV t l) «to» x x).length + 1 : Nat) : Int) - 1) (by omega) (by omega), show (((walkL (levsV t l) «to» x x).length + 1 : Nat) : Int) - 1 = (((walkL (levsV t l) «to» x x).length : Nat) : Int) by omega, inR_nat (by omega), cond_true, Int.toNat_natCast, nl, eqI_t rfl, not_t, cond_false]
      exact h4
  have k0 : ∀ (j k x : Nat), x + j = l.length → j < k → f7_l0 (runE G ext n) n k l (idsV l) (levsV t l) (vecsV t l (l.length + 1)) (x : Int) = some ⟨[.bool true], [], false⟩ := by
    intro j
    induction j with
    | zero =>
      intro k x hi hk
      obtain ⟨k, rfl⟩ : ∃ j, k = j + 1 := ⟨k - 1, by omega⟩
      rw [f7_l0_eq, ltI_f (by omega), cond_false, g2]; rfl
    | succ j ih =>
      intro k x hi hk
      obtain ⟨k, rfl⟩ : ∃ j, k = j + 1 := ⟨k - 1, by omega⟩
      have ih' := ih k (x + 1) (by omega) (by omega)
      rw [show ((x + 1 : Nat) : Int) = (x : Int) + 1 by omega] at ih'
      rw [f7_l0_eq, ltI_t (by omega), cond_true]
      exact k2 x k (by omega) ih' (x + 1) n 0 (by omega) (by omega)
  rw [f7_run, f7_eq, g1, step1, toBool_b, cond_false, g3, step1, eqI_t hz, not_t, cond_false, g4, step1f, toSlice_s, g5, step1f, toSlice_s, g6, step1f, toSlice_s]
  exact k0 l.length n 0 (by omega) (by omega)
end
theorem downChain_sat (xs : List AV) (h : Ty.HasL [.struct [.struct [.int .u32, .blob 32, .blob 32, .int .u64], .blob 32, .int .i64, .int .i64, .int .i64, .int .i64, .int .i64, .int .i64], .slice (.struct [.struct [.int .u32, .blob 32, .blob 32, .int .u64], .slice .str])] xs) : ∃ r, r.vals = [.bool true] ∧ Sat Try.prog f7_info 7 xs r := by
  obtain ⟨x, r, rfl, hx, y, r2, rfl, ⟨l, rfl, hl, _, hy⟩, rfl⟩ := h
  obtain ⟨gh, gl, gt, gn, t, c1, c2, c3, c4, c5, c6, rfl, ht, _⟩ := cfg_of hx
  exact ⟨_, rfl, sat_of_runsX (by kernel_rfl) (downChain_runs ht (blocks0_of hy) hl)⟩

end Go.Proofs.Ytncajhkogppojaa.Ev
