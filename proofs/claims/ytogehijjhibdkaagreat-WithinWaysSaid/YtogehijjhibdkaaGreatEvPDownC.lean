/- Walks down a chain. -/
import Derived.Test.YtogehijjhibdkaaGreatEvPNearV
namespace Go.Proofs.YtogehijjhibdkaaGreat.Ev
open Go Go.RowKit

theorem far_runs {A : List AV} {«to» : Int} (hA : A.length ≤ 1000) : RunsX 96 [.slice A, .int «to»] ⟨[.int (farL A «to» A.length 0 0 false).1, .bool (farL A «to» A.length 0 0 false).2], [], f96_fresh⟩ := by
  refine Evt.succ ((Evt.ge (A.length + 2)).mono fun n hn => ?_)
  rw [f96_run, f96_eq]
  exact far_l0 _ n A «to» hA A.length n 0 0 false (by omega) (by omega)

def farI (L : List AV) (x «to» : Nat) : Int := (farL (allOf L (x : Int)) («to» : Int) (allOf L (x : Int)).length 0 0 false).1
def walkL (L : List AV) («to» : Nat) : Nat → Nat → List AV
  | 0, _ => []
  | j + 1, x => if «to» < x then .int (farI L x «to») :: walkL L «to» j (farI L x «to»).toNat else []
def walkOk (L : List AV) (N «to» : Nat) : Nat → List AV → Prop
  | x, [] => x = «to»
  | x, a :: r => ∃ y : Nat, a = .int (y : Int) ∧ y < x ∧ x < N ∧ (∃ q, q < (allOf L (x : Int)).length ∧ nth (allOf L (x : Int)) q = .int (y : Int)) ∧ walkOk L N «to» y r

section
variable {t : List UInt8} {l : List AV}
theorem near_mem {x : Nat} (hok : ∀ i, i < l.length → 0 ≤ levelV (idA ((nth l i).fld 0)) t) (h1 : 1 ≤ x) (h2 : x < l.length) :
    (∀ q, q < (allOf (levsV t l) (x : Int)).length → ∃ y : Nat, nth (allOf (levsV t l) (x : Int)) q = .int (y : Int) ∧ y < x ∧ nth (vecV t l x) q = .blob (idA ((nth l y).fld 0))) ∧ (allOf (levsV t l) (x : Int)).length = (vecV t l x).length ∧ 0 < (allOf (levsV t l) (x : Int)).length ∧ nth (allOf (levsV t l) (x : Int)) 0 = .int ((x - 1 : Nat) : Int) := by
  obtain ⟨i, rfl⟩ : ∃ i, x = i + 1 := ⟨x - 1, by omega⟩
  obtain ⟨n, I⟩ := nearInv hok i (by omega)
  have ea := allOf_near (by omega) I
  have n2 := I.n2
  have n1 := I.n1
  have hlen : (allOf (levsV t l) ((i + 1 : Nat) : Int)).length = n := by rw [ea]; simp
  refine ⟨fun q hq => ?_, by rw [hlen, I.len], by omega, ?_⟩
  · rw [hlen] at hq
    have b := nearV_nonneg (L := levsV t l) (k := (q : Int)) (by rw [lev0 (by omega)]; omega) (i + 1) (by omega)
    have c := nearV_le (levsV t l) (q : Int) (i + 1)
    refine ⟨(nearV (levsV t l) (q : Int) (i + 1)).toNat, ?_, by omega, I.ent q hq⟩
    rw [ea, nth_range hq, show (((nearV (levsV t l) (q : Int) (i + 1)).toNat : Nat) : Int) = nearV (levsV t l) (q : Int) (i + 1) by omega]
  · rw [ea, nth_range (by omega), Nat.add_sub_cancel]
    have hl : ((0 : Nat) : Int) ≤ (nth (levsV t l) i).toInt := by
      by_cases h0 : i = 0
      · subst h0; rw [lev0 (by omega)]; omega
      · rw [levI (by omega) h0]; exact hok i (by omega)
    rw [show nearV (levsV t l) ((0 : Nat) : Int) (i + 1) = if ((0 : Nat) : Int) ≤ (nth (levsV t l) i).toInt then (i : Int) else nearV (levsV t l) ((0 : Nat) : Int) i from rfl, if_pos hl]
theorem far_fact {x «to» : Nat} (hok : ∀ i, i < l.length → 0 ≤ levelV (idA ((nth l i).fld 0)) t) (h1 : «to» < x) (h2 : x < l.length) :
    (farL (allOf (levsV t l) (x : Int)) («to» : Int) (allOf (levsV t l) (x : Int)).length 0 0 false).2 = true ∧ ∃ y : Nat, farI (levsV t l) x «to» = (y : Int) ∧ «to» ≤ y ∧ y < x ∧ ∃ q, q < (allOf (levsV t l) (x : Int)).length ∧ nth (allOf (levsV t l) (x : Int)) q = .int (y : Int) := by
  obtain ⟨m1, m2, m3, m4⟩ := near_mem hok (by omega) h2
  have hs : (farL (allOf (levsV t l) (x : Int)) («to» : Int) (allOf (levsV t l) (x : Int)).length 0 0 false).2 = true := by
    obtain ⟨N, hN⟩ : ∃ N, (allOf (levsV t l) (x : Int)).length = N + 1 := ⟨(allOf (levsV t l) (x : Int)).length - 1, by omega⟩
    rw [hN]
    simp only [farL]
    rw [m4]
    show (bif leI («to» : Int) ((x - 1 : Nat) : Int) then _ else _ : Int × Bool).2 = true
    rw [leI_t (by omega), cond_true, not_f, cond_true]
    exact farL_true _ _ _ _ _
  refine ⟨hs, ?_⟩
  have := farL_spec (allOf (levsV t l) (x : Int)) («to» : Int) (fun b => ∃ y : Nat, b = (y : Int) ∧ «to» ≤ y ∧ y < x ∧ ∃ q, q < (allOf (levsV t l) (x : Int)).length ∧ nth (allOf (levsV t l) (x : Int)) q = .int (y : Int)) (fun q hq hle => by
    obtain ⟨y, e1, e2, _⟩ := m1 q hq
    rw [e1] at hle ⊢
    have hle' : («to» : Int) ≤ (y : Int) := hle
    exact ⟨y, rfl, by omega, e2, q, hq, e1⟩) (allOf (levsV t l) (x : Int)).length 0 0 false (by omega) (fun h => by cases h) hs
  exact this
theorem walkL_ok (hok : ∀ i, i < l.length → 0 ≤ levelV (idA ((nth l i).fld 0)) t) {«to» : Nat} : ∀ j x, x ≤ j + «to» → «to» ≤ x → x < l.length → walkOk (levsV t l) l.length «to» x (walkL (levsV t l) «to» j x)
  | 0, x, h1, h2, _ => by show x = «to»; omega
  | j + 1, x, h1, h2, h3 => by
    simp only [walkL]
    by_cases h : «to» < x
    · rw [if_pos h]
      obtain ⟨_, y, e1, e2, e3, e4⟩ := far_fact hok h h3
      rw [e1, Int.toNat_natCast]
      exact ⟨y, rfl, e3, h3, e4, walkL_ok hok j y (by omega) e2 (by omega)⟩
    · rw [if_neg h]; show x = «to»; omega
theorem walkL_len (L : List AV) («to» : Nat) : ∀ j x, (walkL L «to» j x).length ≤ j
  | 0, _ => by simp [walkL]
  | j + 1, x => by
    simp only [walkL]
    split
    · have := walkL_len L «to» j (farI L x «to»).toNat
      simp; omega
    · simp
theorem walkOk_at {L : List AV} {N «to» : Nat} : ∀ {r : List AV} {x : Nat}, walkOk L N «to» x r → (∀ i, i < r.length → ∃ a b : Nat, nth (.int (x : Int) :: r) i = .int (a : Int) ∧ nth (.int (x : Int) :: r) (i + 1) = .int (b : Int) ∧ b < a ∧ a < N ∧ ∃ q, q < (allOf L (a : Int)).length ∧ nth (allOf L (a : Int)) q = .int (b : Int)) ∧ nth (.int (x : Int) :: r) r.length = .int («to» : Int)
  | [], x, h => ⟨fun i hi => by simp at hi, by
      have h' : x = «to» := h
      rw [h']; rfl⟩
  | a :: r, x, h => by
    obtain ⟨y, rfl, e2, e3, e4, e5⟩ := h
    obtain ⟨h1, h2⟩ := walkOk_at e5
    refine ⟨fun i hi => ?_, h2⟩
    match i, hi with
    | 0, _ => exact ⟨x, y, rfl, rfl, e2, e3, e4⟩
    | i + 1, hi => exact h1 i (by simp at hi; omega)

theorem walk_runs (hok : ∀ i, i < l.length → 0 ≤ levelV (idA ((nth l i).fld 0)) t) (hl : l.length ≤ 1000) {x «to» : Nat} (h1 : «to» ≤ x) (h2 : x < l.length) :
    RunsX 58 [.slice (levsV t l), .int (x : Int), .int («to» : Int)] ⟨[.slice (.int (x : Int) :: walkL (levsV t l) «to» x x)], [], true⟩ := by
  have hall := Evt.all l.length fun i (_ : i < l.length) => (allU_runs (l := levsV t l) (at_ := (i : Int)) (by rw [levsV_len, maxLen_eq]; omega)).and (far_runs (A := allOf (levsV t l) (i : Int)) («to» := («to» : Int)) (Nat.le_trans (allOf_len _ _) (by omega)))
  refine Evt.succ ((hall.and (Evt.ge (x + 2))).mono fun n hn => ?_)
  have key : ∀ (j k x : Nat) (acc : List AV), x ≤ j + «to» → x < l.length → j < k → acc.length + j ≤ 100000 → f58_l0 (runE G ext n) n k (levsV t l) (x : Int) («to» : Int) acc = some ⟨[.slice (acc ++ walkL (levsV t l) «to» j x)], [], true⟩ := by
    intro j
    induction j with
    | zero =>
      intro k x acc hx _ hk _
      obtain ⟨k, rfl⟩ : ∃ j, k = j + 1 := ⟨k - 1, by omega⟩
      rw [f58_l0_eq, ltI_f (by omega), cond_false]
      simp only [walkL, List.append_nil]; rfl
    | succ j ih =>
      intro k x acc hx hxl hk ha
      obtain ⟨k, rfl⟩ : ∃ j, k = j + 1 := ⟨k - 1, by omega⟩
      simp only [walkL]
      by_cases h : «to» < x
      · obtain ⟨f1, y, e1, e2, e3, e4⟩ := far_fact hok h hxl
        obtain ⟨r1, r2⟩ := hn.1 x hxl
        have ih' := ih k y (acc ++ [.int (y : Int)]) (by omega) (by omega) (by omega) (by simp; omega)
        rw [f1] at r2
        have e1' : (farL (allOf (levsV t l) (x : Int)) («to» : Int) (allOf (levsV t l) (x : Int)).length 0 0 false).1 = (y : Int) := e1
        rw [e1'] at r2
        rw [if_pos h, e1, Int.toNat_natCast, f58_l0_eq, ltI_t (by omega), cond_true, r1, step1f, toSlice_s, r2, step2, toBool_b, not_t, cond_false, toInt_i, show Nat.ble ((acc.length + 1) * 8) 140737488355328 = true from Nat.ble_eq_true_of_le (by omega), cond_true, ih', List.append_assoc]
        rfl
      · rw [if_neg h, List.append_nil, f58_l0_eq, ltI_f (by omega), cond_false]; rfl
  rw [f58_run, f58_eq, ltI_f (by omega), cond_false, ltI_f (by omega), cond_false, levsV_len, leI_f (by omega), cond_false]
  exact key x n x [.int (x : Int)] (by omega) h2 (by omega) (by simp; omega)

theorem idxV_found {A : List AV} {«to» : Int} : ∀ j i, i + j = A.length → (∃ q, i ≤ q ∧ q < A.length ∧ (nth A q).toInt = «to») → ∃ q : Nat, idxV A «to» j i = (q : Int) ∧ q < A.length ∧ (nth A q).toInt = «to»
  | 0, i, h, ⟨q, q1, q2, _⟩ => by omega
  | j + 1, i, h, ⟨q, q1, q2, q3⟩ => by
    simp only [idxV]
    by_cases hc : (nth A i).toInt = «to»
    · rw [if_pos hc]; exact ⟨i, rfl, by omega, hc⟩
    · rw [if_neg hc]
      refine idxV_found j (i + 1) (by omega) ⟨q, ?_, q2, q3⟩
      by_cases he : q = i
      · rw [he] at q3; exact absurd q3 hc
      · omega
end

section
variable {gh : Int} {gl gt : List UInt8} {gn : Int} {t : List UInt8} {c1 c2 c3 c4 c5 c6 : Int}
end
end Go.Proofs.YtogehijjhibdkaaGreat.Ev
