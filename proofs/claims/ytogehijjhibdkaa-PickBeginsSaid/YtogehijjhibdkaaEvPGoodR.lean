/- Good levels: the reference tells the same. -/
import Derived.Test.YtogehijjhibdkaaEvPGood
namespace Go.Proofs.Ytogehijjhibdkaa.Ev
open Go Go.RowKit

theorem refMayR_runs {a b : Int} : RunsX 18 [.int a, .int b] ⟨[.bool (mayR a b)], [], false⟩ := by
  refine Evt.succ (.of fun n => ?_)
  unfold mayR
  rw [f18_run, f18_eq]
  by_cases h1 : 0 < a
  · rw [ltI_t h1, cond_true, decide_eq_true h1]
    by_cases h2 : a < b
    · rw [ltI_t h2, cond_true, decide_eq_true h2]; rfl
    · rw [ltI_f h2, cond_false, decide_eq_false h2]; rfl
  · rw [ltI_f h1, cond_false, decide_eq_false h1]; rfl

theorem refCmp_bad {n of_ : Nat} {up a b : Int} (h : ¬ (mayR a b = true ∧ 0 ≤ up ∧ up ≤ 255)) : RunsX 32 [.int (n : Int), .int (of_ : Int), .int up, .int a, .int b] ⟨[.int (cmpR n of_ up a b)], [], false⟩ := by
  have e : cmpR n of_ up a b = 2 := by unfold cmpR; rw [if_neg h]
  rw [e]
  refine Evt.succ ((refMayR_runs (a := a) (b := b)).mono fun m hm => ?_)
  rw [f32_run, f32_eq, hm, step1, toBool_b]
  cases hM : mayR a b with
  | false => rfl
  | true =>
    rw [not_t, cond_false]
    by_cases h0 : up < 0
    · rw [ltI_t h0]; rfl
    · rw [ltI_f h0, cond_false, ltI_t (by
        rw [hM] at h
        have : ¬ (0 ≤ up ∧ up ≤ 255) := fun k => h ⟨rfl, k⟩
        omega)]; rfl

theorem refCmp_small {n of_ : Nat} {up a b : Int} (hn : n < 65536) (ho : of_ < 65536) (hup : up ≤ 16 ∨ 255 < up) : RunsX 32 [.int (n : Int), .int (of_ : Int), .int up, .int a, .int b] ⟨[.int (cmpR n of_ up a b)], [], false⟩ := by
  by_cases h : mayR a b = true ∧ 0 ≤ up ∧ up ≤ 255
  case neg => exact refCmp_bad h
  obtain ⟨m1, m2, m3⟩ := mayR_iff.1 h.1
  obtain ⟨bn, rfl⟩ : ∃ bn : Nat, b = (bn : Int) := ⟨b.toNat, by omega⟩
  obtain ⟨dn, hd⟩ : ∃ dn : Nat, (bn : Int) - a = (dn : Int) := ⟨((bn : Int) - a).toNat, by omega⟩
  obtain ⟨u, rfl⟩ : ∃ u : Nat, up = (u : Int) := ⟨up.toNat, by omega⟩
  have hu : u ≤ 16 := by omega
  have h1 : n * bn ≤ 65535 * 65536 := Nat.mul_le_mul (by omega) (by omega)
  have h2 : of_ * dn ≤ 65535 * 65536 := Nat.mul_le_mul (by omega) (by omega)
  have h3 : 2 ^ u ≤ 65536 := by
    calc 2 ^ u ≤ 2 ^ 16 := Nat.pow_le_pow_right (by omega) hu
      _ = 65536 := by decide
  have h4 : n * bn * 2 ^ u ≤ 65535 * 65536 * 65536 := Nat.mul_le_mul h1 h3
  have e1 : IntKind.wrap .i64 (IntKind.wrap .i64 (n : Int) * (bn : Int)) = ((n * bn : Nat) : Int) := by
    rw [w64 (x := (n : Int)) (by omega) (by omega), show (n : Int) * (bn : Int) = ((n * bn : Nat) : Int) by push_cast; rfl, w64 (by omega) (by omega)]
  have e2 : IntKind.wrap .i64 (((n * bn : Nat) : Int) * 2 ^ (min (Int.toNat (u : Int)) 64)) = ((n * bn * 2 ^ u : Nat) : Int) := by
    rw [Int.toNat_natCast, show min u 64 = u by omega, show (((n * bn : Nat) : Int) * 2 ^ u) = ((n * bn * 2 ^ u : Nat) : Int) by push_cast; rfl, w64 (by omega) (by omega)]
  have e3 : IntKind.wrap .i64 (IntKind.wrap .i64 (of_ : Int) * IntKind.wrap .i64 ((bn : Int) - a)) = ((of_ * dn : Nat) : Int) := by
    rw [hd, w64 (x := (of_ : Int)) (by omega) (by omega), w64 (x := (dn : Int)) (by omega) (by omega), show (of_ : Int) * (dn : Int) = ((of_ * dn : Nat) : Int) by push_cast; rfl, w64 (by omega) (by omega)]
  have e : cmpR n of_ (u : Int) a (bn : Int) = cmpN (n * bn * 2 ^ u) (of_ * dn) := by
    unfold cmpR; rw [if_pos h, Int.toNat_natCast, hd, Int.toNat_natCast, Int.toNat_natCast]
  rw [e]
  refine Evt.succ ((refMayR_runs (a := a) (b := (bn : Int))).mono fun m hm => ?_)
  rw [f32_run, f32_eq, hm, step1, toBool_b, h.1, not_t, cond_false, ltI_f (by omega), cond_false, ltI_f (by omega), cond_false, ltI_t (by omega), cond_true, ltI_t (by omega), cond_true, leI_t (by omega), cond_true, leI_t (by omega), cond_true, e1, e2, e3]
  unfold cmpN
  by_cases c1 : of_ * dn < n * bn * 2 ^ u
  · rw [ltI_t (by omega), cond_true, if_neg (by omega), if_pos c1]; rfl
  · rw [ltI_f (by omega), cond_false]
    by_cases c2 : n * bn * 2 ^ u < of_ * dn
    · rw [ltI_t (by omega), cond_true, if_pos c2]; rfl
    · rw [ltI_f (by omega), cond_false, if_neg c2, if_neg c1]; rfl

/-- The reference's comparison is known where good levels ask for it. -/
def CmpAt (lv a b : Int) : Prop := ∀ n of_ : Nat, n ≤ 1024 → of_ ≤ 1024 → ∀ up : Int, (up = lv ∨ (1 ≤ up ∧ up ≤ lv ∧ lv ≤ 255)) → RunsX 32 [.int (n : Int), .int (of_ : Int), .int up, .int a, .int b] ⟨[.int (cmpR n of_ up a b)], [], false⟩
theorem cmpAt_small {lv a b : Int} (h : lv ≤ 16 ∨ 255 < lv) : CmpAt lv a b := by
  intro n of_ hn ho up hu
  by_cases h1 : up ≤ 16 ∨ 255 < up
  · exact refCmp_small (by omega) (by omega) h1
  · exact refCmp_bad (by omega)

/- counts -/
theorem count_runs {X : List AV} {lv : Int} (hX : X.length ≤ 100000) : RunsX 30 [.slice X, .int lv] ⟨[.int ((cntV X lv X.length : Nat) : Int)], [], false⟩ := by
  refine Evt.succ ((Evt.ge (X.length + 2)).mono fun n hn => ?_)
  have key : ∀ (j k i : Nat), i + j = X.length → j < k → f30_l0 (runE G ext n) n k X lv ((cntV X lv i : Nat) : Int) (i : Int) = some ⟨[.int ((cntV X lv X.length : Nat) : Int)], [], false⟩ := by
    intro j
    induction j with
    | zero =>
      intro k i hi hk
      obtain ⟨k, rfl⟩ : ∃ j, k = j + 1 := ⟨k - 1, by omega⟩
      rw [f30_l0_eq, ltI_f (by omega), cond_false, show i = X.length by omega]; rfl
    | succ j ih =>
      intro k i hi hk
      obtain ⟨k, rfl⟩ : ∃ j, k = j + 1 := ⟨k - 1, by omega⟩
      have ih' := ih k (i + 1) (by omega) (by omega)
      have hc := cntV_le X lv i
      rw [f30_l0_eq, ltI_t (by omega), cond_true, inR_nat (by omega), cond_true, Int.toNat_natCast, w64 (x := (i : Int) + 1) (by omega) (by omega), show (i : Int) + 1 = ((i + 1 : Nat) : Int) by omega]
      by_cases h : lv ≤ (nth X i).toInt
      · have ec : cntV X lv (i + 1) = cntV X lv i + 1 := if_pos h
        rw [leI_t h, cond_true, w64 (by omega) (by omega), show ((cntV X lv i : Nat) : Int) + 1 = ((cntV X lv (i + 1) : Nat) : Int) by omega, ih']
      · have ec : cntV X lv (i + 1) = cntV X lv i := if_neg h
        rw [leI_f h, cond_false, ← ec, ih']
  rw [f30_run, f30_eq]
  exact key X.length n 0 (by omega) (by omega)

theorem lev_part (L : List AV) (i k j : Nat) (h : i + j < k) : lev ((L.take k).drop i) j = lev L (i + j) := by
  unfold lev nth
  rw [List.getD_eq_getElem?_getD, List.getD_eq_getElem?_getD, List.getElem?_drop, List.getElem?_take, if_pos h]
theorem cntV_part (L : List AV) (lv : Int) (i k : Nat) : ∀ j, i + j ≤ k → cntV ((L.take k).drop i) lv j + cntV L lv i = cntV L lv (i + j)
  | 0, _ => by show 0 + _ = _; rw [Nat.zero_add]; rfl
  | j + 1, h => by
    have ih := cntV_part L lv i k j (by omega)
    have e := lev_part L i k j (by omega)
    rw [show cntV ((L.take k).drop i) lv (j + 1) = if lv ≤ lev ((L.take k).drop i) j then cntV ((L.take k).drop i) lv j + 1 else cntV ((L.take k).drop i) lv j from rfl, show cntV L lv (i + (j + 1)) = if lv ≤ lev L (i + j) then cntV L lv (i + j) + 1 else cntV L lv (i + j) from rfl, e]
    split <;> omega
theorem part_len (L : List AV) {i k : Nat} (h1 : i ≤ k) (h2 : k ≤ L.length) : ((L.take k).drop i).length = k - i := by simp; omega
theorem part_runs {L : List AV} {lv : Int} {i k : Nat} (hL : L.length ≤ 100000) (h1 : i ≤ k) (h2 : k ≤ L.length) : RunsX 30 [.slice (List.drop i (List.take k L)), .int lv] ⟨[.int ((cntV L lv k - cntV L lv i : Nat) : Int)], [], false⟩ := by
  have h := count_runs (X := (L.take k).drop i) (lv := lv) (by rw [part_len L h1 h2]; omega)
  rw [part_len L h1 h2] at h
  have e := cntV_part L lv i k (k - i) (by omega)
  rw [show i + (k - i) = k by omega] at e
  rw [show cntV L lv k - cntV L lv i = cntV ((L.take k).drop i) lv (k - i) by omega]
  exact h

theorem refPlaces_runs {L : List AV} {s lv : Int} (hL : L.length ≤ 100000) : RunsX 16 [.slice L, .int s, .int lv] ⟨[.slice (hitL L s.toNat lv)], [], true⟩ := by
  refine Evt.succ ((Evt.ge (L.length + 2)).mono fun n hn => ?_)
  have key : ∀ (j k i : Nat), i + j = L.length → j < k → f16_l0 (runE G ext n) n k L s lv ((hitN L s.toNat lv i).map fun (j : Nat) => AV.int (j : Int)) (i : Int) = some ⟨[.slice (hitL L s.toNat lv)], [], true⟩ := by
    intro j
    induction j with
    | zero =>
      intro k i hi hk
      obtain ⟨k, rfl⟩ : ∃ j, k = j + 1 := ⟨k - 1, by omega⟩
      rw [f16_l0_eq, ltI_f (by omega), cond_false, show i = L.length by omega]; rfl
    | succ j ih =>
      intro k i hi hk
      obtain ⟨k, rfl⟩ : ∃ j, k = j + 1 := ⟨k - 1, by omega⟩
      have ih' := ih k (i + 1) (by omega) (by omega)
      rw [hitN_succ] at ih'
      have hle := hitN_len L s.toNat lv i
      rw [f16_l0_eq, ltI_t (by omega), cond_true, w64 (x := (i : Int) + 1) (by omega) (by omega), show (i : Int) + 1 = ((i + 1 : Nat) : Int) by omega, inR_nat (by omega), cond_true, Int.toNat_natCast]
      by_cases h1 : s ≤ (i : Int)
      · rw [leI_t h1, cond_true]
        by_cases h : lv ≤ (nth L i).toInt
        · rw [if_pos ⟨by omega, h⟩, List.map_append] at ih'
          rw [leI_t h, cond_true, Nat.ble_eq_true_of_le (by rw [List.length_map]; omega), cond_true]
          exact ih'
        · rw [if_neg (fun k => h k.2), List.append_nil] at ih'
          rw [leI_f h, cond_false, ih']
      · rw [if_neg (by omega), List.append_nil] at ih'
        rw [leI_f h1, cond_false, ih']
  rw [f16_run, f16_eq]
  exact key L.length n 0 (by omega) (by omega)

theorem refLocal_runs {n of_ : Nat} {lv a b : Int} (hC : CmpAt lv a b) (hn : n ≤ 100000) (ho : of_ ≤ 100000) : RunsX 31 [.int (n : Int), .int (of_ : Int), .int lv, .int a, .int b] ⟨[.bool (localV n of_ lv a b)], [], false⟩ := by
  have u1 : IntKind.wrap .u32 (n : Int) = (n : Int) := by rw [wrap32]; omega
  have u2 : IntKind.wrap .u32 (of_ : Int) = (of_ : Int) := by rw [wrap32]; omega
  unfold localV
  by_cases h1 : n ≤ 1024
  · by_cases h2 : of_ ≤ 1024
    · refine Evt.succ ((hC n of_ h1 h2 lv (.inl rfl)).mono fun m h => ?_)
      rw [f31_run, f31_eq, leI_t (by omega), cond_true, leI_t (by omega), cond_true, u1, u2, leI_t (by omega), cond_true, leI_t (by omega), cond_true, decide_eq_true h1, decide_eq_true h2, h, step1, toInt_i]; rfl
    · refine Evt.succ (.of fun m => ?_)
      rw [f31_run, f31_eq, leI_t (by omega), cond_true, leI_t (by omega), cond_true, leI_t (by omega), cond_true, leI_f (by omega), cond_false, decide_eq_false h2, Bool.and_false]; rfl
  · refine Evt.succ (.of fun m => ?_)
    rw [f31_run, f31_eq, leI_t (by omega), cond_true, leI_f (by omega), cond_false, decide_eq_false h1]; rfl

theorem refSuper_runs {L : List AV} {lv m a b : Int} (hC : CmpAt lv a b) (hL : L.length ≤ 100000) : RunsX 24 [.slice L, .int lv, .int m, .int a, .int b] ⟨[.bool (superV L lv m a b)], [], false⟩ := by
  unfold superV
  by_cases h1 : 1024 < L.length
  · refine Evt.succ (.of fun n => ?_)
    rw [f24_run, f24_eq, ltI_t (by omega), decide_eq_true h1]; rfl
  have hall := Evt.all 1025 fun x (hx : x < 1025) => Evt.all 1025 fun y (hy : y < 1025) => refLocal_runs (n := x) (of_ := y) (lv := lv) (a := a) (b := b) hC (by omega) (by omega)
  have hcnt := Evt.all L.length fun i (hi : i < L.length) => part_runs (L := L) (lv := lv) (i := i) (k := L.length) hL (by omega) (by omega)
  refine Evt.succ ((hcnt.and (hall.and (Evt.ge 2000))).mono fun n hn => ?_)
  obtain ⟨g1, g2, g3⟩ := hn
  have key : ∀ (j k i : Nat), i + j = L.length → j < k → f24_l0 (runE G ext n) n k L lv (max m 1) a b (i : Int) = some ⟨[.bool (allN (endP L lv (max m 1) a b L.length) j i)], [], false⟩ := by
    intro j
    induction j with
    | zero =>
      intro k i hi hk
      obtain ⟨k, rfl⟩ : ∃ j, k = j + 1 := ⟨k - 1, by omega⟩
      rw [f24_l0_eq, ltI_f (by omega), cond_false]; rfl
    | succ j ih =>
      intro k i hi hk
      obtain ⟨k, rfl⟩ : ∃ j, k = j + 1 := ⟨k - 1, by omega⟩
      have ih' := ih k (i + 1) (by omega) (by omega)
      have hb : boundsOk (i : Int) (L.length : Int) (L.length : Int) (L.length : Int) = true := by unfold boundsOk; simp; omega
      have hc1 := cntV_mono L lv (i := i) (k := L.length) (by omega)
      have hc2 := cntV_le L lv L.length
      rw [f24_l0_eq, ltI_t (by omega), cond_true, hb, Bool.and_true, cond_true, Int.toNat_natCast, Int.toNat_natCast, g1 i (by omega), step1, toInt_i, inR_nat (by omega), cond_true, part_len L (by omega) (Nat.le_refl _), g2 (cntV L lv L.length - cntV L lv i) (by omega) (L.length - i) (by omega), step1, toBool_b, w64 (x := (i : Int) + 1) (by omega) (by omega), show (i : Int) + 1 = ((i + 1 : Nat) : Int) by omega, ih']
      rw [show allN (endP L lv (max m 1) a b L.length) (j + 1) i = bif endP L lv (max m 1) a b L.length i then allN (endP L lv (max m 1) a b L.length) j (i + 1) else false from rfl]
      unfold endP
      rw [show (decide (lv ≤ lev L i)) = leI lv (nth L i).toInt from rfl]
      cases leI lv (nth L i).toInt with
      | false => rfl
      | true =>
        rw [Bool.true_and, cond_true]
        cases leI (max m 1) ((cntV L lv L.length - cntV L lv i : Nat) : Int) with
        | false => rfl
        | true =>
          rw [cond_true, cond_true]
          cases localV (cntV L lv L.length - cntV L lv i) (L.length - i) lv a b <;> rfl
  rw [f24_run, f24_eq, ltI_f (by omega), cond_false, decide_eq_false h1, cond_false]
  by_cases hm : m < 1
  · have k := key L.length n 0 (by omega) (by omega)
    rw [show max m 1 = 1 by omega] at k ⊢
    rw [ltI_t hm, cond_true]
    exact k
  · have k := key L.length n 0 (by omega) (by omega)
    rw [show max m 1 = m by omega] at k ⊢
    rw [ltI_f hm, cond_false]
    exact k

theorem refMulti_runs {L : List AV} {lv m a b : Int} (hC : CmpAt lv a b) (hL : L.length ≤ 100000) : RunsX 25 [.slice L, .int lv, .int m, .int a, .int b] ⟨[.bool (multiV L lv m a b)], [], false⟩ := by
  unfold multiV
  by_cases h1 : 1024 < L.length
  · refine Evt.succ (.of fun n => ?_)
    rw [f25_run, f25_eq, ltI_t (by omega), decide_eq_true h1]; rfl
  by_cases h2 : 255 < lv
  · refine Evt.succ (.of fun n => ?_)
    rw [f25_run, f25_eq, ltI_f (by omega), decide_eq_false h1, ltI_t h2, decide_eq_true h2]; rfl
  have hcmp := Evt.all lv.toNat fun low (hlow : low < lv.toNat) => Evt.all 1025 fun x (hx : x < 1025) => Evt.all 1025 fun y (hy : y < 1025) => hC x y (by omega) (by omega) (lv - (low : Int)) (.inr (by omega))
  have hcnt := Evt.all (L.length + 1) fun i (hi : i < L.length + 1) => Evt.all (L.length + 1) fun k (hk : k < L.length + 1) => Evt.all 256 fun low (_ : low < 256) => (show Evt fun n => i ≤ k → runE G ext n 30 [.slice (List.drop i (List.take k L)), .int (low : Int)] = some ⟨[.int ((cntV L (low : Int) k - cntV L (low : Int) i : Nat) : Int)], [], false⟩ ∧ runE G ext n 30 [.slice (List.drop i (List.take k L)), .int lv] = some ⟨[.int ((cntV L lv k - cntV L lv i : Nat) : Int)], [], false⟩ from by
    by_cases hik : i ≤ k
    · exact ((part_runs (L := L) (lv := (low : Int)) (i := i) (k := k) hL hik (by omega)).and (part_runs (L := L) (lv := lv) (i := i) (k := k) hL hik (by omega))).mono fun n h _ => h
    · exact .of fun n h => absurd h hik)
  refine Evt.succ ((hcmp.and (hcnt.and (Evt.ge 3000))).mono fun n hn => ?_)
  obtain ⟨g1, g2, g3⟩ := hn
  have k4 : ∀ (low i : Nat) (rest : Bool) (k0 k2 : Nat), low < lv.toNat → i ≤ L.length → f25_l2 (runE G ext n) n k0 k2 L lv (max m 1) a b (low : Int) ((i + 1 : Nat) : Int) = some ⟨[.bool rest], [], false⟩ →
      ∀ (j k4 k : Nat), k + j = L.length + 1 → i < k → j < k4 → f25_l4 (runE G ext n) n k0 k2 k4 L lv (max m 1) a b (low : Int) (i : Int) (k : Int) = some ⟨[.bool (allN (strP L lv (low : Int) (max m 1) a b i) j k && rest)], [], false⟩ := by
    intro low i rest k0 k2 hlow hi hrest j
    induction j with
    | zero =>
      intro k4 k hk _ hk4
      obtain ⟨k4, rfl⟩ : ∃ j, k4 = j + 1 := ⟨k4 - 1, by omega⟩
      rw [f25_l4_eq, leI_f (by omega), cond_false, w64 (by omega) (by omega), show (i : Int) + 1 = ((i + 1 : Nat) : Int) by omega, hrest]
      rfl
    | succ j ih =>
      intro k4 k hk hik hk4
      obtain ⟨k4, rfl⟩ : ∃ j, k4 = j + 1 := ⟨k4 - 1, by omega⟩
      have ih' := ih k4 (k + 1) (by omega) (by omega) (by omega)
      have hb : boundsOk (i : Int) (k : Int) (L.length : Int) (L.length : Int) = true := by unfold boundsOk; simp; omega
      obtain ⟨q1, q2⟩ := g2 i (by omega) k (by omega) low (by omega) (by omega)
      have c1 := cntV_mono L lv (i := i) (k := k) (by omega)
      have c2 := cntV_mono L (low : Int) (i := i) (k := k) (by omega)
      have c3 := cntV_le L lv k
      have c4 := cntV_le L (low : Int) k
      have u1 : IntKind.wrap .u32 ((cntV L lv k - cntV L lv i : Nat) : Int) = ((cntV L lv k - cntV L lv i : Nat) : Int) := by rw [wrap32]; omega
      have u2 : IntKind.wrap .u32 ((cntV L (low : Int) k - cntV L (low : Int) i : Nat) : Int) = ((cntV L (low : Int) k - cntV L (low : Int) i : Nat) : Int) := by rw [wrap32]; omega
      rw [f25_l4_eq, leI_t (by omega), cond_true, hb, Bool.and_true, cond_true, Int.toNat_natCast, Int.toNat_natCast, q1, step1, toInt_i, cond_true, q2, step1, toInt_i, u1, u2, w64 (x := lv - (low : Int)) (by omega) (by omega), g1 low hlow (cntV L lv k - cntV L lv i) (by omega) (cntV L (low : Int) k - cntV L (low : Int) i) (by omega), step1, toInt_i, w64 (x := (k : Int) + 1) (by omega) (by omega), show (k : Int) + 1 = ((k + 1 : Nat) : Int) by omega, ih']
      rw [show allN (strP L lv (low : Int) (max m 1) a b i) (j + 1) k = bif strP L lv (low : Int) (max m 1) a b i k then allN (strP L lv (low : Int) (max m 1) a b i) j (k + 1) else false from rfl]
      unfold strP
      by_cases hM : max m 1 ≤ ((cntV L (low : Int) k - cntV L (low : Int) i : Nat) : Int)
      · rw [ltI_f (by omega), cond_false, leI_t hM, cond_true]
        cases eqI (cmpR (cntV L lv k - cntV L lv i) (cntV L (low : Int) k - cntV L (low : Int) i) (lv - (low : Int)) a b) 0 <;> cases eqI (cmpR (cntV L lv k - cntV L lv i) (cntV L (low : Int) k - cntV L (low : Int) i) (lv - (low : Int)) a b) 1 <;> rfl
      · rw [ltI_t (by omega), cond_true, leI_f hM]; rfl
  have k2 : ∀ (low : Nat) (rest : Bool) (k0 : Nat), low < lv.toNat → f25_l0 (runE G ext n) n k0 L lv (max m 1) a b ((low + 1 : Nat) : Int) = some ⟨[.bool rest], [], false⟩ →
      ∀ (j k i : Nat), i + j = L.length → j < k → f25_l2 (runE G ext n) n k0 k L lv (max m 1) a b (low : Int) (i : Int) = some ⟨[.bool (allN (fun i => allN (strP L lv (low : Int) (max m 1) a b i) (L.length - i) (i + 1)) j i && rest)], [], false⟩ := by
    intro low rest k0 hlow hrest j
    induction j with
    | zero =>
      intro k i hi hk
      obtain ⟨k, rfl⟩ : ∃ j, k = j + 1 := ⟨k - 1, by omega⟩
      rw [f25_l2_eq, ltI_f (by omega), cond_false, w64 (by omega) (by omega), show (low : Int) + 1 = ((low + 1 : Nat) : Int) by omega, hrest]; rfl
    | succ j ih =>
      intro k i hi hk
      obtain ⟨k, rfl⟩ : ∃ j, k = j + 1 := ⟨k - 1, by omega⟩
      have ih' := ih k (i + 1) (by omega) (by omega)
      rw [f25_l2_eq, ltI_t (by omega), cond_true, w64 (x := (i : Int) + 1) (by omega) (by omega), show (i : Int) + 1 = ((i + 1 : Nat) : Int) by omega, k4 low i _ k0 k hlow (by omega) ih' (L.length - i) n (i + 1) (by omega) (by omega) (by omega)]
      rw [show allN (fun i => allN (strP L lv (low : Int) (max m 1) a b i) (L.length - i) (i + 1)) (j + 1) i = bif allN (strP L lv (low : Int) (max m 1) a b i) (L.length - i) (i + 1) then allN (fun i => allN (strP L lv (low : Int) (max m 1) a b i) (L.length - i) (i + 1)) j (i + 1) else false from rfl]
      cases allN (strP L lv (low : Int) (max m 1) a b i) (L.length - i) (i + 1) <;> rfl
  have k0 : ∀ (j k low : Nat), low + j = lv.toNat → j < k → f25_l0 (runE G ext n) n k L lv (max m 1) a b (low : Int) = some ⟨[.bool (allN (fun low : Nat => strV L lv (low : Int) (max m 1) a b L.length) j low)], [], false⟩ := by
    intro j
    induction j with
    | zero =>
      intro k low hi hk
      obtain ⟨k, rfl⟩ : ∃ j, k = j + 1 := ⟨k - 1, by omega⟩
      rw [f25_l0_eq, ltI_f (by omega), cond_false]; rfl
    | succ j ih =>
      intro k low hi hk
      obtain ⟨k, rfl⟩ : ∃ j, k = j + 1 := ⟨k - 1, by omega⟩
      have h := k2 low _ k (by omega) (ih k (low + 1) (by omega) (by omega)) L.length n 0 (by omega) (by omega)
      rw [f25_l0_eq, ltI_t (by omega), cond_true]
      refine h.trans ?_
      rw [show allN (fun low : Nat => strV L lv (low : Int) (max m 1) a b L.length) (j + 1) low = bif strV L lv (low : Int) (max m 1) a b L.length then allN (fun low : Nat => strV L lv (low : Int) (max m 1) a b L.length) j (low + 1) else false from rfl]
      show some (⟨[.bool (strV L lv (low : Int) (max m 1) a b L.length && _)], [], false⟩ : Res) = _
      cases strV L lv (low : Int) (max m 1) a b L.length <;> rfl
  rw [f25_run, f25_eq, ltI_f (by omega), cond_false, decide_eq_false h1, cond_false, ltI_f h2, cond_false, decide_eq_false h2, cond_false]
  by_cases hm : m < 1
  · have k := k0 lv.toNat n 0 (by omega) (by omega)
    rw [show max m 1 = 1 by omega] at k ⊢
    rw [ltI_t hm, cond_true]
    exact k
  · have k := k0 lv.toNat n 0 (by omega) (by omega)
    rw [show max m 1 = m by omega] at k ⊢
    rw [ltI_f hm, cond_false]
    exact k

theorem refGood_runs {L : List AV} {lv m a b : Int} (hC : CmpAt lv a b) (hL : L.length ≤ 100000) : RunsX 20 [.slice L, .int lv, .int m, .int a, .int b] ⟨[.bool (goodV L lv m a b)], [], false⟩ := by
  refine Evt.succ (((refSuper_runs (L := L) (lv := lv) (m := m) (a := a) (b := b) hC hL).and (refMulti_runs (L := L) (lv := lv) (m := m) (a := a) (b := b) hC hL)).mono fun n h => ?_)
  obtain ⟨h1, h2⟩ := h
  unfold goodV
  rw [f20_run, f20_eq, h1, step1, toBool_b]
  cases superV L lv m a b with
  | false => rfl
  | true => rw [cond_true, h2, step1, toBool_b]; rfl

end Go.Proofs.Ytogehijjhibdkaa.Ev
