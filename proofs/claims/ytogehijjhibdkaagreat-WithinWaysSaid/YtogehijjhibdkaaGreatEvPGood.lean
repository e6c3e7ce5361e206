/- Good levels: what the program tells, and the reference. -/
import Derived.Test.YtogehijjhibdkaaGreatEvPLarge
import Derived.Test.YtogehijjhibdkaaGreatEvExtS
namespace Go.Proofs.YtogehijjhibdkaaGreat.Ev
open Go Go.RowKit

def lev (L : List AV) (i : Nat) : Int := (nth L i).toInt
/-- How many of a level, or above, stand ahead of a place. -/
def cntV (L : List AV) (lv : Int) : Nat → Nat
  | 0 => 0
  | k + 1 => if lv ≤ lev L k then cntV L lv k + 1 else cntV L lv k
theorem cntV_le (L : List AV) (lv : Int) : ∀ k, cntV L lv k ≤ k
  | 0 => Nat.le_refl _
  | k + 1 => by
    have := cntV_le L lv k
    simp only [cntV]
    split <;> omega
theorem cntV_step (L : List AV) (lv : Int) (k : Nat) : cntV L lv k ≤ cntV L lv (k + 1) ∧ cntV L lv (k + 1) ≤ cntV L lv k + 1 := by
  simp only [cntV]
  split <;> omega
theorem cntV_mono (L : List AV) (lv : Int) {i : Nat} : ∀ {k : Nat}, i ≤ k → cntV L lv i ≤ cntV L lv k ∧ cntV L lv k ≤ cntV L lv i + (k - i)
  | 0, h => by obtain rfl : i = 0 := by omega
               exact ⟨Nat.le_refl _, by omega⟩
  | k + 1, h => by
    by_cases e : i = k + 1
    · subst e; exact ⟨Nat.le_refl _, by omega⟩
    · have := cntV_mono L lv (i := i) (k := k) (by omega)
      have := cntV_step L lv k
      omega

/-- All of some in a row. -/
def allN (P : Nat → Bool) : Nat → Nat → Bool
  | 0, _ => true
  | j + 1, i => bif P i then allN P j (i + 1) else false
theorem allN_iff {P : Nat → Bool} : ∀ {j i : Nat}, allN P j i = true ↔ ∀ x, i ≤ x → x < i + j → P x = true
  | 0, i => by
    constructor
    · intro _ x h1 h2; omega
    · intro _; rfl
  | j + 1, i => by
    simp only [allN]
    constructor
    · intro h x h1 h2
      cases hp : P i with
      | false => rw [hp] at h; cases h
      | true =>
        rw [hp, cond_true] at h
        by_cases e : x = i
        · rw [e]; exact hp
        · exact allN_iff.1 h x (by omega) (by omega)
    · intro h
      rw [h i (Nat.le_refl _) (by omega), cond_true]
      exact allN_iff.2 fun x h1 h2 => h x (by omega) (by omega)
theorem allN_congr {P Q : Nat → Bool} : ∀ {j i : Nat}, (∀ x, i ≤ x → x < i + j → P x = Q x) → allN P j i = allN Q j i
  | 0, _, _ => rfl
  | j + 1, i, h => by
    simp only [allN]
    rw [h i (Nat.le_refl _) (by omega), allN_congr fun x h1 h2 => h x (by omega) (by omega)]
theorem allN_snoc {P : Nat → Bool} : ∀ {j i : Nat}, allN P (j + 1) i = (allN P j i && P (i + j))
  | 0, i => by simp only [allN]; cases P i <;> rfl
  | j + 1, i => by
    rw [show allN P (j + 1 + 1) i = bif P i then allN P (j + 1) (i + 1) else false from rfl, allN_snoc, show allN P (j + 1) i = bif P i then allN P j (i + 1) else false from rfl]
    cases P i
    · rfl
    · rw [cond_true, cond_true, show i + 1 + j = i + (j + 1) by omega]

theorem fst_int (x : Int) : (AV.int x).toInt = x := rfl

/- the counts -/
def cntL (L : List AV) (lv : Int) (N : Nat) : List AV := (List.range (N + 1)).map fun j => .int ((cntV L lv j : Nat) : Int)
def cntSt (L : List AV) (lv : Int) (N i : Nat) : List AV := (List.range (N + 1)).map fun j => if j ≤ i then .int ((cntV L lv j : Nat) : Int) else .int 0
theorem nth_rng {m i : Nat} {f : Nat → AV} (h : i < m) : nth ((List.range m).map f) i = f i := by
  rw [nth_lt (by simpa using h)]; simp
theorem set_rng (m i : Nat) (f : Nat → AV) (v : AV) : ((List.range m).map f).set i v = (List.range m).map (fun j => if j = i then v else f j) := by
  apply List.ext_getElem
  · simp
  · intro j h1 h2
    simp [List.getElem_set]
    by_cases h : i = j
    · simp [h]
    · rw [if_neg h, if_neg (Ne.symm h)]
theorem cntL_len (L : List AV) (lv : Int) (N : Nat) : (cntL L lv N).length = N + 1 := by simp [cntL]
theorem cntL_nth (L : List AV) (lv : Int) {N i : Nat} (h : i < N + 1) : (nth (cntL L lv N) i).toInt = ((cntV L lv i : Nat) : Int) := by
  unfold cntL; rw [nth_rng h]; rfl
theorem cntSt_set (L : List AV) (lv : Int) (N i : Nat) (_ : i < N) : (cntSt L lv N i).set (i + 1) (.int ((cntV L lv (i + 1) : Nat) : Int)) = cntSt L lv N (i + 1) := by
  unfold cntSt
  rw [set_rng]
  congr 1
  funext j
  by_cases e : j = i + 1
  · subst e; rw [if_pos rfl, if_pos (Nat.le_refl _)]
  · rw [if_neg e]
    by_cases e2 : j ≤ i
    · rw [if_pos e2, if_pos (by omega)]
    · rw [if_neg e2, if_neg (by omega)]
theorem cntSt_zero (L : List AV) (lv : Int) (N : Nat) : cntSt L lv N 0 = List.replicate (N + 1) (.int 0) := by
  unfold cntSt
  apply List.ext_getElem
  · simp
  · intro j h1 h2
    simp
    intro h
    subst h
    rfl
theorem cntSt_all (L : List AV) (lv : Int) (N : Nat) : cntSt L lv N N = cntL L lv N := by
  unfold cntSt cntL
  apply List.map_congr_left
  intro j hj
  rw [if_pos (by have := List.mem_range.1 hj; omega)]

theorem counts_runs {L : List AV} {lv : Int} (hL : L.length ≤ 100000) : RunsX 147 [.slice L, .int lv] ⟨[.slice (cntL L lv L.length)], [], f147_fresh⟩ := by
  refine Evt.succ ((Evt.ge (L.length + 2)).mono fun m hm => ?_)
  have e1 : IntKind.wrap .i64 ((L.length : Int) + 1) = ((L.length + 1 : Nat) : Int) := by rw [w64 (by omega) (by omega)]; omega
  have key : ∀ (j k i : Nat), i + j = L.length → j < k → f147_l0 (runE G ext m) m k lv (L.length + 1) L (L.length : Int) (i : Int) (cntSt L lv L.length i) = some ⟨[.slice (cntL L lv L.length)], [], f147_fresh⟩ := by
    intro j
    induction j with
    | zero =>
      intro k i hi hk
      obtain ⟨k, rfl⟩ : ∃ j, k = j + 1 := ⟨k - 1, by omega⟩
      rw [f147_l0_eq, ltI_f (by omega), cond_false, show i = L.length by omega, cntSt_all, List.drop_zero, List.take_of_length_le (by rw [cntL_len]; omega)]
    | succ j ih =>
      intro k i hi hk
      obtain ⟨k, rfl⟩ : ∃ j, k = j + 1 := ⟨k - 1, by omega⟩
      have hf : (AV.fld (.agg (cntSt L lv L.length i)) (0 + i)).toInt = ((cntV L lv i : Nat) : Int) := by
        unfold AV.fld cntSt
        rw [toAgg_a, Nat.zero_add, nth_rng (by omega), if_pos (Nat.le_refl _)]; rfl
      have hf2 : (AV.fld (.agg ((cntSt L lv L.length i).set (0 + (i + 1)) (.int ((cntV L lv i : Nat) : Int)))) (0 + (i + 1))).toInt = ((cntV L lv i : Nat) : Int) := by
        unfold AV.fld cntSt
        rw [toAgg_a, Nat.zero_add, set_rng, nth_rng (by omega), if_pos rfl]; rfl
      have hc := cntV_le L lv i
      rw [f147_l0_eq, ltI_t (by omega), cond_true, inR_nat (by omega), cond_true, inR_nat (by omega), cond_true, w64 (x := (i : Int) + 1) (by omega) (by omega), show (i : Int) + 1 = ((i + 1 : Nat) : Int) by omega, inR_nat (by omega), cond_true, cond_true, cond_true, Int.toNat_natCast, Int.toNat_natCast, hf, hf2, w64 (x := ((cntV L lv i : Nat) : Int) + 1) (by omega) (by omega)]
      by_cases h : lv ≤ (nth L i).toInt
      · have ec : cntV L lv (i + 1) = cntV L lv i + 1 := if_pos h
        rw [leI_t h, cond_true, List.set_set, Nat.zero_add, show ((cntV L lv i : Nat) : Int) + 1 = ((cntV L lv (i + 1) : Nat) : Int) by omega, cntSt_set L lv L.length i (by omega)]
        exact ih k (i + 1) (by omega) (by omega)
      · have ec : cntV L lv (i + 1) = cntV L lv i := if_neg h
        rw [leI_f h, cond_false, Nat.zero_add, ← ec, cntSt_set L lv L.length i (by omega)]
        exact ih k (i + 1) (by omega) (by omega)
  rw [f147_run, f147_eq, e1, eqI_t rfl, leI_t (by omega), Int.toNat_natCast, Nat.ble_eq_true_of_le (show (L.length + 1) * 8 ≤ 140737488355328 by omega), ← cntSt_zero L lv]
  exact key L.length m 0 (by omega) (by omega)

/- stretches -/
/-- What is asked of a stretch. -/
def strP (L : List AV) (lv low : Int) (M : Int) (a b : Int) (i k : Nat) : Bool :=
  bif leI M ((cntV L low k - cntV L low i : Nat) : Int) then (eqI (cmpR (cntV L lv k - cntV L lv i) (cntV L low k - cntV L low i) (lv - low) a b) 1 || eqI (cmpR (cntV L lv k - cntV L lv i) (cntV L low k - cntV L low i) (lv - low) a b) 0) else true
def strV (L : List AV) (lv low M a b : Int) (N : Nat) : Bool := allN (fun i => allN (strP L lv low M a b i) (N - i) (i + 1)) N 0

theorem stretches_runs {L : List AV} {lv low M a b : Int} (hL : L.length ≤ 1024) : RunsX 148 [.slice (cntL L lv L.length), .slice (cntL L low L.length), .int (lv - low), .int M, .int a, .int b] ⟨[.bool (strV L lv low M a b L.length)], [], false⟩ := by
  have hall := Evt.all 1025 fun x (hx : x < 1025) => Evt.all 1025 fun y (hy : y < 1025) => (ratioAbove_runs (n := x) (of_ := y) (up := lv - low) (a := a) (b := b) (by omega) (by omega)).2
  refine Evt.succ ((hall.and (Evt.ge (L.length + 3))).mono fun m hm => ?_)
  obtain ⟨hm, hn⟩ := hm
  have k2 : ∀ (i : Nat) (rest : Bool) (k0 : Nat), i ≤ L.length → f148_l0 (runE G ext m) m k0 (cntL L lv L.length) (cntL L low L.length) (lv - low) M a b ((L.length + 1 : Nat) : Int) ((i + 1 : Nat) : Int) = some ⟨[.bool rest], [], false⟩ →
      ∀ (j k2 k : Nat), k + j = L.length + 1 → i < k → j < k2 → f148_l2 (runE G ext m) m k0 k2 (cntL L lv L.length) (cntL L low L.length) (lv - low) M a b (i : Int) (k : Int) ((L.length + 1 : Nat) : Int) (i : Int) = some ⟨[.bool (allN (strP L lv low M a b i) j k && rest)], [], false⟩ := by
    intro i rest k0 hi hrest j
    induction j with
    | zero =>
      intro k2 k hk _ hk2
      obtain ⟨k2, rfl⟩ : ∃ j, k2 = j + 1 := ⟨k2 - 1, by omega⟩
      rw [f148_l2_eq, cntL_len, ltI_f (by omega), cond_false, w64 (by omega) (by omega), show (i : Int) + 1 = ((i + 1 : Nat) : Int) by omega, hrest]
      rfl
    | succ j ih =>
      intro k2 k hk hik hk2
      obtain ⟨k2, rfl⟩ : ∃ j, k2 = j + 1 := ⟨k2 - 1, by omega⟩
      have ih' := ih k2 (k + 1) (by omega) (by omega) (by omega)
      have c1 := cntV_mono L lv (i := i) (k := k) (by omega)
      have c2 := cntV_mono L low (i := i) (k := k) (by omega)
      have c3 := cntV_le L lv k
      have c4 := cntV_le L low k
      have e1 : ((cntV L low k : Nat) : Int) - ((cntV L low i : Nat) : Int) = ((cntV L low k - cntV L low i : Nat) : Int) := by omega
      have e2 : ((cntV L lv k : Nat) : Int) - ((cntV L lv i : Nat) : Int) = ((cntV L lv k - cntV L lv i : Nat) : Int) := by omega
      rw [f148_l2_eq, cntL_len, cntL_len, ltI_t (by omega), cond_true, inR_nat (by omega), cond_true, inR_nat (by omega), cond_true, cond_true, cond_true, Int.toNat_natCast, Int.toNat_natCast, cntL_nth L lv (by omega), cntL_nth L lv (by omega), cntL_nth L low (by omega), cntL_nth L low (by omega), e1, e2, w64 (x := ((cntV L low k - cntV L low i : Nat) : Int)) (by omega) (by omega), w64 (x := ((cntV L lv k - cntV L lv i : Nat) : Int)) (by omega) (by omega), w64 (x := (k : Int) + 1) (by omega) (by omega), show (k : Int) + 1 = ((k + 1 : Nat) : Int) by omega, ih']
      have u1 : IntKind.wrap .u32 ((cntV L lv k - cntV L lv i : Nat) : Int) = ((cntV L lv k - cntV L lv i : Nat) : Int) := by rw [wrap32]; omega
      have u2 : IntKind.wrap .u32 ((cntV L low k - cntV L low i : Nat) : Int) = ((cntV L low k - cntV L low i : Nat) : Int) := by rw [wrap32]; omega
      rw [u1, u2, hm (cntV L lv k - cntV L lv i) (by omega) (cntV L low k - cntV L low i) (by omega), step1, toBool_b]
      rw [show allN (strP L lv low M a b i) (j + 1) k = bif strP L lv low M a b i k then allN (strP L lv low M a b i) j (k + 1) else false from rfl]
      unfold strP
      cases leI M ((cntV L low k - cntV L low i : Nat) : Int) with
      | false => rfl
      | true =>
        rw [cond_true, cond_true]
        cases (eqI (cmpR (cntV L lv k - cntV L lv i) (cntV L low k - cntV L low i) (lv - low) a b) 1 || eqI (cmpR (cntV L lv k - cntV L lv i) (cntV L low k - cntV L low i) (lv - low) a b) 0) <;> rfl
  have k0 : ∀ (j k i : Nat), i + j = L.length + 1 → j < k → f148_l0 (runE G ext m) m k (cntL L lv L.length) (cntL L low L.length) (lv - low) M a b ((L.length + 1 : Nat) : Int) (i : Int) = some ⟨[.bool (allN (fun i => allN (strP L lv low M a b i) (L.length - i) (i + 1)) j i)], [], false⟩ := by
    intro j
    induction j with
    | zero =>
      intro k i hi hk
      obtain ⟨k, rfl⟩ : ∃ j, k = j + 1 := ⟨k - 1, by omega⟩
      rw [f148_l0_eq, ltI_f (by omega), cond_false]; rfl
    | succ j ih =>
      intro k i hi hk
      obtain ⟨k, rfl⟩ : ∃ j, k = j + 1 := ⟨k - 1, by omega⟩
      rw [f148_l0_eq, ltI_t (by omega), cond_true, w64 (by omega) (by omega), show (i : Int) + 1 = ((i + 1 : Nat) : Int) by omega]
      rw [k2 i _ k (by omega) (ih k (i + 1) (by omega) (by omega)) (L.length - i) m (i + 1) (by omega) (by omega) (by omega)]
      rw [show allN (fun i => allN (strP L lv low M a b i) (L.length - i) (i + 1)) (j + 1) i = bif allN (strP L lv low M a b i) (L.length - i) (i + 1) then allN (fun i => allN (strP L lv low M a b i) (L.length - i) (i + 1)) j (i + 1) else false from rfl]
      cases allN (strP L lv low M a b i) (L.length - i) (i + 1) <;> rfl
  have hs : allN (fun i => allN (strP L lv low M a b i) (L.length - i) (i + 1)) (L.length + 1) 0 = strV L lv low M a b L.length := by
    rw [allN_snoc, Nat.zero_add, Nat.sub_self]
    show (_ && true) = _
    rw [Bool.and_true]; rfl
  have hk := k0 (L.length + 1) m 0 (by omega) (by omega)
  rw [hs] at hk
  rw [f148_run, f148_eq, cntL_len]
  exact hk

def multiV (L : List AV) (lv m a b : Int) : Bool :=
  bif decide (1024 < L.length) then false else bif decide (255 < lv) then false else allN (fun low : Nat => strV L lv (low : Int) (max m 1) a b L.length) lv.toNat 0
theorem multi_runs {L : List AV} {lv m a b : Int} (hm0 : -9223372036854775808 ≤ lv) (hL : L.length ≤ maxLen) : RunsX 118 [.slice L, .int lv, .int m, .int a, .int b] ⟨[.bool (multiV L lv m a b)], [], false⟩ := by
  rw [maxLen_eq] at hL
  unfold multiV
  by_cases h1 : 1024 < L.length
  · refine Evt.succ (.of fun n => ?_)
    rw [f118_run, f118_eq, ltI_t (by omega), decide_eq_true h1]; rfl
  by_cases h2 : 255 < lv
  · refine Evt.succ (.of fun n => ?_)
    rw [f118_run, f118_eq, ltI_f (by omega), decide_eq_false h1, ltI_t h2, decide_eq_true h2]; rfl
  have hall := Evt.all 256 fun low (_ : low < 256) => (counts_runs (L := L) (lv := (low : Int)) (by omega)).and (stretches_runs (L := L) (lv := lv) (low := (low : Int)) (M := max m 1) (a := a) (b := b) (by omega))
  refine Evt.succ ((hall.and ((counts_runs (L := L) (lv := lv) (by omega)).and (Evt.ge 300))).mono fun n hn => ?_)
  obtain ⟨g1, g2, g3⟩ := hn
  rw [f118_run, f118_eq, ltI_f (by omega), decide_eq_false h1, ltI_f h2, decide_eq_false h2, cond_false, cond_false, cond_false, cond_false, g2, step1, toSlice_s, mx2_eq]
  have key : ∀ (j k i : Nat), i + j = lv.toNat → j < k → f118_l0 (runE G ext n) n k L lv m a b (cntL L lv L.length) (max lv 0) (i : Int) = some ⟨[.bool (allN (fun low : Nat => strV L lv (low : Int) (max m 1) a b L.length) j i)], [], false⟩ := by
    intro j
    induction j with
    | zero =>
      intro k i hi hk
      obtain ⟨k, rfl⟩ : ∃ j, k = j + 1 := ⟨k - 1, by omega⟩
      rw [f118_l0_eq, ltI_f (by omega), cond_false]; rfl
    | succ j ih =>
      intro k i hi hk
      obtain ⟨k, rfl⟩ : ∃ j, k = j + 1 := ⟨k - 1, by omega⟩
      have ih' := ih k (i + 1) (by omega) (by omega)
      rw [show ((i + 1 : Nat) : Int) = (i : Int) + 1 by omega] at ih'
      obtain ⟨c1, c2⟩ := g1 i (by omega)
      rw [f118_l0_eq, ltI_t (by omega), cond_true, c1, step1, toSlice_s, w64 (x := lv - (i : Int)) (by omega) (by omega), mx2_eq, c2, step1, toBool_b, w64 (x := (i : Int) + 1) (by omega) (by omega), ih']
      rw [show allN (fun low : Nat => strV L lv (low : Int) (max m 1) a b L.length) (j + 1) i = bif strV L lv (i : Int) (max m 1) a b L.length then allN (fun low : Nat => strV L lv (low : Int) (max m 1) a b L.length) j (i + 1) else false from rfl]
      cases strV L lv (i : Int) (max m 1) a b L.length <;> rfl
  exact key lv.toNat n 0 (by omega) (by omega)

/- places -/
theorem hitsV_succ (zs : List Int) (s : Nat) (lv : Int) : ∀ n, ((List.range (n + 1)).filter fun j => decide (s ≤ j) && decide (lv ≤ zs[j]?.getD 0)) = ((List.range n).filter fun j => decide (s ≤ j) && decide (lv ≤ zs[j]?.getD 0)) ++ if s ≤ n ∧ lv ≤ zs[n]?.getD 0 then [n] else [] := by
  intro n
  rw [List.range_succ, List.filter_append]
  congr 1
  by_cases h1 : s ≤ n
  · by_cases h2 : lv ≤ zs[n]?.getD 0
    · simp [h1, h2]
    · simp [h1, h2]
  · simp [h1]
def hitN (L : List AV) (s : Nat) (lv : Int) (n : Nat) : List Nat := (List.range n).filter fun j => decide (s ≤ j) && decide (lv ≤ lev L j)
theorem lev_map (L : List AV) (j : Nat) : (L.map AV.toInt)[j]?.getD 0 = lev L j := by
  unfold lev nth
  rw [List.getElem?_map, List.getD_eq_getElem?_getD]
  cases L[j]? <;> rfl
theorem hitsV_hitN (L : List AV) (s : Nat) (lv : Int) : hitsV (L.map AV.toInt) s lv = hitN L s lv L.length := by
  unfold hitsV hitN
  rw [List.length_map]
  congr 1
  funext j
  rw [lev_map]
theorem hitN_succ (L : List AV) (s : Nat) (lv : Int) (n : Nat) : hitN L s lv (n + 1) = hitN L s lv n ++ if s ≤ n ∧ lv ≤ lev L n then [n] else [] := by
  unfold hitN
  rw [List.range_succ, List.filter_append]
  congr 1
  by_cases h1 : s ≤ n
  · by_cases h2 : lv ≤ lev L n
    · simp [h1, h2]
    · simp [h1, h2]
  · simp [h1]
theorem hitN_mem {L : List AV} {s : Nat} {lv : Int} {n p : Nat} : p ∈ hitN L s lv n ↔ p < n ∧ s ≤ p ∧ lv ≤ lev L p := by
  unfold hitN
  simp
theorem hitN_len (L : List AV) (s : Nat) (lv : Int) (n : Nat) : (hitN L s lv n).length ≤ n := by
  unfold hitN
  exact Nat.le_trans (List.length_filter_le _ _) (by simp)
theorem hitN_cnt (L : List AV) (lv : Int) : ∀ n, (hitN L 0 lv n).length = cntV L lv n
  | 0 => rfl
  | n + 1 => by
    rw [hitN_succ, List.length_append, hitN_cnt L lv n]
    simp only [cntV]
    by_cases h : lv ≤ lev L n
    · rw [if_pos ⟨by omega, h⟩, if_pos h]; rfl
    · rw [if_neg (by intro k; exact h k.2), if_neg h]; rfl
/-- The place of a given number of hits ahead. -/
theorem hitN_get {L : List AV} {lv : Int} : ∀ {n i p : Nat}, (hitN L 0 lv n)[i]? = some p → p < n ∧ lv ≤ lev L p ∧ cntV L lv p = i
  | 0, i, p, h => by simp [hitN] at h
  | n + 1, i, p, h => by
    rw [hitN_succ] at h
    by_cases hi : i < (hitN L 0 lv n).length
    · rw [List.getElem?_append_left hi] at h
      have := hitN_get h
      exact ⟨by omega, this.2⟩
    · rw [List.getElem?_append_right (by omega)] at h
      by_cases hc : 0 ≤ n ∧ lv ≤ lev L n
      · rw [if_pos hc] at h
        have h0 : i - (hitN L 0 lv n).length = 0 := by
          cases hq : i - (hitN L 0 lv n).length with
          | zero => rfl
          | succ q => rw [hq] at h; simp at h
        rw [h0] at h
        cases h
        rw [hitN_cnt] at h0 hi
        exact ⟨by omega, hc.2, by omega⟩
      · rw [if_neg hc] at h; simp at h
theorem hitN_at {L : List AV} {lv : Int} : ∀ {n p : Nat}, p < n → lv ≤ lev L p → (hitN L 0 lv n)[cntV L lv p]? = some p
  | 0, p, h, _ => by omega
  | n + 1, p, h, hl => by
    rw [hitN_succ]
    by_cases hp : p < n
    · have := hitN_at hp hl
      rw [List.getElem?_append_left (List.getElem?_eq_some_iff.1 this).1]
      exact this
    · obtain rfl : p = n := by omega
      rw [List.getElem?_append_right (by rw [hitN_cnt]; omega), hitN_cnt, Nat.sub_self, if_pos ⟨by omega, hl⟩]
      rfl

def hitL (L : List AV) (s : Nat) (lv : Int) : List AV := (hitN L s lv L.length).map fun (j : Nat) => AV.int (j : Int)
theorem hitL_len (L : List AV) (s : Nat) (lv : Int) : (hitL L s lv).length = (hitN L s lv L.length).length := by simp [hitL]
theorem places_runs {L : List AV} {s lv : Int} (hL : L.length ≤ 1000000) : RunsX 46 [.slice L, .int s, .int lv] ⟨[.slice (hitL L s.toNat lv)], [], true⟩ := by
  refine RunsX.of_eval 0 ?_
  show ext 46 _ = _
  have e : ext 46 [.slice L, .int s, .int lv] = placesX [.slice L, .int s, .int lv] := by
    unfold ext
    rw [show assoc extL 46 = some placesX from by rfl]
    rfl
  rw [e]
  show (bif Nat.ble L.length 1000000 then some (⟨[.slice ((hitsV (L.map AV.toInt) s.toNat lv).map fun (j : Nat) => .int (j : Int))], [], true⟩ : Res) else none) = _
  rw [Nat.ble_eq_true_of_le hL, cond_true, hitsV_hitN]
  rfl

/- ends -/
def localV (n of_ : Nat) (lv a b : Int) : Bool := bif decide (n ≤ 1024) && decide (of_ ≤ 1024) then eqI (cmpR n of_ lv a b) 1 else false
theorem local_runs {n of_ : Nat} {lv a b : Int} (hn : n ≤ 100000) (ho : of_ ≤ 100000) : RunsX 146 [.int (n : Int), .int (of_ : Int), .int lv, .int a, .int b] ⟨[.bool (localV n of_ lv a b)], [], false⟩ := by
  refine Evt.succ (((ratioAbove_runs (n := n) (of_ := of_) (up := lv) (a := a) (b := b) (by omega) (by omega)).1).mono fun m h => ?_)
  have u1 : IntKind.wrap .u32 (n : Int) = (n : Int) := by rw [wrap32]; omega
  have u2 : IntKind.wrap .u32 (of_ : Int) = (of_ : Int) := by rw [wrap32]; omega
  unfold localV
  rw [f146_run, f146_eq, leI_t (by omega), cond_true, leI_t (by omega), cond_true, u1, u2]
  by_cases h1 : n ≤ 1024
  · rw [leI_t (by omega), cond_true, decide_eq_true h1]
    by_cases h2 : of_ ≤ 1024
    · rw [leI_t (by omega), cond_true, decide_eq_true h2, h, step1, toBool_b]; rfl
    · rw [leI_f (by omega), cond_false, decide_eq_false h2]; rfl
  · rw [leI_f (by omega), cond_false, decide_eq_false h1]; rfl

/-- What is asked of the end from a place on. -/
def endP (L : List AV) (lv M a b : Int) (N p : Nat) : Bool :=
  bif decide (lv ≤ lev L p) && leI M ((cntV L lv N - cntV L lv p : Nat) : Int) then localV (cntV L lv N - cntV L lv p) (N - p) lv a b else true
def superV (L : List AV) (lv m a b : Int) : Bool := bif decide (1024 < L.length) then false else allN (endP L lv (max m 1) a b L.length) L.length 0

theorem hitL_nth {L : List AV} {lv : Int} {i p : Nat} (h : (hitN L 0 lv L.length)[i]? = some p) : (nth (hitL L 0 lv) i).toInt = (p : Int) := by
  unfold hitL nth
  rw [List.getD_eq_getElem?_getD, List.getElem?_map, h]
  rfl
theorem super_runs {L : List AV} {lv m a b : Int} (hL : L.length ≤ 100000) (hm : m ≤ 9223372036854775807) : RunsX 117 [.slice L, .int lv, .int m, .int a, .int b] ⟨[.bool (superV L lv m a b)], [], false⟩ := by
  have hp := places_runs (L := L) (s := 0) (lv := lv) (by omega)
  rw [show (0 : Int).toNat = 0 from rfl] at hp
  unfold superV
  by_cases h1 : 1024 < L.length
  · refine Evt.succ (hp.mono fun n h => ?_)
    rw [f117_run, f117_eq, h, step1f, ltI_t (by omega), decide_eq_true h1]; rfl
  have hall := Evt.all 1025 fun x (hx : x < 1025) => Evt.all 1025 fun y (hy : y < 1025) => local_runs (n := x) (of_ := y) (lv := lv) (a := a) (b := b) (by omega) (by omega)
  refine Evt.succ ((hp.and (hall.and (Evt.ge 2000))).mono fun n hn => ?_)
  obtain ⟨g1, g2, g3⟩ := hn
  have hlen := hitL_len L 0 lv
  rw [hitN_cnt] at hlen
  have hle := cntV_le L lv L.length
  let Q : Nat → Bool := fun x => bif decide (x ≤ cntV L lv L.length) then localV x (L.length - ((hitN L 0 lv L.length)[cntV L lv L.length - x]?.getD 0)) lv a b else true
  have hget : ∀ x, 1 ≤ x → x ≤ cntV L lv L.length → ∃ p, (hitN L 0 lv L.length)[cntV L lv L.length - x]? = some p := by
    intro x hx1 hx2
    have hlt : cntV L lv L.length - x < (hitN L 0 lv L.length).length := by rw [hitN_cnt]; omega
    exact ⟨_, List.getElem?_eq_getElem hlt⟩
  have key : ∀ (j k x : Nat), x + j = cntV L lv L.length + 1 → 1 ≤ x → j < k → f117_l0 (runE G ext n) n k L lv a b (hitL L 0 lv) (x : Int) = some ⟨[.bool (allN Q j x)], [], false⟩ := by
    intro j
    induction j with
    | zero =>
      intro k x hx _ hk
      obtain ⟨k, rfl⟩ : ∃ j, k = j + 1 := ⟨k - 1, by omega⟩
      rw [f117_l0_eq, hlen, leI_f (by omega), cond_false]; rfl
    | succ j ih =>
      intro k x hx hx1 hk
      obtain ⟨k, rfl⟩ : ∃ j, k = j + 1 := ⟨k - 1, by omega⟩
      have ih' := ih k (x + 1) (by omega) (by omega) (by omega)
      rw [show ((x + 1 : Nat) : Int) = (x : Int) + 1 by omega] at ih'
      obtain ⟨p, hp⟩ := hget x hx1 (by omega)
      have hpp := hitN_get hp
      have e1 : IntKind.wrap .i64 (((cntV L lv L.length : Nat) : Int) - (x : Int)) = ((cntV L lv L.length - x : Nat) : Int) := by rw [w64 (by omega) (by omega)]; omega
      rw [f117_l0_eq, hlen, leI_t (by omega), cond_true, e1, inR_nat (by omega), cond_true, Int.toNat_natCast, hitL_nth hp, w64 (x := (L.length : Int) - (p : Int)) (by omega) (by omega), show (L.length : Int) - (p : Int) = ((L.length - p : Nat) : Int) by omega, g2 x (by omega) (L.length - p) (by omega), step1, toBool_b, w64 (x := (x : Int) + 1) (by omega) (by omega), ih']
      rw [show allN Q (j + 1) x = bif Q x then allN Q j (x + 1) else false from rfl]
      have eQ : Q x = localV x (L.length - p) lv a b := by
        show (bif decide (x ≤ cntV L lv L.length) then localV x (L.length - ((hitN L 0 lv L.length)[cntV L lv L.length - x]?.getD 0)) lv a b else true) = _
        rw [decide_eq_true (by omega), cond_true, hp]; rfl
      rw [eQ]
      cases localV x (L.length - p) lv a b <;> rfl
  rw [f117_run, f117_eq, g1, step1f, ltI_f (by omega), cond_false, decide_eq_false h1, cond_false, toSlice_s, mx2_eq]
  by_cases hM : max m 1 ≤ ((cntV L lv L.length : Nat) : Int)
  · obtain ⟨M, hMn⟩ : ∃ M : Nat, max m 1 = (M : Int) := ⟨(max m 1).toNat, by omega⟩
    rw [hMn, key (cntV L lv L.length + 1 - M) n M (by omega) (by omega) (by omega)]
    have e : allN Q (cntV L lv L.length + 1 - M) M = allN (endP L lv (max m 1) a b L.length) L.length 0 := by
      apply Bool.eq_iff_iff.2
      rw [allN_iff, allN_iff]
      constructor
      · intro h p _ hp
        unfold endP
        by_cases hl : lv ≤ lev L p
        · rw [decide_eq_true hl, Bool.true_and, hMn]
          have c1 := cntV_mono L lv (i := p + 1) (k := L.length) (by omega)
          have c2 : cntV L lv (p + 1) = cntV L lv p + 1 := if_pos hl
          by_cases hc : (M : Int) ≤ ((cntV L lv L.length - cntV L lv p : Nat) : Int)
          · rw [leI_t hc, cond_true]
            have hq := h (cntV L lv L.length - cntV L lv p) (by omega) (by omega)
            have hat := hitN_at (n := L.length) (by omega) hl
            have hq2 : (bif decide (cntV L lv L.length - cntV L lv p ≤ cntV L lv L.length) then localV (cntV L lv L.length - cntV L lv p) (L.length - ((hitN L 0 lv L.length)[cntV L lv L.length - (cntV L lv L.length - cntV L lv p)]?.getD 0)) lv a b else true) = true := hq
            rw [decide_eq_true (by omega), cond_true, show cntV L lv L.length - (cntV L lv L.length - cntV L lv p) = cntV L lv p by omega, hat] at hq2
            exact hq2
          · rw [leI_f hc]; rfl
        · rw [decide_eq_false hl]; rfl
      · intro h x h1 h2
        show (bif decide (x ≤ cntV L lv L.length) then localV x (L.length - ((hitN L 0 lv L.length)[cntV L lv L.length - x]?.getD 0)) lv a b else true) = true
        obtain ⟨p, hp⟩ := hget x (by omega) (by omega)
        obtain ⟨p1, p2, p3⟩ := hitN_get hp
        have hq := h p (by omega) (by omega)
        unfold endP at hq
        rw [decide_eq_true p2, Bool.true_and, hMn, leI_t (by omega), cond_true, p3, show cntV L lv L.length - (cntV L lv L.length - x) = x by omega] at hq
        rw [decide_eq_true (by omega), cond_true, hp]
        exact hq
    rw [e, hMn]
  · obtain ⟨k, rfl⟩ : ∃ k, n = k + 1 := ⟨n - 1, by omega⟩
    rw [f117_l0_eq, hlen, leI_f (by omega), cond_false]
    have e : allN (endP L lv (max m 1) a b L.length) L.length 0 = true := by
      rw [allN_iff]
      intro p _ hp
      unfold endP
      rw [leI_f (by omega), Bool.and_false]; rfl
    rw [e]; rfl

def goodV (L : List AV) (lv m a b : Int) : Bool := superV L lv m a b && multiV L lv m a b
theorem good_runs {L : List AV} {lv m a b : Int} (hm0 : -9223372036854775808 ≤ lv) (hL : L.length ≤ 100000) (hm : m ≤ 9223372036854775807) : RunsX 81 [.slice L, .int lv, .int m, .int a, .int b] ⟨[.bool (goodV L lv m a b)], [], false⟩ := by
  refine Evt.succ (((super_runs (L := L) (lv := lv) (m := m) (a := a) (b := b) hL hm).and (multi_runs (L := L) (lv := lv) (m := m) (a := a) (b := b) hm0 (by rw [maxLen_eq]; omega))).mono fun n h => ?_)
  obtain ⟨h1, h2⟩ := h
  unfold goodV
  rw [f81_run, f81_eq, h1, step1, toBool_b]
  cases superV L lv m a b with
  | false => rfl
  | true => rw [cond_true, h2, step1, toBool_b]; rfl

end Go.Proofs.YtogehijjhibdkaaGreat.Ev
