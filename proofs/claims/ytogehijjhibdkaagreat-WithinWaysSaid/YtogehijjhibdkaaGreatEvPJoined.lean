/- What is picked in a chain that may be. -/
import Derived.Test.YtogehijjhibdkaaGreatEvPPick
import Derived.Test.YtogehijjhibdkaaGreatEvPDownC
namespace Go.Proofs.YtogehijjhibdkaaGreat.Ev
open Go Go.RowKit

section
variable {B : List AV} {m a b : Int}
theorem pickSt_mono : ∀ (j : Nat) (s : Int) (T : Nat → Bool) (p : Nat), T p = true → pickSt B m a b j s T p = true
  | 0, _, _, _, h => h
  | j + 1, s, T, p, h => pickSt_mono j _ _ p (by unfold takeT; rw [h]; rfl)
theorem pickSt_stage : ∀ (j : Nat) (s : Int) (T : Nat → Bool) (p : Nat), pickSt B m a b j s T p = true → T p = true ∨ ∃ lv s0 : Nat, lv < j ∧ s0 ≤ p ∧ (lv : Int) ≤ lev B p ∧ ∀ x : Nat, s0 ≤ x → (lv : Int) ≤ lev B x → pickSt B m a b j s T x = true
  | 0, _, _, _, h => .inl h
  | j + 1, s, T, p, h => by
    have h' : pickSt B m a b j (beginV B s (j : Int) m a b) (takeT B s (j : Int) T) p = true := h
    rcases pickSt_stage j _ _ p h' with h1 | ⟨lv, s0, h1, h2, h3, h4⟩
    · unfold takeT at h1
      rw [Bool.or_eq_true, Bool.and_eq_true, decide_eq_true_iff, decide_eq_true_iff] at h1
      rcases h1 with h1 | ⟨h1, h2⟩
      · exact .inl h1
      · refine .inr ⟨j, s.toNat, by omega, h1, h2, fun x hx hl => ?_⟩
        refine pickSt_mono j _ _ x ?_
        unfold takeT
        rw [decide_eq_true hx, decide_eq_true hl, Bool.and_true, Bool.or_true]
    · exact .inr ⟨lv, s0, by omega, h2, h3, fun x hx hl => h4 x hx hl⟩
theorem beginV_lt {L : List AV} {s lv : Int} (h0 : 0 ≤ s) (h1 : s < L.length) : 0 ≤ beginV L s lv m a b ∧ beginV L s lv m a b < L.length := by
  unfold beginV
  by_cases hc : m < 1 ∨ ((hitL L s.toNat lv).length : Int) ≤ m ∨ s < 0
  · rw [if_pos hc]; exact ⟨h0, h1⟩
  · rw [if_neg hc]
    cases goodV (L.drop s.toNat) lv m a b with
    | false => exact ⟨h0, h1⟩
    | true =>
      obtain ⟨p, e, p1, p2, _⟩ := hitL_at (L := L) (s := s.toNat) (lv := lv) (i := (hitL L s.toNat lv).length - m.toNat) (by omega)
      rw [cond_true, e, toInt_i]
      omega
theorem pickSt_last (hl : 0 ≤ lev B (B.length - 1)) : ∀ (j : Nat) (s : Int) (T : Nat → Bool), 0 ≤ s → s < B.length → pickSt B m a b (j + 1) s T (B.length - 1) = true
  | 0, s, T, h0, h1 => by
    show takeT B s ((0 : Nat) : Int) T (B.length - 1) = true
    unfold takeT
    rw [decide_eq_true (show s.toNat ≤ B.length - 1 by omega), decide_eq_true (show ((0 : Nat) : Int) ≤ lev B (B.length - 1) from hl), Bool.and_true, Bool.or_true]
  | j + 1, s, T, h0, h1 => by
    have h := beginV_lt (m := m) (a := a) (b := b) (lv := ((j + 1 : Nat) : Int)) h0 h1
    exact pickSt_last hl j _ _ h.1 h.2
theorem pickSt_first {j : Nat} (h : (j : Int) ≤ lev B 0) (T : Nat → Bool) : pickSt B m a b (j + 1) 0 T 0 = true := by
  refine pickSt_mono j _ _ 0 ?_
  unfold takeT
  rw [decide_eq_true (show (0 : Int).toNat ≤ 0 by decide), decide_eq_true h, Bool.and_true, Bool.or_true]
end

/- lists of places that rise -/
def fil (N : Nat) (T : Nat → Bool) : List Nat := (List.range N).filter T
theorem fil_mem {N : Nat} {T : Nat → Bool} {p : Nat} : p ∈ fil N T ↔ p < N ∧ T p = true := by unfold fil; simp
theorem fil_lt {N : Nat} {T : Nat → Bool} {i j : Nat} (hi : i < (fil N T).length) (hj : j < (fil N T).length) (h : i < j) : (fil N T)[i] < (fil N T)[j] := by
  have : (fil N T).Pairwise (· < ·) := List.Pairwise.filter _ List.pairwise_lt_range
  exact List.pairwise_iff_getElem.1 this i j hi hj h
theorem fil_next {N : Nat} {T : Nat → Bool} {i : Nat} (hi : i + 1 < (fil N T).length) (x : Nat) (h1 : (fil N T)[i] < x) (h2 : x < (fil N T)[i + 1]) : T x = false := by
  cases hT : T x with
  | false => rfl
  | true =>
    have hN := (fil_mem.1 (List.getElem_mem hi)).1
    obtain ⟨k, hk, e⟩ := List.mem_iff_getElem.1 (fil_mem.2 ⟨show x < N by omega, hT⟩)
    rcases Nat.lt_trichotomy k i with h | h | h
    · have := fil_lt hk (by omega) h; omega
    · subst h; omega
    · by_cases h' : k = i + 1
      · subst h'; omega
      · have := fil_lt hi hk (by omega); omega
theorem fil_first {N : Nat} {T : Nat → Bool} (hN : 0 < N) (h : T 0 = true) : ∃ h0 : 0 < (fil N T).length, (fil N T)[0] = 0 := by
  obtain ⟨k, hk, e⟩ := List.mem_iff_getElem.1 (fil_mem.2 ⟨hN, h⟩)
  refine ⟨by omega, ?_⟩
  by_cases h0 : k = 0
  · subst h0; exact e
  · have := fil_lt (show 0 < (fil N T).length by omega) hk (by omega); omega
theorem fil_last {N : Nat} {T : Nat → Bool} (hN : 0 < N) (h : T (N - 1) = true) : ∃ h0 : (fil N T).length - 1 < (fil N T).length, (fil N T)[(fil N T).length - 1] = N - 1 := by
  obtain ⟨k, hk, e⟩ := List.mem_iff_getElem.1 (fil_mem.2 ⟨show N - 1 < N by omega, h⟩)
  refine ⟨by omega, ?_⟩
  have hm := (fil_mem.1 (List.getElem_mem (show (fil N T).length - 1 < (fil N T).length by omega))).1
  by_cases h0 : k = (fil N T).length - 1
  · subst h0; exact e
  · have := fil_lt hk (show (fil N T).length - 1 < (fil N T).length by omega) (by omega); omega

theorem near_at {L : List AV} {lv : Int} {p : Nat} (hl : lv ≤ (nth L p).toInt) : ∀ q : Nat, p < q → (∀ x, p < x → x < q → (nth L x).toInt < lv) → nearV L lv q = (p : Int)
  | 0, h, _ => by omega
  | q + 1, h, hx => by
    simp only [nearV]
    by_cases e : q = p
    · subst e; rw [if_pos hl]
    · rw [if_neg (by have := hx q (by omega) (by omega); omega)]
      exact near_at hl q (by omega) (fun x h1 h2 => hx x h1 (by omega))

section
variable {t : List UInt8} {l : List AV}
/-- A near place of a level is among the entries. -/
theorem all_has (hok : ∀ i, i < l.length → 0 ≤ levelV (idA ((nth l i).fld 0)) t) {p q lv : Nat} (hq : q < l.length) (_ : lv ≤ 255) (h1 : 1 ≤ q) (h : nearV (levsV t l) (lv : Int) q = (p : Int)) :
    ∃ k, k < (allOf (levsV t l) (q : Int)).length ∧ nth (allOf (levsV t l) (q : Int)) k = .int (p : Int) := by
  obtain ⟨i, rfl⟩ : ∃ i, q = i + 1 := ⟨q - 1, by omega⟩
  obtain ⟨n, I⟩ := nearInv hok i (by omega)
  have ea := allOf_near (by omega) I
  have n1 := I.n1
  have hlen : (allOf (levsV t l) ((i + 1 : Nat) : Int)).length = n := by rw [ea]; simp
  by_cases hn : lv < n
  · exact ⟨lv, by omega, by rw [ea, nth_range hn, h]⟩
  · refine ⟨n - 1, by omega, ?_⟩
    have c1 := nearV_anti (L := levsV t l) (k := ((n - 1 : Nat) : Int)) (m := (lv : Int)) (by omega) (i + 1)
    rw [I.last, h] at c1
    rw [ea, nth_range (show n - 1 < n by omega), I.last, show p = 0 by omega]
    rfl

/-- Places of a chain, each led to by the one behind it. -/
structure Picked (t : List UInt8) (l : List AV) (N : Nat) (P : List AV) : Prop where
  len : 1 ≤ P.length
  le : P.length ≤ N
  first : nth P 0 = .int 0
  last : nth P (P.length - 1) = .int ((N - 1 : Nat) : Int)
  at_ : ∀ i, i < P.length → ∃ p : Nat, nth P i = .int (p : Int) ∧ p < N
  next : ∀ i p q : Nat, i + 1 < P.length → nth P i = .int (p : Int) → nth P (i + 1) = .int (q : Int) → p < q ∧ ∃ k, k < (allOf (levsV t l) (q : Int)).length ∧ nth (allOf (levsV t l) (q : Int)) k = .int (p : Int)

theorem pickL_nth {N : Nat} {T : Nat → Bool} {i : Nat} (h : i < (fil N T).length) : nth (pickL N T) i = .int (((fil N T)[i] : Nat) : Int) := by
  unfold pickL nth
  rw [List.getD_eq_getElem?_getD, List.getElem?_map]
  rw [show ((List.range N).filter T)[i]? = some (fil N T)[i] from List.getElem?_eq_getElem h]
  rfl
theorem picked {m k a b : Int} (hok : ∀ i, i < l.length → 0 ≤ levelV (idA ((nth l i).fld 0)) t) (hM : mayP m k a b = true) (hk : k < l.length) (h24 : l.length ≤ 1024) : Picked t l (l.length - k.toNat) (pickV (levsV t l) m k a b) := by
  have hM' := hM
  unfold mayP at hM'
  rw [Bool.and_eq_true, decide_eq_true_iff] at hM'
  obtain ⟨⟨_, _, k1, k2⟩, _⟩ := hM'
  have hLl := levsV_len t l
  have hNl : l.length - k.toNat ≤ l.length := Nat.sub_le _ _
  generalize hN : l.length - k.toNat = N at *
  have hN1 : 1 ≤ N := by omega
  generalize hB : (levsV t l).take N = B
  have hBl : B.length = N := by rw [← hB, List.length_take]; omega
  have hlev : ∀ x, x < N → lev B x = lev (levsV t l) x := by
    intro x hx
    rw [← hB]
    unfold lev nth
    rw [List.getD_eq_getElem?_getD, List.getD_eq_getElem?_getD, List.getElem?_take, if_pos hx]
  have hpos : ∀ x, x < N → 0 ≤ lev B x := by
    intro x hx
    rw [hlev x hx]
    by_cases h0 : x = 0
    · subst h0
      rw [show lev (levsV t l) 0 = 256 from lev0 (by omega)]; omega
    · rw [show lev (levsV t l) x = _ from levI (by omega) h0]; exact hok x (by omega)
  have ht := topLv_in B
  have e : pickV (levsV t l) m k a b = pickL N (pickSt B m a b ((topLv B).toNat + 1) 0 (fun _ => false)) := by
    unfold pickV
    rw [hM, not_t, cond_false, if_neg (by omega), if_neg (by omega), hLl, hN, hB]
  rw [e]
  generalize hT : pickSt B m a b ((topLv B).toNat + 1) 0 (fun _ => false) = T
  have hfirst : T 0 = true := by
    rw [← hT]
    refine pickSt_first ?_ _
    rw [hlev 0 (by omega), show lev (levsV t l) 0 = 256 from lev0 (by omega)]
    omega
  have hlast : T (N - 1) = true := by
    rw [← hT, ← hBl]
    exact pickSt_last (by rw [hBl]; exact hpos _ (by omega)) _ _ _ (by omega) (by omega)
  obtain ⟨f0, f1⟩ := fil_first hN1 hfirst
  obtain ⟨l0, l1⟩ := fil_last hN1 hlast
  have hlenP : (pickL N T).length = (fil N T).length := by unfold pickL fil; rw [List.length_map]
  refine ⟨by omega, pickL_len N T, ?_, ?_, ?_, ?_⟩
  · rw [pickL_nth f0, f1]; rfl
  · rw [hlenP, pickL_nth l0, l1]
  · intro i hi
    rw [hlenP] at hi
    exact ⟨(fil N T)[i], pickL_nth hi, (fil_mem.1 (List.getElem_mem hi)).1⟩
  · intro i p q hi hp hq
    rw [hlenP] at hi
    rw [pickL_nth (show i < (fil N T).length by omega)] at hp
    rw [pickL_nth hi] at hq
    have ep : (fil N T)[i] = p := by injection hp with hp; omega
    have eq_ : (fil N T)[i + 1] = q := by injection hq with hq; omega
    have hlt := fil_lt (show i < (fil N T).length by omega) hi (by omega)
    have mp := fil_mem.1 (List.getElem_mem (show i < (fil N T).length by omega))
    have mq := fil_mem.1 (List.getElem_mem hi)
    have hbet := fil_next hi
    rw [ep] at hlt mp hbet
    rw [eq_] at hlt mq hbet
    refine ⟨hlt, ?_⟩
    have hst := mp.2
    rw [← hT] at hst
    rcases pickSt_stage _ _ _ _ hst with h | ⟨lv, s0, g1, g2, g3, g4⟩
    · cases h
    rw [hT] at g4
    refine all_has hok (lv := lv) (by omega) (by omega) (by omega) (near_at (by rw [hlev p mp.1] at g3; exact g3) q hlt (fun x h1 h2 => ?_))
    have hf := hbet x h1 h2
    have : ¬ (lv : Int) ≤ lev B x := fun hc => by
      have := g4 x (by omega) hc
      rw [hf] at this; cases this
    rw [hlev x (by omega)] at this
    show lev (levsV t l) x < lv
    omega
end

section
variable {gh : Int} {gl gt : List UInt8} {gn : Int} {t : List UInt8} {m k a b c5 c6 : Int}
end
end Go.Proofs.YtogehijjhibdkaaGreat.Ev
