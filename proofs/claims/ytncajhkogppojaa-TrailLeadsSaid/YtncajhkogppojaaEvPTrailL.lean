/- Trails lead: the law. -/
import Derived.Test.YtncajhkogppojaaEvPTrail
namespace Go.Proofs.Ytncajhkogppojaa.Ev
open Go Go.RowKit

def goodAt (t : List UInt8) (a s : AV) : Prop := okV (idA (s.fld 0)) t = true ∧ (a.fld 0).toInt < hgt s ∧ holdsA s a = true
def goodL (t : List UInt8) : AV → List AV → Prop
  | _, [] => True
  | a, s :: r => goodAt t a s ∧ goodL t (s.fld 0) r
def lastH : AV → List AV → AV
  | a, [] => a
  | _, s :: r => lastH (s.fld 0) r
theorem goodL_app {t : List UInt8} : ∀ {x y : List AV} {a : AV}, goodL t a x → goodL t (lastH a x) y → goodL t a (x ++ y)
  | [], _, _, _, h2 => h2
  | _ :: _, _, _, h1, h2 => ⟨h1.1, goodL_app h1.2 h2⟩
theorem nth_cons (s : AV) (r : List AV) (i : Nat) : nth (s :: r) (i + 1) = nth r i := rfl
theorem lastH_eq : ∀ {x : List AV} {a : AV}, 0 < x.length → lastH a x = (nth x (x.length - 1)).fld 0
  | [s], _, _ => rfl
  | s :: u :: r, a, _ => by
    have := lastH_eq (x := u :: r) (a := s.fld 0) (by simp)
    show lastH (s.fld 0) (u :: r) = _
    rw [this]
    rfl
theorem aheadA_cons (a s : AV) (r : List AV) (i : Nat) : aheadA a (s :: r) (i + 1) = aheadA (s.fld 0) r i := by
  unfold aheadA
  rw [if_neg (by omega), Nat.add_sub_cancel]
  by_cases h : i = 0
  · rw [if_pos h, h]; rfl
  · rw [if_neg h, show i = (i - 1) + 1 by omega, nth_cons, Nat.add_sub_cancel]
theorem goodL_nth {t : List UInt8} : ∀ {r : List AV} {a : AV}, goodL t a r → ∀ i, i < r.length → goodAt t (aheadA a r i) (nth r i)
  | [], _, _, i, hi => by simp at hi
  | s :: r, a, h, 0, _ => h.1
  | s :: r, a, h, i + 1, hi => by
    rw [aheadA_cons, nth_cons]
    exact goodL_nth h.2 i (by simp at hi; omega)
theorem oneA_zero {t : List UInt8} {s a : AV} {b : Int} (h : oneA t s a b = 0) : goodAt t a s ∧ hgt s < b := by
  unfold oneA at h
  by_cases h1 : (a.fld 0).toInt < ((s.fld 0).fld 0).toInt
  · rw [ltI_t h1, not_t, cond_false] at h
    by_cases h2 : b ≤ ((s.fld 0).fld 0).toInt
    · rw [leI_t h2, cond_true] at h; exact absurd h (by decide)
    · rw [leI_f h2, cond_false] at h
      cases h3 : okV (idA (s.fld 0)) t
      · rw [h3, not_f, cond_true] at h; exact absurd h (by decide)
      · rw [h3, not_t, cond_false] at h
        cases h4 : holdsA s a
        · rw [h4, not_f, cond_true] at h; exact absurd h (by decide)
        · exact ⟨⟨h3, h1, h4⟩, by unfold hgt; omega⟩
  · rw [ltI_f h1, not_f, cond_true] at h; exact absurd h (by decide)
theorem goodL_of {t : List UInt8} {b : Int} : ∀ {r : List AV} {a : AV}, (∀ i, i < r.length → oneA t (nth r i) (aheadA a r i) b = 0) → goodL t a r
  | [], _, _ => trivial
  | s :: r, a, h => by
    refine ⟨(oneA_zero (h 0 (by simp))).1, goodL_of (b := b) fun i hi => ?_⟩
    have := h (i + 1) (by simp; omega)
    rw [aheadA_cons, nth_cons] at this
    exact this
theorem innerL_zero {t : List UInt8} {st : List AV} {a0 top : AV} {bi bn : Int} {bp : List AV} : ∀ j i, innerL t st a0 top bi bn bp j i = 0 → (∀ k, i ≤ k → k < i + j → oneA t (nth st k) (aheadA a0 st k) (top.fld 0).toInt = 0) ∧ leadsV (top.fld 1).toBlob (idA (aheadA a0 st (i + j))) bi bn bp = true
  | 0, i, h => by
    simp only [innerL] at h
    refine ⟨fun k h1 h2 => by omega, ?_⟩
    cases hl : leadsV (top.fld 1).toBlob (idA (aheadA a0 st i)) bi bn bp
    · rw [hl, not_f, cond_true] at h; exact absurd h (by decide)
    · rfl
  | j + 1, i, h => by
    simp only [innerL] at h
    by_cases h1 : oneA t (nth st i) (aheadA a0 st i) (top.fld 0).toInt = 0
    · rw [eqI_t h1, not_t, cond_false] at h
      obtain ⟨h2, h3⟩ := innerL_zero j (i + 1) h
      refine ⟨fun k k1 k2 => ?_, by rw [show i + (j + 1) = i + 1 + j by omega]; exact h3⟩
      by_cases he : k = i
      · rw [he]; exact h1
      · exact h2 k (by omega) (by omega)
    · rw [eqI_f h1, not_f, cond_true] at h; exact absurd h h1

section
variable {gh : Int} {gl gt : List UInt8} {gn : Int} {t : List UInt8} {K : Int} {l : List AV} {at_ : Int} {st : List AV} {bi bn : Int} {bp : List AV} {w : Int} {tx : List UInt8} {oi om : Int} {op : List AV}
theorem goodAt_step {i : Nat} (hV : ∀ k, k < l.length → stepErr t l k = 0) (h1 : 1 ≤ i) (h2 : i < l.length) : goodAt t ((nth l (i - 1)).fld 0) (nth l i) := by
  obtain ⟨s1, s2, s3⟩ := stepErr_zero (hV i h2)
  unfold riseV at s1
  unfold joinV hj at s3
  rw [eqI_f (by omega), cond_false] at s1 s3
  exact ⟨s2, of_decide_eq_true s1, s3⟩
theorem trail_good (hV : ∀ k, k < l.length → stepErr t l k = 0) (hI : 0 < st.length → ∀ p : Nat, at_ = (p : Int) → (∀ k, k < st.length → oneA t (nth st k) (aheadA ((nth l (p - 1)).fld 0) st k) (hgt (nth l p)) = 0) ∧ leadsV (((nth l p).fld 0).fld 1).toBlob (idA (aheadA ((nth l (p - 1)).fld 0) st st.length)) bi bn bp = true) :
    ∀ j i, 1 ≤ i → i + j = l.length → goodL t (headN ((nth l (i - 1)).fld 0)) (trailL l at_ st bi bn bp j i)
  | 0, _, _, _ => trivial
  | j + 1, i, h1, h2 => by
    have ih := trail_good hV hI j (i + 1) (by omega) (by omega)
    rw [Nat.add_sub_cancel] at ih
    simp only [trailL]
    have g := goodAt_step hV h1 (show i < l.length by omega)
    unfold partV
    by_cases hc : (i : Int) = at_ ∧ 0 < (st.length : Int)
    · rw [eqI_t hc.1, ltI_t hc.2, Bool.true_and, cond_true, List.append_assoc]
      obtain ⟨q1, q2⟩ := hI (by omega) i hc.1.symm
      have q1' : ∀ k, k < st.length → oneA t (nth st k) (aheadA (headN ((nth l (i - 1)).fld 0)) st k) (hgt (nth l i)) = 0 := by
        intro k hk
        have := q1 k hk
        unfold aheadA at this ⊢
        by_cases h0 : k = 0
        · rw [if_pos h0] at this ⊢; exact this
        · rw [if_neg h0] at this ⊢; exact this
      refine goodL_app (goodL_of q1') ?_
      rw [lastH_eq (by omega)]
      have e : aheadA ((nth l (i - 1)).fld 0) st st.length = (nth st (st.length - 1)).fld 0 := by
        unfold aheadA; rw [if_neg (by omega)]
      rw [e] at q2
      exact ⟨⟨g.1, (oneA_zero (q1 (st.length - 1) (by omega))).2, q2⟩, ih⟩
    · have hf : (eqI (i : Int) at_ && ltI 0 (st.length : Int)) = false := by
        by_cases h3 : (i : Int) = at_
        · rw [ltI_f (fun h => hc ⟨h3, h⟩), Bool.and_false]
        · rw [eqI_f h3, Bool.false_and]
      rw [hf, cond_false]
      exact ⟨⟨g.1, g.2.1, g.2.2⟩, ih⟩
theorem part_one {i : Nat} (h : (i : Int) ≠ at_ ∨ st.length = 0) : partV l at_ st bi bn bp i = [stepN (nth l i)] := by
  unfold partV
  rcases h with h | h
  · rw [eqI_f h, Bool.false_and, cond_false]
  · rw [ltI_f (by omega), Bool.and_false, cond_false]
theorem trail_pos {p : Nat} {v : Nat} (hp : at_ = (p : Int)) (hpl : p < l.length) (hw : v < max st.length 1) : ∀ j i, i + j = l.length → i ≤ p →
    headN ((nth (trailL l at_ st bi bn bp j i) (p - i + v)).fld 0) = headN (blkA l p st v) ∧ p - i + v < (trailL l at_ st bi bn bp j i).length
  | 0, i, h1, h2 => by omega
  | j + 1, i, h1, h2 => by
    simp only [trailL]
    by_cases hi : i = p
    · subst hi
      rw [Nat.sub_self, Nat.zero_add, nth_split]
      by_cases h0 : st.length = 0
      · rw [part_one (.inr h0)]
        have : v = 0 := by omega
        subst this
        rw [if_pos (by simp)]
        unfold blkA
        rw [ltI_f (by omega), cond_false]
        exact ⟨rfl, by simp⟩
      · unfold partV
        rw [eqI_t hp.symm, ltI_t (by omega), Bool.true_and, cond_true, if_pos (by simp; omega), nth_split, if_pos (by omega)]
        unfold blkA
        rw [ltI_t (by omega), cond_true]
        exact ⟨rfl, by simp; omega⟩
    · have ih := trail_pos (v := v) hp hpl hw j (i + 1) (by omega) (by omega)
      rw [part_one (.inl (by omega)), nth_split, if_neg (by simp; omega)]
      rw [show p - i + v - [stepN (nth l i)].length = p - (i + 1) + v by simp; omega]
      refine ⟨ih.1, ?_⟩
      rw [List.length_append]; simp; omega
theorem trail_last : ∀ j i, 1 ≤ j → i + j = l.length → headN ((nth (trailL l at_ st bi bn bp j i) ((trailL l at_ st bi bn bp j i).length - 1)).fld 0) = headN ((nth l (l.length - 1)).fld 0) ∧ 1 ≤ (trailL l at_ st bi bn bp j i).length
  | 0, i, h1, _ => by omega
  | 1, i, _, h2 => by
    simp only [trailL, List.append_nil]
    have hl := partV_len (l := l) (at_ := at_) (st := st) (bi := bi) (bn := bn) (bp := bp) i
    refine ⟨?_, hl.2⟩
    rw [show l.length - 1 = i by omega]
    unfold partV
    cases (eqI (i : Int) at_ && ltI 0 (st.length : Int))
    · rfl
    · rw [cond_true, nth_split, if_neg (by simp), show (st ++ [reStep (nth l i) bi bn bp]).length - 1 - st.length = 0 by simp]
      rfl
  | j + 2, i, _, h2 => by
    have ih := trail_last (j + 1) (i + 1) (by omega) (by omega)
    have hl := partV_len (l := l) (at_ := at_) (st := st) (bi := bi) (bn := bn) (bp := bp) i
    rw [show trailL l at_ st bi bn bp (j + 2) i = partV l at_ st bi bn bp i ++ trailL l at_ st bi bn bp (j + 1) (i + 1) from rfl, List.length_append, nth_split, if_neg (by omega), show (partV l at_ st bi bn bp i).length + (trailL l at_ st bi bn bp (j + 1) (i + 1)).length - 1 - (partV l at_ st bi bn bp i).length = (trailL l at_ st bi bn bp (j + 1) (i + 1)).length - 1 by omega]
    exact ⟨ih.1, by omega⟩
theorem trail_len : ∀ j i, (trailL l at_ st bi bn bp j i).length ≤ j * (st.length + 1)
  | 0, _ => by simp [trailL]
  | j + 1, i => by
    have h1 := trail_len j (i + 1)
    have hl := partV_len (l := l) (at_ := at_) (st := st) (bi := bi) (bn := bn) (bp := bp) i
    simp only [trailL, List.length_append]
    rw [Nat.succ_mul]; omega
end

theorem head_eqs {a b : AV} (h : headN a = headN b) : (eqI (a.fld 0).toInt (b.fld 0).toInt && (eqS (a.fld 1).toBlob (b.fld 1).toBlob && (eqS (a.fld 2).toBlob (b.fld 2).toBlob && (eqI (a.fld 3).toInt (b.fld 3).toInt && true)))) = true := by
  have q0 : (a.fld 0).toInt = (b.fld 0).toInt := (show ((headN a).fld 0).toInt = ((headN b).fld 0).toInt by rw [h])
  have q1 : (a.fld 1).toBlob = (b.fld 1).toBlob := (show ((headN a).fld 1).toBlob = ((headN b).fld 1).toBlob by rw [h])
  have q2 : (a.fld 2).toBlob = (b.fld 2).toBlob := (show ((headN a).fld 2).toBlob = ((headN b).fld 2).toBlob by rw [h])
  have q3 : (a.fld 3).toInt = (b.fld 3).toInt := (show ((headN a).fld 3).toInt = ((headN b).fld 3).toInt by rw [h])
  rw [eqI_t q0, eqS_t q1, eqS_t q2, eqI_t q3]; rfl
theorem trailLeads_runs {gh : Int} {gl gt : List UInt8} {gn : Int} {t : List UInt8} {c1 c2 c3 c4 c5 c6 : Int} {l : List AV} {at_ : Int} {st : List AV} {bi bn : Int} {bp : List AV} {w : Int} {tx : List UInt8} {oi om : Int} {op : List AV}
    (ht : t.length = 32) (hl : l.length ≤ maxLen) (hst : st.length ≤ maxLen) (hL : Steps l) (hS : Steps st) (hpl : PathsOk l) (hb : Blob32 bp) (ho : Blob32 op) :
    RunsX 6 [Cfg gh gl gt gn t c1 c2 c3 c4 c5 c6, .slice l, Ix at_ st bi bn bp w tx oi om op] ⟨[.bool true], [], false⟩ := by
  obtain ⟨b1, h1, r1⟩ := much50_runs (l := l) (at_ := at_) (st := st) (bi := bi) (bn := bn) (bp := bp) (w := w) (tx := tx) (oi := oi) (om := om) (op := op) hl hst
  cases b1 with
  | true =>
    refine Evt.succ ((r1.and trailAwake).mono fun n hn => ?_)
    rw [f6_run, f6_eq, hn.1, step1, toBool_b, cond_true, hn.2]; rfl
  | false =>
  obtain ⟨m1, m2, m3, m4, m5⟩ := h1 rfl
  have r2 := validCheck_runs (gh := gh) (gl := gl) (gt := gt) (gn := gn) (t := t) (c1 := c1) (c2 := c2) (c3 := c3) (c4 := c4) (c5 := c5) (c6 := c6) (l := l) ht (by omega) hL
  by_cases hz : ((validV gh gl gt gn t c2 l).fld 0).toInt = 0
  case neg =>
    refine Evt.succ (((r1.and r2).and trailAwake).mono fun n hn => ?_)
    obtain ⟨⟨g1, g2⟩, g3⟩ := hn
    rw [f6_run, f6_eq, g1, step1, toBool_b, cond_false, g2, step1, eqI_f hz, not_f, cond_true, g3]
    rfl
  have V := validV_zero hz
  have r3 := within_runs (t := t) (l := l) (at_ := at_) (st := st) (bi := bi) (bn := bn) (bp := bp) (w := w) (tx := tx) (oi := oi) (om := om) (op := op) ht (by omega) (by omega) hL hS hb ho (by omega)
  by_cases hw : withinV t l at_ st bi bn bp w tx oi om op = 0
  case neg =>
    refine Evt.succ ((((r1.and r2).and trailAwake).and r3).mono fun n hn => ?_)
    obtain ⟨⟨⟨g1, g2⟩, g3⟩, g4⟩ := hn
    rw [f6_run, f6_eq, g1, step1, toBool_b, cond_false, g2, step1, eqI_t hz, not_t, cond_false, g4, step1, toInt_i, eqI_f hw, not_f, cond_true, g3]
    rfl
  have r4 := trail_runs (t := t) (l := l) (at_ := at_) (st := st) (bi := bi) (bn := bn) (bp := bp) (w := w) (tx := tx) (oi := oi) (om := om) (op := op) ht (by omega) (by omega) (by omega) hpl hL hS hb ho (by omega)
  have r5 := at_runs (l := l) (at_ := at_) (st := st) (bi := bi) (bn := bn) (bp := bp) (w := w) (tx := tx) (oi := oi) (om := om) (op := op)
  have r6 := block_runs (l := l) (at_ := at_) (st := st) (bi := bi) (bn := bn) (bp := bp) (w := w) (tx := tx) (oi := oi) (om := om) (op := op)
  have hp : placeV (l.length : Int) at_ w st.length = 0 := by
    by_cases h : placeV (l.length : Int) at_ w st.length = 0
    · exact h
    · unfold withinV at hw; rw [eqI_f h, not_f, cond_true] at hw; exact absurd hw h
  obtain ⟨p1, p2, p3, p4, p5, p6⟩ := placeV_zero hp
  obtain ⟨p, rfl⟩ : ∃ p : Nat, at_ = (p : Int) := ⟨at_.toNat, by omega⟩
  obtain ⟨v, rfl⟩ : ∃ v : Nat, w = (v : Int) := ⟨w.toNat, by omega⟩
  have hin : innerV t l p st bi bn bp = 0 := by
    by_cases h : innerV t l p st bi bn bp = 0
    · exact h
    · unfold withinV at hw
      rw [eqI_t hp, not_t, cond_false, Int.toNat_natCast, eqI_f h, not_f, cond_true] at hw
      exact absurd hw h
  obtain ⟨l0, hanc⟩ := ancS_zero V.anc
  have hI : 0 < st.length → ∀ q : Nat, (p : Int) = (q : Int) → (∀ k, k < st.length → oneA t (nth st k) (aheadA ((nth l (q - 1)).fld 0) st k) (hgt (nth l q)) = 0) ∧ leadsV (((nth l q).fld 0).fld 1).toBlob (idA (aheadA ((nth l (q - 1)).fld 0) st st.length)) bi bn bp = true := by
    intro h0 q hq
    obtain rfl : p = q := by omega
    unfold innerV at hin
    rw [eqI_f (by omega), cond_false] at hin
    obtain ⟨i1, i2⟩ := innerL_zero st.length 0 hin
    rw [Nat.zero_add] at i2
    exact ⟨fun k hk => i1 k (by omega) (by omega), i2⟩
  have hg := trail_good (bi := bi) (bn := bn) (bp := bp) V.step hI (l.length - 1) 1 (by omega) (by omega)
  have hT : trailL l (p : Int) st bi bn bp l.length 0 = stepN (nth l 0) :: trailL l (p : Int) st bi bn bp (l.length - 1) 1 := by
    have e : l.length = (l.length - 1) + 1 := by omega
    rw [show trailL l (p : Int) st bi bn bp l.length 0 = trailL l (p : Int) st bi bn bp ((l.length - 1) + 1) 0 from by rw [← e]]
    simp only [trailL]
    rw [part_one (by
      by_cases h0 : st.length = 0
      · exact .inr h0
      · exact .inl fun he => p5 (by omega) he.symm)]
    rfl
  obtain ⟨ps1, ps2⟩ := trail_pos (l := l) (st := st) (bi := bi) (bn := bn) (bp := bp) (v := v) (rfl : (p : Int) = (p : Int)) (by omega) (by omega) l.length 0 (by omega) (by omega)
  rw [Nat.sub_zero] at ps1 ps2
  obtain ⟨ls1, ls2⟩ := trail_last (l := l) (at_ := (p : Int)) (st := st) (bi := bi) (bn := bn) (bp := bp) l.length 0 (by omega) (by omega)
  have hlen : (trailL l (p : Int) st bi bn bp l.length 0).length ≤ 10000000 := by
    refine Nat.le_trans (trail_len l.length 0) (Nat.le_trans (Nat.mul_le_mul m1 (Nat.succ_le_succ m2)) (by decide))
  have hall2 : ∀ i, i < (trailL l (p : Int) st bi bn bp l.length 0).length → okV (idA ((nth (trailL l (p : Int) st bi bn bp l.length 0) i).fld 0)) t = true ∧ (0 < i → goodAt t ((nth (trailL l (p : Int) st bi bn bp l.length 0) (i - 1)).fld 0) (nth (trailL l (p : Int) st bi bn bp l.length 0) i)) := by
    intro i hi
    rw [hT] at hi ⊢
    match i, hi with
    | 0, _ =>
      exact ⟨(stepErr_zero (V.step 0 (by omega))).2.1, fun h => absurd h (by omega)⟩
    | i + 1, hi =>
      have g := goodL_nth hg i (by simp at hi; omega)
      have e : aheadA (headN ((nth l (1 - 1)).fld 0)) (trailL l (p : Int) st bi bn bp (l.length - 1) 1) i = (nth (stepN (nth l 0) :: trailL l (p : Int) st bi bn bp (l.length - 1) 1) i).fld 0 := by
        have := aheadA_cons (stepN (nth l 0)) (stepN (nth l 0)) (trailL l (p : Int) st bi bn bp (l.length - 1) 1) i
        have h2 : (stepN (nth l 0)).fld 0 = headN ((nth l (1 - 1)).fld 0) := rfl
        rw [← h2, ← this]
        unfold aheadA
        rw [if_neg (by omega), Nat.add_sub_cancel]
      rw [e] at g
      rw [nth_cons, Nat.add_sub_cancel]
      exact ⟨g.1, fun _ => g⟩
  have hSt : Steps (trailL l (p : Int) st bi bn bp l.length 0) := by
    have key : ∀ j i, i + j ≤ l.length → Steps (trailL l (p : Int) st bi bn bp j i) := by
      intro j
      induction j with
      | zero => intro i _ k hk; simp [trailL] at hk
      | succ j ih =>
        intro i hij k hk
        simp only [trailL] at hk ⊢
        rw [nth_split]
        by_cases hlt : k < (partV l (p : Int) st bi bn bp i).length
        · rw [if_pos hlt]
          unfold partV at hlt ⊢
          cases hc : (eqI (i : Int) (p : Int) && ltI 0 (st.length : Int)) with
          | false =>
            rw [hc, cond_false] at hlt
            rw [cond_false]
            obtain rfl : k = 0 := by simpa using hlt
            exact hL i (by omega)
          | true =>
            rw [hc, cond_true] at hlt
            rw [cond_true, nth_split]
            by_cases hk2 : k < st.length
            · rw [if_pos hk2]; exact hS k hk2
            · rw [if_neg hk2]
              rw [List.length_append] at hlt
              rw [show k - st.length = 0 by simp at hlt; omega]
              exact ⟨(hL i (by omega)).1, hb⟩
        · rw [if_neg hlt]
          rw [List.length_append] at hk
          exact ih (i + 1) (by omega) _ (by omega)
    exact key l.length 0 (by omega)
  rw [hw, eqI_t (a := 0) (b := 0) rfl, not_t, cond_false] at r4
  rw [eqI_t hp, not_t, cond_false, w64 (by omega) (by omega)] at r5
  unfold blockV at r6
  rw [eqI_t hp, not_t, cond_false, Int.toNat_natCast, Int.toNat_natCast] at r6
  generalize trailL l (p : Int) st bi bn bp l.length 0 = T at *
  have hrun := Evt.all T.length fun i (hi : i < T.length) =>
    ((id_runs (hSt i hi).1).and (workOk_runs (idA_len ((nth T i).fld 0)) ht)).and
    ((above_runs (h := hgt (nth T i)) (ls := (((nth T i).fld 0).fld 1).toBlob) (ts := (((nth T i).fld 0).fld 2).toBlob) (nc := (((nth T i).fld 0).fld 3).toInt) (h' := hgt (nth T (i - 1))) (ls' := (((nth T (i - 1)).fld 0).fld 1).toBlob) (ts' := (((nth T (i - 1)).fld 0).fld 2).toBlob) (nc' := (((nth T (i - 1)).fld 0).fld 3).toInt)).and
    (holds_runs' (h := (((nth T i).fld 0).fld 0).toInt) (ls := (((nth T i).fld 0).fld 1).toBlob) (ts := (((nth T i).fld 0).fld 2).toBlob) (nc := (((nth T i).fld 0).fld 3).toInt) (i := (((nth T i).fld 1).fld 0).toInt) (n := (((nth T i).fld 1).fld 1).toInt) (hSt i hi).2 (hSt (i - 1) (by omega)).1))
  refine Evt.succ (((((r1.and r2).and trailAwake).and (r3.and r4)).and ((r5.and r6).and (hrun.and (Evt.ge (T.length + 2))))).mono fun n hn => ?_)
  obtain ⟨⟨⟨⟨g1, g2⟩, g3⟩, g4, g5⟩, ⟨g6, g7⟩, g8, g9⟩ := hn
  have key : ∀ (j k i : Nat), i + j = T.length → j < k → f6_l0 (runE G ext n) n k gh gl gt gn t c1 c2 c3 c4 c5 c6 T (i : Int) = some ⟨[.bool true], [], false⟩ := by
    intro j
    induction j with
    | zero =>
      intro k i hi hk
      obtain ⟨k, rfl⟩ : ∃ j, k = j + 1 := ⟨k - 1, by omega⟩
      rw [f6_l0_eq, ltI_f (by omega), cond_false, g3]; rfl
    | succ j ih =>
      intro k i hi hk
      obtain ⟨k, rfl⟩ : ∃ j, k = j + 1 := ⟨k - 1, by omega⟩
      have ih' := ih k (i + 1) (by omega) (by omega)
      rw [show ((i + 1 : Nat) : Int) = (i : Int) + 1 by omega] at ih'
      obtain ⟨⟨e1, e2⟩, e3, e4⟩ := g8 i (by omega)
      obtain ⟨k1, k2⟩ := hall2 i (by omega)
      rw [k1] at e2
      unfold idA at e2
      rw [f6_l0_eq, ltI_t (a := (i : Int)) (b := (T.length : Int)) (by omega), cond_true, inR_nat (by omega), cond_true, Int.toNat_natCast, e1, step1, toBlob_b, e2, step1, toBool_b, not_t, cond_false, w64 (x := (i : Int) + 1) (by omega) (by omega), ih']
      by_cases h0 : i = 0
      · rw [ltI_f (by omega), cond_false]
      · obtain ⟨_, q2, q3⟩ := k2 (by omega)
        have q2' : ltI (hgt (nth T (i - 1))) (hgt (nth T i)) = true := ltI_t q2
        have q3' : leadsV (((nth T i).fld 0).fld 1).toBlob (idV (((nth T (i - 1)).fld 0).fld 0).toInt (((nth T (i - 1)).fld 0).fld 1).toBlob (((nth T (i - 1)).fld 0).fld 2).toBlob (((nth T (i - 1)).fld 0).fld 3).toInt) (((nth T i).fld 1).fld 0).toInt (((nth T i).fld 1).fld 1).toInt (((nth T i).fld 1).fld 2).toSlice = true := q3
        rw [q2'] at e3
        rw [q3'] at e4
        unfold hgt at e3
        rw [ltI_t (a := 0) (b := (i : Int)) (by omega), cond_true, w64 (x := (i : Int) - 1) (by omega) (by omega), show (i : Int) - 1 = ((i - 1 : Nat) : Int) by omega, inR_nat (i := i - 1) (by omega), cond_true, cond_true, Int.toNat_natCast, e3, step1, toBool_b, not_t, cond_false, cond_true, e4, step1, toBool_b, not_t, cond_false]
        rfl
  have c0 : nth T 0 = stepN (nth l 0) := by rw [hT]; rfl
  rw [f6_run, f6_eq, g1, step1, toBool_b, cond_false, g2, step1, eqI_t hz, not_t, cond_false, g4, hw, step1, toInt_i, eqI_t (a := 0) rfl, not_t, cond_false, g5, step2, toSlice_s, toInt_i, g6, step1, toInt_i, g7, step2, toBool_b]
  rw [eqI_t (a := 0) (b := 0) rfl, not_t, cond_false, cond_false, ltI_f (by omega), cond_false, leI_f (by omega), cond_false, inR_int (by omega) (by omega), cond_true, show ((p : Int) + (v : Int)).toNat = p + v by omega]
  have E1 := head_eqs ps1
  have E1' : (eqI (((nth T (p + v)).fld 0).fld 0).toInt ((headN (blkA l p st v)).fld 0).toInt && (eqS (((nth T (p + v)).fld 0).fld 1).toBlob ((headN (blkA l p st v)).fld 1).toBlob && (eqS (((nth T (p + v)).fld 0).fld 2).toBlob ((headN (blkA l p st v)).fld 2).toBlob && (eqI (((nth T (p + v)).fld 0).fld 3).toInt ((headN (blkA l p st v)).fld 3).toInt && true)))) = true := E1
  have E2 : (eqI (((nth T 0).fld 0).fld 0).toInt gh && (eqS (((nth T 0).fld 0).fld 1).toBlob gl && (eqS (((nth T 0).fld 0).fld 2).toBlob gt && (eqI (((nth T 0).fld 0).fld 3).toInt gn && true)))) = true := by
    rw [c0]; exact hanc
  have E3 := head_eqs ls1
  rw [E1', not_t, cond_false, inR_int (by omega) (by omega), cond_true, E2, not_t, cond_false, w64 (x := (T.length : Int) - 1) (by omega) (by omega), w64 (x := (l.length : Int) - 1) (by omega) (by omega), show (T.length : Int) - 1 = ((T.length - 1 : Nat) : Int) by omega, show (l.length : Int) - 1 = ((l.length - 1 : Nat) : Int) by omega, inR_nat (by omega), cond_true, inR_nat (by omega), cond_true, Int.toNat_natCast, Int.toNat_natCast, E3, not_t, cond_false]
  exact key T.length n 0 (by omega) (by omega)
theorem trailLeads_sat (xs : List AV) (h : Ty.HasL [.struct [.struct [.int .u32, .blob 32, .blob 32, .int .u64], .blob 32, .int .i64, .int .i64, .int .i64, .int .i64, .int .i64, .int .i64], .slice (.struct [.struct [.int .u32, .blob 32, .blob 32, .int .u64], .struct [.int .i64, .int .i64, .slice (.blob 32)]]), .struct [.int .i64, .slice (.struct [.struct [.int .u32, .blob 32, .blob 32, .int .u64], .struct [.int .i64, .int .i64, .slice (.blob 32)]]), .struct [.int .i64, .int .i64, .slice (.blob 32)], .int .i64, .str, .struct [.int .i64, .int .i64, .slice (.blob 32)]]] xs) : ∃ r, r.vals = [.bool true] ∧ Sat Try.prog f6_info 6 xs r := by
  obtain ⟨x, r, rfl, hx, y, r2, rfl, ⟨l, rfl, hl, _, hlx⟩, z, r3, rfl, hz, rfl⟩ := h
  obtain ⟨gh, gl, gt, gn, t, c1, c2, c3, c4, c5, c6, rfl, ht, _⟩ := cfg_of hx
  obtain ⟨at_, st, bi, bn, bp, w, tx, oi, om, op, rfl, hst, hS, hb, ho, _⟩ := infix_of hz
  exact ⟨_, rfl, sat_of_runsX (by kernel_rfl) (trailLeads_runs ht hl hst (steps_of hlx) hS (pathOk_of hlx) hb ho)⟩

end Go.Proofs.Ytncajhkogppojaa.Ev
