/- Infix proofs of a chain hold beside the chain's proof. -/
import Derived.Test.YtogehijjhibdkaaGreatEvPProver
import Derived.Test.YtogehijjhibdkaaGreatEvPBet
import Derived.Test.YtogehijjhibdkaaGreatEvPWithin
namespace Go.Proofs.YtogehijjhibdkaaGreat.Ev
open Go Go.RowKit

/-- The first place whose number is no less. -/
def arN (L : List AV) (at_ : Int) : Nat → Nat → Nat
  | 0, i => i
  | j + 1, i => bif leI at_ (nth L i).toInt then i else arN L at_ j (i + 1)
theorem arN_spec {L : List AV} {at_ : Int} : ∀ j i, i + j = L.length → i ≤ arN L at_ j i ∧ arN L at_ j i ≤ L.length ∧ (arN L at_ j i < L.length → at_ ≤ (nth L (arN L at_ j i)).toInt) ∧ ∀ k, i ≤ k → k < arN L at_ j i → (nth L k).toInt < at_
  | 0, i, h => ⟨Nat.le_refl i, by show i ≤ _; omega, fun h2 => by have h3 : i < L.length := h2; omega, fun k h1 h2 => by have h3 : k < i := h2; omega⟩
  | j + 1, i, h => by
    simp only [arN]
    by_cases hc : at_ ≤ (nth L i).toInt
    · rw [leI_t hc, cond_true]
      exact ⟨Nat.le_refl i, by omega, fun _ => hc, fun k h1 h2 => by omega⟩
    · rw [leI_f hc, cond_false]
      obtain ⟨h1, h2, h3, h4⟩ := arN_spec (L := L) (at_ := at_) j (i + 1) (by omega)
      refine ⟨by omega, h2, h3, fun k k1 k2 => ?_⟩
      by_cases hk : k = i
      · rw [hk]; omega
      · exact h4 k (by omega) k2
theorem around_runs {L : List AV} {at_ : Int} (hL : L.length ≤ 100000) : RunsX 62 [.slice L, .int at_] ⟨[.int (arN L at_ L.length 0 : Int)], [], f62_fresh⟩ := by
  refine Evt.succ ((Evt.ge (L.length + 2)).mono fun n hn => ?_)
  have key : ∀ (j k i : Nat), i + j = L.length → j < k → f62_l0 (runE G ext n) n k L at_ L (L.length : Int) (i : Int) = some ⟨[.int (arN L at_ j i : Int)], [], f62_fresh⟩ := by
    intro j
    induction j with
    | zero =>
      intro k i hi hk
      obtain ⟨k, rfl⟩ : ∃ j, k = j + 1 := ⟨k - 1, by omega⟩
      obtain rfl : i = L.length := by omega
      rw [f62_l0_eq, ltI_f (by omega), cond_false]; rfl
    | succ j ih =>
      intro k i hi hk
      obtain ⟨k, rfl⟩ : ∃ j, k = j + 1 := ⟨k - 1, by omega⟩
      have ih' := ih k (i + 1) (by omega) (by omega)
      rw [show ((i + 1 : Nat) : Int) = (i : Int) + 1 by omega] at ih'
      simp only [arN]
      rw [f62_l0_eq, ltI_t (by omega), cond_true, inR_nat (by omega), cond_true, Int.toNat_natCast, w64 (x := (i : Int) + 1) (by omega) (by omega), ih']
      cases leI at_ (nth L i).toInt <;> rfl
  rw [f62_run, f62_eq]
  exact key L.length n 0 (by omega) (by omega)

theorem walkOk_app {L : List AV} {N a b : Nat} : ∀ {r s : List AV} {x : Nat}, walkOk L N a x r → walkOk L N b a s → walkOk L N b x (r ++ s)
  | [], s, x, h, k => by
    have h' : x = a := h
    rw [h']; exact k
  | y :: r, s, x, h, k => by
    obtain ⟨z, e1, e2, e3, e4, e5⟩ := h
    exact ⟨z, e1, e2, e3, e4, walkOk_app e5 k⟩

section
variable {t : List UInt8} {l ps : List AV} {p : Nat → Nat}
theorem walkG_L (hok : ∀ i, i < l.length → 0 ≤ levelV (idA ((nth l i).fld 0)) t) {«to» : Nat} : ∀ j x, x ≤ j + «to» → «to» ≤ x → x < l.length → walkG (levsV t l) («to» : Int) j (x : Int) = some (walkL (levsV t l) «to» j x)
  | 0, x, _, _, _ => rfl
  | j + 1, x, h1, h2, h3 => by
    simp only [walkG, walkL]
    by_cases h : «to» < x
    · obtain ⟨f1, y, e1, e2, e3, e4⟩ := far_fact hok h h3
      have f1' : (farV (levsV t l) (x : Int) («to» : Int)).2 = true := f1
      have e1' : (farV (levsV t l) (x : Int) («to» : Int)).1 = (y : Int) := e1
      rw [ltI_t (by omega), cond_true, f1', cond_true, e1', if_pos h, e1, Int.toNat_natCast, walkG_L hok j y (by omega) e2 (by omega)]
      rfl
    · rw [ltI_f (by omega), cond_false, if_neg h]
theorem walkV_L (hok : ∀ i, i < l.length → 0 ≤ levelV (idA ((nth l i).fld 0)) t) {x «to» : Nat} (h1 : «to» ≤ x) (h2 : x < l.length) : walkV (levsV t l) (x : Int) («to» : Int) = .int (x : Int) :: walkL (levsV t l) «to» x x := by
  unfold walkV
  rw [if_neg (by rw [levsV_len]; omega), Int.toNat_natCast, walkG_L hok x x (by omega) h1 h2]
  rfl

/-- The places by which one comes down from one to another, through a third one. -/
structure Way (t : List UInt8) (l : List AV) (high q low : Nat) (ps : List AV) (p : Nat → Nat) (c : Nat) : Prop where
  walk : WalkP t l ps p
  len : 3 ≤ ps.length
  le : ps.length ≤ 2 * l.length
  eq : ps = [.int (low : Int)] ++ betV (levsV t l) (high : Int) (q : Int) (low : Int) ++ [.int (high : Int)]
  blen : (betV (levsV t l) (high : Int) (q : Int) (low : Int)).length + 2 = ps.length
  first : p 0 = low
  last : p (ps.length - 1) = high
  mid : p c = q
  c1 : 1 ≤ c
  c2 : c + 1 < ps.length

theorem way_exists (hok : ∀ i, i < l.length → 0 ≤ levelV (idA ((nth l i).fld 0)) t) {high q low : Nat} (h1 : low < q) (h2 : q < high) (h3 : high < l.length) : ∃ ps p c, Way t l high q low ps p c := by
  have o1 := walkL_ok hok («to» := q) high high (by omega) (by omega) h3
  have o2 := walkL_ok hok («to» := low) q q (by omega) (by omega) (by omega)
  have v1 := walkV_L hok (x := high) («to» := q) (by omega) h3
  have v2 := walkV_L hok (x := q) («to» := low) (by omega) (by omega)
  have l1 := walkL_len (levsV t l) q high high
  have l2 := walkL_len (levsV t l) low q q
  have hw := walkOk_app o1 o2
  have a1 := (walkOk_at o1).2
  generalize hr1 : walkL (levsV t l) q high high = r1 at *
  generalize hr2 : walkL (levsV t l) low q q = r2 at *
  have n1 : 1 ≤ r1.length := by
    cases r1 with
    | nil => have : high = q := o1; omega
    | cons _ _ => simp
  have n2 : 1 ≤ r2.length := by
    cases r2 with
    | nil => have : q = low := o2; omega
    | cons _ _ => simp
  obtain ⟨w1, w2⟩ := walkOk_at hw
  have hlen : (r1 ++ r2).length = r1.length + r2.length := List.length_append
  have hbet : betV (levsV t l) (high : Int) (q : Int) (low : Int) = (r1 ++ r2).dropLast.reverse := by
    unfold betV
    rw [v1, v2, if_neg (by simp; omega)]
    rfl
  have hne : r1 ++ r2 ≠ [] := by
    intro h
    rw [h] at hlen
    have h4 : ([] : List AV).length = 0 := rfl
    omega
  have hlast : (r1 ++ r2).getLast hne = .int (low : Int) := by
    have hlt : r1.length + r2.length - 1 < (r1 ++ r2).length := by omega
    rw [hlen, show r1.length + r2.length = (r1.length + r2.length - 1) + 1 by omega] at w2
    have e : nth (AV.int (high : Int) :: (r1 ++ r2)) (r1.length + r2.length - 1 + 1) = nth (r1 ++ r2) (r1.length + r2.length - 1) := rfl
    rw [e, nth_lt hlt] at w2
    rw [List.getLast_eq_getElem, ← w2]
    congr 1
    omega
  have hps : [.int (low : Int)] ++ betV (levsV t l) (high : Int) (q : Int) (low : Int) ++ [.int (high : Int)] = (AV.int (high : Int) :: (r1 ++ r2)).reverse := by
    rw [hbet, List.reverse_cons]
    congr 1
    rw [← hlast]
    conv => rhs; rw [← List.dropLast_concat_getLast hne]
    rw [List.reverse_append]
    rfl
  have hpl : (AV.int (high : Int) :: (r1 ++ r2)).reverse.length = r1.length + r2.length + 1 := by rw [List.length_reverse, List.length_cons, hlen]
  have hnth : ∀ i, i ≤ r1.length + r2.length → nth (AV.int (high : Int) :: (r1 ++ r2)).reverse i = nth (AV.int (high : Int) :: (r1 ++ r2)) (r1.length + r2.length - i) := by
    intro i hi
    rw [nth_lt (by rw [hpl]; omega), nth_lt (by rw [List.length_cons, hlen]; omega), List.getElem_reverse]
    congr 1
    rw [List.length_cons, hlen]
    omega
  have hint : ∀ k, k ≤ r1.length + r2.length → ∃ a : Nat, nth (AV.int (high : Int) :: (r1 ++ r2)) k = .int (a : Int) ∧ a < l.length := by
    intro k hk
    by_cases hk2 : k < r1.length + r2.length
    · obtain ⟨a, b, e1, e2, e3, e4, _⟩ := w1 k (by rw [hlen]; exact hk2)
      exact ⟨a, e1, e4⟩
    · refine ⟨low, ?_, by omega⟩
      rw [show k = (r1 ++ r2).length by omega]
      exact w2
  refine ⟨_, fun i => (nth (AV.int (high : Int) :: (r1 ++ r2)).reverse i).toInt.toNat, r2.length, ⟨⟨fun i hi => ?_, fun i hi => ?_, fun i hi => ?_⟩, by rw [hpl]; omega, by rw [hpl]; omega, hps.symm, ?_, ?_, ?_, ?_, n2, by rw [hpl]; omega⟩⟩
  · rw [hpl] at hi
    obtain ⟨a, e1, _⟩ := hint (r1.length + r2.length - i) (by omega)
    rw [hnth i (by omega), e1]; rfl
  · rw [hpl] at hi
    obtain ⟨a, e1, e2⟩ := hint (r1.length + r2.length - i) (by omega)
    show (nth _ i).toInt.toNat < _
    rw [hnth i (by omega), e1]; exact e2
  · rw [hpl] at hi
    obtain ⟨a, b, e1, e2, e3, e4, k, k1, k2⟩ := w1 (r1.length + r2.length - (i + 1)) (by omega)
    rw [show r1.length + r2.length - (i + 1) + 1 = r1.length + r2.length - i by omega] at e2
    have f1 : (nth (AV.int (high : Int) :: (r1 ++ r2)).reverse (i + 1)).toInt.toNat = a := by rw [hnth (i + 1) (by omega), e1]; rfl
    have f2 : (nth (AV.int (high : Int) :: (r1 ++ r2)).reverse i).toInt.toNat = b := by rw [hnth i (by omega), e2]; rfl
    show (nth _ i).toInt.toNat < (nth _ (i + 1)).toInt.toNat ∧ _
    rw [f1, f2]
    exact ⟨e3, k, k1, k2⟩
  · rw [hpl, hbet, List.length_reverse, List.length_dropLast, hlen]; omega
  · show (nth _ 0).toInt.toNat = low
    rw [hnth 0 (by omega), Nat.sub_zero, ← hlen, w2]; rfl
  · show (nth _ _).toInt.toNat = high
    rw [hpl, hnth _ (by omega), show r1.length + r2.length - (r1.length + r2.length + 1 - 1) = 0 by omega]; rfl
  · show (nth _ r2.length).toInt.toNat = q
    rw [hnth _ (by omega), show r1.length + r2.length - r2.length = r1.length by omega]
    have e : nth (AV.int (high : Int) :: (r1 ++ r2)) r1.length = nth (AV.int (high : Int) :: r1) r1.length := by
      rw [← List.cons_append]
      exact nth_app (by simp)
    rw [e, a1]; rfl

theorem WalkP.mono (W : WalkP t l ps p) : ∀ {i j : Nat}, i ≤ j → j < ps.length → p i ≤ p j := by
  intro i j h
  induction h with
  | refl => intro _; exact Nat.le_refl _
  | step h ih =>
    intro hj
    have h1 := ih (by omega)
    have h2 := (W.next _ hj).1
    exact Nat.le_trans h1 (Nat.le_of_lt h2)
theorem WalkP.strict (W : WalkP t l ps p) {i j : Nat} (h : i < j) (hj : j < ps.length) : p i < p j :=
  Nat.lt_of_lt_of_le (W.next i (by omega)).1 (W.mono h hj)
end

theorem ix_norm (at_ : Int) (st : List AV) (bi bn : Int) (bp : List AV) (w : Int) (tx : List UInt8) (oi om : Int) (op : List AV) :
    AV.agg [.int (((Ix at_ st bi bn bp w tx oi om op).fld 0).toInt), .slice (((Ix at_ st bi bn bp w tx oi om op).fld 1).toSlice), .agg [.int ((((Ix at_ st bi bn bp w tx oi om op).fld 2).fld 0).toInt), .int ((((Ix at_ st bi bn bp w tx oi om op).fld 2).fld 1).toInt), .slice ((((Ix at_ st bi bn bp w tx oi om op).fld 2).fld 2).toSlice)], .int (((Ix at_ st bi bn bp w tx oi om op).fld 3).toInt), .str (((Ix at_ st bi bn bp w tx oi om op).fld 4).toStr), .agg [.int ((((Ix at_ st bi bn bp w tx oi om op).fld 5).fld 0).toInt), .int ((((Ix at_ st bi bn bp w tx oi om op).fld 5).fld 1).toInt), .slice ((((Ix at_ st bi bn bp w tx oi om op).fld 5).fld 2).toSlice)]] = Ix at_ st bi bn bp w tx oi om op := rfl

/-- What an infix proof is to be. -/
structure IxOk (t : List UInt8) (l S : List AV) (q A : Nat) (st : List AV) (bi bn : Int) (bp : List AV) (w : Int) : Prop where
  steps : Steps st
  blob : Blob32 bp
  le : st.length ≤ 1000
  place : placeV (S.length : Int) (A : Int) w st.length = 0
  inner : innerV t S A st bi bn bp = 0
  head : headN (blkA S A st w.toNat) = headN ((nth l q).fld 0)

section
variable {gh : Int} {gl gt : List UInt8} {gn : Int} {t : List UInt8} {m K a b c5 c6 : Int} {l ps : List AV} {p : Nat → Nat}
theorem wayInner_runs (ht : t.length = 32) (hl : l.length ≤ 400) (hh : Heads l) (W : WalkP t l ps p) (hok : ∀ i, i < l.length → 0 ≤ levelV (idA ((nth l i).fld 0)) t) (hB : ∀ i, i < l.length → BlkOk t l i) {A q : Nat} (hA1 : 1 ≤ A) (hA : A < ps.length) (hps : ps.length ≤ 100000) (h1 : p (A - 1) < q) (h2 : q < p A) {tx : List UInt8} {oi om : Int} {op : List AV} :
    ∃ st bi bn bp w, IxOk t l (stepsP t l ps p) q A st bi bn bp w ∧ RunsX 63 [.blob t, .slice l, .slice ps, .int (q : Int), Ix (A : Int) [] 0 0 [] 0 tx oi om op] ⟨[Ix (A : Int) st bi bn bp w tx oi om op, .int 0], [], f63_fresh⟩ := by
  obtain ⟨ps', p', c, Y⟩ := way_exists hok h1 h2 (W.lt A hA)
  have W' := Y.walk
  have n3 := Y.len
  have nle := Y.le
  have hbl := Y.blen
  have hSl : (stepsP t l ps p).length = ps.length := stepsP_len
  have hSl' : (stepsP t l ps' p').length = ps'.length := stepsP_len
  have hsteps := stepsP_steps W' hok hh
  have hq : q < l.length := by have := W.lt A hA; omega
  have rs := proveSteps_runs (t := t) (l := l) (ps := ps') ht (by omega) hh (by omega)
  rw [proveL_walk W' hok] at rs
  have rb := between_runs (L := levsV t l) (a := (p A : Int)) (b := (q : Int)) (c := (p (A - 1) : Int)) (by rw [levsV_len]; omega)
  have Yeq := Y.eq
  generalize hBdef : betV (levsV t l) (p A : Int) (q : Int) (p (A - 1) : Int) = B at *
  have ra := around_runs (L := B) (at_ := (q : Int)) (by omega)
  have hnB : ∀ i, i < B.length → nth B i = .int (p' (i + 1) : Int) := by
    intro i hi
    have h := W'.at_ (i + 1) (by omega)
    rw [← h, nth_lt hi, nth_lt (by omega)]
    have e : ps'[i + 1]'(by omega) = ([AV.int (p (A - 1) : Int)] ++ B ++ [AV.int (p A : Int)])[i + 1]'(by simp; omega) := by
      congr 1
    rw [e]
    show _ = (AV.int (p (A - 1) : Int) :: (B ++ [AV.int (p A : Int)]))[i + 1]'(by simp; omega)
    rw [List.getElem_cons_succ, List.getElem_append_left hi]
  obtain ⟨_, s2, s3, s4⟩ := arN_spec (L := B) (at_ := (q : Int)) B.length 0 (by omega)
  generalize hr : arN B (q : Int) B.length 0 = r at *
  have hc1 := Y.c1
  have hc2 := Y.c2
  have hrc : r ≤ c - 1 := by
    apply Nat.le_of_not_lt
    intro hlt
    have := s4 (c - 1) (by omega) hlt
    rw [hnB (c - 1) (by omega), show c - 1 + 1 = c by omega, Y.mid, toInt_i] at this
    omega
  have hrB : r < B.length := by omega
  have hrq : p' (r + 1) = q := by
    have e1 := s3 hrB
    rw [hnB r hrB, toInt_i] at e1
    have e2 := W'.mono (i := r + 1) (j := c) (by omega) (by omega)
    rw [Y.mid] at e2
    omega
  generalize hst : List.drop 1 (List.take (ps'.length - 1) (stepsP t l ps' p')) = st
  have hstl : st.length = ps'.length - 2 := by rw [← hst, List.length_drop, List.length_take, hSl']; omega
  have hsti : ∀ i, i < st.length → nth st i = stepP t l ps' p' (i + 1) := by
    intro i hi
    rw [← stepsP_nth (t := t) (l := l) (ps := ps') (p := p') (show i + 1 < ps'.length by omega), nth_lt hi, nth_lt (by omega)]
    subst hst
    rw [List.getElem_drop, List.getElem_take]
    congr 1
    omega
  have hlast : nth (stepsP t l ps' p') (ps'.length - 1) = stepP t l ps' p' (ps'.length - 1) := stepsP_nth (by omega)
  have hbb := (stepP_blob W' hok (i := ps'.length - 1) (by omega)).1
  refine ⟨st, ((((stepP t l ps' p' (ps'.length - 1)).fld 1).fld 0).toInt), ((((stepP t l ps' p' (ps'.length - 1)).fld 1).fld 1).toInt), ((((stepP t l ps' p' (ps'.length - 1)).fld 1).fld 2).toSlice), (r : Int), ⟨fun i hi => ?_, ?hblob, by omega, placeV_ok ⟨by omega, by rw [hSl]; omega, by omega, by omega, fun _ => by omega, by omega⟩, ?hin, ?hhead⟩, ?hrun⟩
  · rw [hsti i hi, ← stepsP_nth (show i + 1 < ps'.length by omega)]
    exact hsteps (i + 1) (by omega)
  case hrun =>
    refine Evt.succ ((((levels_runs (t := t) (l := l) ht (by omega) hh).and rb).and (rs.and ra)).mono fun n hn => ?_)
    obtain ⟨⟨g1, g2⟩, g3, g4⟩ := hn
    have e1 : (nth ps A).toInt = (p A : Int) := by rw [W.at_ A hA]; rfl
    have e2 : (nth ps (A - 1)).toInt = (p (A - 1) : Int) := by rw [W.at_ (A - 1) (by omega)]; rfl
    have b1 : Nat.ble ((1 + B.length) * 8) 140737488355328 = true := Nat.ble_eq_true_of_le (by omega)
    have b2 : Nat.ble ((([.int (p (A - 1) : Int)] ++ B : List AV).length + 1) * 8) 140737488355328 = true := Nat.ble_eq_true_of_le (by simp; omega)
    have b3 : (boundsOk 1 ((ps'.length - 1 : Nat) : Int) (ps'.length : Int) (ps'.length : Int) && true) = true := by simp [boundsOk]; omega
    rw [f63_run, f63_eq, w64 (x := (A : Int) - 1) (by omega) (by omega), show (A : Int) - 1 = ((A - 1 : Nat) : Int) by omega, inR_nat (show A - 1 < ps.length by omega), cond_true, inR_nat hA, cond_true, g1, step1f, toSlice_s, Int.toNat_natCast, Int.toNat_natCast, e1, e2, g2, step1, toSlice_s, b1, cond_true, b2, cond_true, ← Yeq, g3, step2, toInt_i, eqI_t rfl, not_t, cond_false, toSlice_s, hSl', w64 (x := (ps'.length : Int) - 1) (by omega) (by omega), show (ps'.length : Int) - 1 = ((ps'.length - 1 : Nat) : Int) by omega, b3, cond_true, inR_nat (show ps'.length - 1 < ps'.length by omega), cond_true, g4, step1, toInt_i, Int.toNat_natCast, hst, hlast]
  case hblob => exact hbb
  case hhead =>
    unfold blkA
    rw [ltI_t (by omega), cond_true, Int.toNat_natCast, hsti r (by omega), stepP_head, hrq]
    rfl
  case hin =>
    have hah : ∀ i, i ≤ st.length → aheadA ((nth (stepsP t l ps p) (A - 1)).fld 0) st i = headN ((nth l (p' i)).fld 0) := by
      intro i hi
      unfold aheadA
      by_cases h0 : i = 0
      · rw [if_pos h0, stepsP_nth (by omega), stepP_head, h0, Y.first]
      · rw [if_neg h0, hsti (i - 1) (by omega), stepP_head, show i - 1 + 1 = i by omega]
    have htop : (nth (stepsP t l ps p) A).fld 0 = headN ((nth l (p A)).fld 0) := by rw [stepsP_nth hA, stepP_head]
    have hhg : ∀ j, j < l.length → ((headN ((nth l j).fld 0)).fld 0).toInt = (j : Int) := fun j hj => (hB j hj).height
    unfold innerV
    rw [eqI_f (by omega), cond_false, htop]
    have key : ∀ (j i : Nat), i + j = st.length → innerL t st ((nth (stepsP t l ps p) (A - 1)).fld 0) (headN ((nth l (p A)).fld 0)) ((((stepP t l ps' p' (ps'.length - 1)).fld 1).fld 0).toInt) ((((stepP t l ps' p' (ps'.length - 1)).fld 1).fld 1).toInt) ((((stepP t l ps' p' (ps'.length - 1)).fld 1).fld 2).toSlice) j i = 0 := by
      intro j
      induction j with
      | zero =>
        intro i hi
        have := stepP_leads W' hok hB (i := ps'.length - 1) (by omega) (by omega) (.agg [headN ((nth l (p' (ps'.length - 1 - 1))).fld 0)]) rfl
        simp only [innerL]
        rw [hah i (by omega), show i = ps'.length - 1 - 1 by omega]
        unfold holdsA at this
        rw [stepP_head, Y.last] at this
        have e : leadsV ((headN ((nth l (p A)).fld 0)).fld 1).toBlob (idA (headN ((nth l (p' (ps'.length - 1 - 1))).fld 0))) ((((stepP t l ps' p' (ps'.length - 1)).fld 1).fld 0).toInt) ((((stepP t l ps' p' (ps'.length - 1)).fld 1).fld 1).toInt) ((((stepP t l ps' p' (ps'.length - 1)).fld 1).fld 2).toSlice) = true := this
        rw [e]; rfl
      | succ j ih =>
        intro i hi
        have ih' := ih (i + 1) (by omega)
        have hl1 := W'.lt (i + 1) (by omega)
        have hl0 := W'.lt i (by omega)
        have hld := stepP_leads W' hok hB (i := i + 1) (by omega) (by omega) (.agg [headN ((nth l (p' (i + 1 - 1))).fld 0)]) rfl
        have hlt := W'.strict (i := i) (j := i + 1) (by omega) (by omega)
        have hlt2 := W'.strict (i := i + 1) (j := ps'.length - 1) (by omega) (by omega)
        rw [Y.last] at hlt2
        have hone : oneA t (nth st i) (aheadA ((nth (stepsP t l ps p) (A - 1)).fld 0) st i) ((headN ((nth l (p A)).fld 0)).fld 0).toInt = 0 := by
          rw [hah i (by omega), hsti i (by omega)]
          unfold oneA
          have hld' : holdsA (stepP t l ps' p' (i + 1)) (headN ((nth l (p' i)).fld 0)) = true := hld
          rw [hld', stepP_head, hhg _ hl0, hhg _ hl1, hhg _ (W.lt A hA), ltI_t (by omega), not_t, cond_false, leI_f (by omega), cond_false, headN_id, (hB _ hl1).ok, not_t, cond_false]; rfl
        simp only [innerL]
        rw [hone, eqI_t rfl, not_t, cond_false]
        exact ih'
    exact key st.length 0 (by omega)

theorem wayInfix_runs (ht : t.length = 32) (hB : Blocks l) (h24 : l.length ≤ 400) (hM : mayP m K a b = true) (hk : ¬ (l.length : Int) ≤ K) (hz : ((chainV gh gl gt gn t l).fld 0).toInt = 0) {P : List AV} (hV : Proved t l K P ps p)
    (rp : RunsX 21 [Cfg gh gl gt gn t m K a b c5 c6, .slice l] ⟨[.slice ps], [], true⟩) {q x : Nat} (hq : (q : Int) < (l.length : Int) - K) (hx : x < ((nth l q).fld 1).toSlice.length) :
    ∃ (A : Nat) (st : List AV) (bi bn : Int) (bp : List AV) (w : Int), IxOk t l (stepsP t l ps p) q A st bi bn bp w ∧ RunsX 29 [Cfg gh gl gt gn t m K a b c5 c6, .slice l, .int (q : Int), .int (x : Int)]
      ⟨[Ix (A : Int) st bi bn bp w (nth ((nth l q).fld 1).toSlice x).toStr (x : Int) (((nth l q).fld 1).toSlice.length : Int) (pathL (txT ((nth l q).fld 1).toSlice) (x : Int)), .int 0], [], f29_fresh⟩ := by
  obtain ⟨z1, z2, z3⟩ := chainV_zero' hz
  have hok := chain_levels z3
  have hBk : ∀ i, i < l.length → BlkOk t l i := fun i hi => blk_ok (z3 i hi)
  have hM' := hM
  unfold mayP at hM'
  rw [Bool.and_eq_true, decide_eq_true_iff] at hM'
  obtain ⟨⟨_, _, k1, k2⟩, _⟩ := hM'
  have W := hV.walk
  have hlen := hV.len
  have hl1 := hV.pick.len
  have hl2 := hV.pick.le
  have hql : q < l.length := by omega
  have hSl : (stepsP t l ps p).length = ps.length := stepsP_len
  have rm := proveMay_runs (gh := gh) (gl := gl) (gt := gt) (gn := gn) (t := t) (m := m) (K := K) (a := a) (b := b) (c5 := c5) (c6 := c6) (l := l) ht hB
  have e : mayE gh gl gt gn t m K a b l = 0 := by
    unfold mayE
    rw [eqI_t hz, not_t, cond_false, hM, not_t, cond_false, leI_f hk, cond_false]
  rw [e] at rm
  have rt := txOpen_runs (l := ((nth l q).fld 1).toSlice) (i := (x : Int)) (hB q hql).2.2 (hB q hql).2.1
  obtain ⟨o1, _⟩ := txOpened (l := ((nth l q).fld 1).toSlice) (i := (x : Int)) (by omega) (by omega) (hBk q hql).txs
  rw [o1] at rt
  have ra := around_runs (L := ps) (at_ := (q : Int)) (by omega)
  obtain ⟨_, s2, s3, s4⟩ := arN_spec (L := ps) (at_ := (q : Int)) ps.length 0 (by omega)
  generalize hA : arN ps (q : Int) ps.length 0 = A at *
  have hpl : p (P.length - 1) = l.length - K.toNat - 1 := by
    rw [hV.hp]
    unfold placeAt
    rw [if_pos (by omega), hV.pick.last, toInt_i, Int.toNat_natCast]
  have hp0 : p 0 = 0 := by
    rw [hV.hp]
    unfold placeAt
    rw [if_pos (by omega), hV.pick.first]
    rfl
  have hAP : A ≤ P.length - 1 := by
    apply Nat.le_of_not_lt
    intro hlt
    have := s4 (P.length - 1) (by omega) hlt
    rw [W.at_ (P.length - 1) (by omega), toInt_i, hpl] at this
    omega
  have hAl : A < ps.length := by omega
  have hqA : q ≤ p A := by
    have := s3 hAl
    rw [W.at_ A hAl, toInt_i] at this
    omega
  have eA : (nth ps A).toInt = (p A : Int) := by rw [W.at_ A hAl]; rfl
  by_cases hc : p A = q
  · refine ⟨A, [], 0, 0, [], 0, ⟨fun i hi => by simp at hi, no_blobs, by simp, placeV_ok ⟨by omega, by rw [hSl]; omega, by omega, by decide, fun h => by simp at h, by simp⟩, rfl, ?_⟩, ?_⟩
    · show headN ((nth (stepsP t l ps p) A).fld 0) = _
      rw [stepsP_nth hAl, stepP_head, hc]; rfl
    · refine Evt.succ (((rm.and rt).and (rp.and ra)).mono fun n hn => ?_)
      obtain ⟨⟨g1, g2⟩, g3, g4⟩ := hn
      rw [f29_run, f29_eq, g1, step1, toInt_i, eqI_t rfl, not_t, cond_false, ltI_f (by omega), cond_false, w64 (x := (l.length : Int) - K) (by omega) (by omega), leI_f (by omega), cond_false, inR_nat hql, cond_true, Int.toNat_natCast, g2, step2, toInt_i, eqI_t rfl, not_t, cond_false, g3, step1f, toSlice_s, g4, step1, toInt_i, cond_true, inR_nat hx, cond_true, inR_nat hAl, cond_true, Int.toNat_natCast, Int.toNat_natCast, eA, eqI_t (by omega), cond_true]
      rfl
  · have hA1 : 1 ≤ A := by
      apply Nat.le_of_not_lt
      intro h
      have : A = 0 := by omega
      subst this
      omega
    have hlow : p (A - 1) < q := by
      have := s4 (A - 1) (by omega) (by omega)
      rw [W.at_ (A - 1) (by omega), toInt_i] at this
      omega
    obtain ⟨st, bi, bn, bp, w, hI, ri⟩ := wayInner_runs (tx := (nth ((nth l q).fld 1).toSlice x).toStr) (oi := (x : Int)) (om := (((nth l q).fld 1).toSlice.length : Int)) (op := pathL (txT ((nth l q).fld 1).toSlice) (x : Int)) ht h24 hB.heads W hok hBk hA1 hAl (by omega) hlow (by omega)
    refine ⟨A, st, bi, bn, bp, w, hI, ?_⟩
    refine Evt.succ (((rm.and rt).and ((rp.and ra).and ri)).mono fun n hn => ?_)
    obtain ⟨⟨g1, g2⟩, ⟨g3, g4⟩, g5⟩ := hn
    have g5' : runE G ext n 63 [.blob t, .slice l, .slice ps, .int (q : Int), .agg [.int (A : Int), .slice [], .agg [.int 0, .int 0, .slice []], .int 0, .str (nth ((nth l q).fld 1).toSlice x).toStr, .agg [.int ((AV.fld (.agg [.int (x : Int), .int (((nth l q).fld 1).toSlice.length : Int), .slice (pathL (txT ((nth l q).fld 1).toSlice) (x : Int))]) 0).toInt), .int ((AV.fld (.agg [.int (x : Int), .int (((nth l q).fld 1).toSlice.length : Int), .slice (pathL (txT ((nth l q).fld 1).toSlice) (x : Int))]) 1).toInt), .slice ((AV.fld (.agg [.int (x : Int), .int (((nth l q).fld 1).toSlice.length : Int), .slice (pathL (txT ((nth l q).fld 1).toSlice) (x : Int))]) 2).toSlice)]]] = _ := g5
    rw [f29_run, f29_eq, g1, step1, toInt_i, eqI_t rfl, not_t, cond_false, ltI_f (by omega), cond_false, w64 (x := (l.length : Int) - K) (by omega) (by omega), leI_f (by omega), cond_false, inR_nat hql, cond_true, Int.toNat_natCast, g2, step2, toInt_i, eqI_t rfl, not_t, cond_false, g3, step1f, toSlice_s, g4, step1, toInt_i, cond_true, inR_nat hx, cond_true, inR_nat hAl, cond_true, Int.toNat_natCast, Int.toNat_natCast, eA, eqI_f (by omega), cond_false, g5', step2]
    rfl

theorem withinWays_runs (ht : t.length = 32) (hc0 : Blocks0 l) (hc : l.length ≤ maxLen) :
    RunsX 8 [Cfg gh gl gt gn t m K a b c5 c6, .slice l] ⟨[.bool true], [], false⟩ := by
  obtain ⟨q, hb, hmu⟩ := mu24_runs hc0 hc
  cases q with
  | true =>
    refine Evt.succ ((hmu.and withinAwake).mono fun n hn => ?_)
    rw [f8_run, f8_eq, hn.1, step1, toBool_b, cond_true, hn.2]; rfl
  | false =>
  obtain ⟨h24, hB⟩ := hb rfl
  by_cases hk : (l.length : Int) ≤ K
  · refine Evt.succ ((hmu.and withinAwake).mono fun n hn => ?_)
    rw [f8_run, f8_eq, hn.1, step1, toBool_b, cond_false, leI_t hk, cond_true, hn.2]; rfl
  cases hM : mayP m K a b with
  | false =>
    refine Evt.succ (((hmu.and withinAwake).and (mayP_runs (m := m) (k := K) (a := a) (b := b))).mono fun n hn => ?_)
    obtain ⟨⟨g1, g2⟩, g3⟩ := hn
    rw [f8_run, f8_eq, g1, step1, toBool_b, cond_false, leI_f hk, cond_false, g3, step1, toBool_b, hM, not_f, cond_true, g2]; rfl
  | true =>
  have r1 := chainCheck_runs (gh := gh) (gl := gl) (gt := gt) (gn := gn) (t := t) (c1 := m) (c2 := K) (c3 := a) (c4 := b) (c5 := c5) (c6 := c6) (l := l) ht hB
  by_cases hz : ((chainV gh gl gt gn t l).fld 0).toInt = 0
  case neg =>
    refine Evt.succ (((hmu.and withinAwake).and ((mayP_runs (m := m) (k := K) (a := a) (b := b)).and r1)).mono fun n hn => ?_)
    obtain ⟨⟨g1, g2⟩, g3, g4⟩ := hn
    rw [f8_run, f8_eq, g1, step1, toBool_b, cond_false, leI_f hk, cond_false, g3, step1, toBool_b, hM, not_t, cond_false, g4, step1, eqI_f hz, not_f, cond_true, g2]; rfl
  have hM' := hM
  unfold mayP at hM'
  rw [Bool.and_eq_true, decide_eq_true_iff] at hM'
  obtain ⟨⟨_, _, k1, k2⟩, _⟩ := hM'
  obtain ⟨z1, z2, z3⟩ := chainV_zero' hz
  have hok := chain_levels z3
  have hBk : ∀ i, i < l.length → BlkOk t l i := fun i hi => blk_ok (z3 i hi)
  obtain ⟨P, ps, p, hV, rp, rs, rv⟩ := prove_all (gh := gh) (gl := gl) (gt := gt) (gn := gn) (t := t) (m := m) (K := K) (a := a) (b := b) (c5 := c5) (c6 := c6) (l := l) ht hB (by omega) hM hk hz
  have W := hV.walk
  have hlen := hV.len
  have hl1 := hV.pick.len
  have hl2 := hV.pick.le
  have hSl : (stepsP t l ps p).length = ps.length := stepsP_len
  have hall := Evt.all (l.length - K.toNat) fun q (hq : q < l.length - K.toNat) => Evt.all ((nth l q).fld 1).toSlice.length fun x (hx : x < ((nth l q).fld 1).toSlice.length) =>
    show Evt fun n => ∃ (A : Nat) (st : List AV) (bi bn : Int) (bp : List AV) (w : Int), runE G ext n 29 [Cfg gh gl gt gn t m K a b c5 c6, .slice l, .int (q : Int), .int (x : Int)] = some ⟨[Ix (A : Int) st bi bn bp w (nth ((nth l q).fld 1).toSlice x).toStr (x : Int) (((nth l q).fld 1).toSlice.length : Int) (pathL (txT ((nth l q).fld 1).toSlice) (x : Int)), .int 0], [], f29_fresh⟩ ∧
      runE G ext n 35 [.slice (stepsP t l ps p), Ix (A : Int) st bi bn bp w (nth ((nth l q).fld 1).toSlice x).toStr (x : Int) (((nth l q).fld 1).toSlice.length : Int) (pathL (txT ((nth l q).fld 1).toSlice) (x : Int))] = some ⟨[headN ((nth l q).fld 0), .bool true], [], false⟩ ∧
      runE G ext n 36 [.blob t, .slice (stepsP t l ps p), Ix (A : Int) st bi bn bp w (nth ((nth l q).fld 1).toSlice x).toStr (x : Int) (((nth l q).fld 1).toSlice.length : Int) (pathL (txT ((nth l q).fld 1).toSlice) (x : Int))] = some ⟨[.int 0], [], false⟩ by
    have hql : q < l.length := by omega
    obtain ⟨A, st, bi, bn, bp, w, hI, ri⟩ := wayInfix_runs (c5 := c5) (c6 := c6) ht hB (by omega) hM hk hz hV rp (q := q) (x := x) (by omega) hx
    obtain ⟨_, o2⟩ := txOpened (l := ((nth l q).fld 1).toSlice) (i := (x : Int)) (by omega) (by omega) (hBk q hql).txs
    have o3 := (mayV_in (hBk q hql).txs).2 x hx
    rw [Int.toNat_natCast] at o2
    have rbk := block_runs (l := stepsP t l ps p) (at_ := (A : Int)) (st := st) (bi := bi) (bn := bn) (bp := bp) (w := w) (tx := (nth ((nth l q).fld 1).toSlice x).toStr) (oi := (x : Int)) (om := (((nth l q).fld 1).toSlice.length : Int)) (op := pathL (txT ((nth l q).fld 1).toSlice) (x : Int))
    have rwc := within_runs (t := t) (l := stepsP t l ps p) (at_ := (A : Int)) (st := st) (bi := bi) (bn := bn) (bp := bp) (w := w) (tx := (nth ((nth l q).fld 1).toSlice x).toStr) (oi := (x : Int)) (om := (((nth l q).fld 1).toSlice.length : Int)) (op := pathL (txT ((nth l q).fld 1).toSlice) (x : Int)) ht (by omega) (by have := hI.le; omega) (stepsP_steps W hok hB.heads) hI.steps hI.blob (pathL_blob _ _) (by omega)
    have eb : blockV (stepsP t l ps p) (A : Int) st w = [headN ((nth l q).fld 0), .bool true] := by
      unfold blockV
      rw [hI.place, eqI_t rfl, not_t, cond_false, Int.toNat_natCast, hI.head]
    have ew : withinV t (stepsP t l ps p) (A : Int) st bi bn bp w (nth ((nth l q).fld 1).toSlice x).toStr (x : Int) (((nth l q).fld 1).toSlice.length : Int) (pathL (txT ((nth l q).fld 1).toSlice) (x : Int)) = 0 := by
      have hr : ((blkA (stepsP t l ps p) A st w.toNat).fld 2).toBlob = txR (((nth l q).fld 1).toSlice) := by
        have := congrArg (fun y => (AV.fld y 2).toBlob) hI.head
        have e : ((blkA (stepsP t l ps p) A st w.toNat).fld 2).toBlob = (((nth l q).fld 0).fld 2).toBlob := this
        rw [e, (hBk q hql).roots]
      unfold withinV
      rw [hI.place, eqI_t rfl, not_t, cond_false, Int.toNat_natCast, hI.inner, eqI_t rfl, not_t, cond_false, hr, o2]; rfl
    rw [eb] at rbk
    rw [ew] at rwc
    exact (ri.and (rbk.and rwc)).mono fun n hn => ⟨A, st, bi, bn, bp, w, hn⟩
  refine Evt.succ ((((hmu.and withinAwake).and ((mayP_runs (m := m) (k := K) (a := a) (b := b)).and r1)).and ((rv.and hall).and (Evt.ge 200100))).mono fun n hn => ?_)
  obtain ⟨⟨⟨g1, g2⟩, g3, g4⟩, ⟨g5, g6⟩, g7⟩ := hn
  have key : ∀ (j k q : Nat), q + j = l.length - K.toNat → j < k → f8_l0 (runE G ext n) n k l gh gl gt gn t m K a b c5 c6 (stepsP t l ps p) (q : Int) = some ⟨[.bool true], [], false⟩ := by
    intro j
    induction j with
    | zero =>
      intro k q hq hk
      obtain ⟨k, rfl⟩ : ∃ j, k = j + 1 := ⟨k - 1, by omega⟩
      rw [f8_l0_eq, w64 (x := (l.length : Int) - K) (by omega) (by omega), ltI_f (by omega), cond_false, g2]; rfl
    | succ j ih =>
      intro k q hq hk
      obtain ⟨k, rfl⟩ : ∃ j, k = j + 1 := ⟨k - 1, by omega⟩
      have ih' := ih k (q + 1) (by omega) (by omega)
      have hql : q < l.length := by omega
      have htl := (hB q hql).2.2
      have key2 : ∀ (j2 k2 x : Nat), x + j2 = ((nth l q).fld 1).toSlice.length → j2 < k2 → f8_l2 (runE G ext n) n k k2 l gh gl gt gn t m K a b c5 c6 (stepsP t l ps p) (q : Int) (x : Int) = some ⟨[.bool true], [], false⟩ := by
        intro j2
        induction j2 with
        | zero =>
          intro k2 x hx hk2
          obtain ⟨k2, rfl⟩ : ∃ j, k2 = j + 1 := ⟨k2 - 1, by omega⟩
          rw [f8_l2_eq, inR_nat hql, cond_true, Int.toNat_natCast, ltI_f (by omega), cond_false, w64 (x := (q : Int) + 1) (by omega) (by omega), show (q : Int) + 1 = ((q + 1 : Nat) : Int) by omega, ih']
        | succ j2 ih2 =>
          intro k2 x hx hk2
          obtain ⟨k2, rfl⟩ : ∃ j, k2 = j + 1 := ⟨k2 - 1, by omega⟩
          have ih2' := ih2 k2 (x + 1) (by omega) (by omega)
          obtain ⟨A, st, bi, bn, bp, w, i1, i2, i3⟩ := g6 q (by omega) x (by omega)
          have h3 : (eqI ((headN ((nth l q).fld 0)).fld 0).toInt (((nth l q).fld 0).fld 0).toInt && (eqS ((headN ((nth l q).fld 0)).fld 1).toBlob (((nth l q).fld 0).fld 1).toBlob && (eqS ((headN ((nth l q).fld 0)).fld 2).toBlob (((nth l q).fld 0).fld 2).toBlob && (eqI ((headN ((nth l q).fld 0)).fld 3).toInt (((nth l q).fld 0).fld 3).toInt && true)))) = true := by
            show (eqI (((nth l q).fld 0).fld 0).toInt (((nth l q).fld 0).fld 0).toInt && (eqS (((nth l q).fld 0).fld 1).toBlob (((nth l q).fld 0).fld 1).toBlob && (eqS (((nth l q).fld 0).fld 2).toBlob (((nth l q).fld 0).fld 2).toBlob && (eqI (((nth l q).fld 0).fld 3).toInt (((nth l q).fld 0).fld 3).toInt && true)))) = true
            rw [eqI_t rfl, eqS_t rfl, eqS_t rfl, eqI_t rfl]; rfl
          have h4 : ∀ s : List UInt8, eqS ((Ix (A : Int) st bi bn bp w s (x : Int) (((nth l q).fld 1).toSlice.length : Int) (pathL (txT ((nth l q).fld 1).toSlice) (x : Int))).fld 4).toStr s = true := fun s => eqS_t rfl
          have h5 : ∀ s : List UInt8, eqI (((Ix (A : Int) st bi bn bp w s (x : Int) (((nth l q).fld 1).toSlice.length : Int) (pathL (txT ((nth l q).fld 1).toSlice) (x : Int))).fld 5).fld 0).toInt (x : Int) = true := fun s => eqI_t rfl
          rw [f8_l2_eq, inR_nat hql, cond_true, Int.toNat_natCast, ltI_t (by omega), cond_true, i1, step2, ix_norm, i2, step2, toInt_i, eqI_t rfl, not_t, cond_false, i3, step1, toInt_i, eqI_t rfl, not_t, cond_false, toBool_b, not_t, cond_false, cond_true, h3, not_t, cond_false, cond_true, inR_nat (show x < ((nth l q).fld 1).toSlice.length by omega), cond_true, Int.toNat_natCast, h4, not_t, cond_false, h5, not_t, cond_false, w64 (x := (x : Int) + 1) (by omega) (by omega), show (x : Int) + 1 = ((x + 1 : Nat) : Int) by omega, ih2']
      rw [f8_l0_eq, w64 (x := (l.length : Int) - K) (by omega) (by omega), ltI_t (by omega), cond_true]
      exact key2 _ n 0 (Nat.zero_add _) (by omega)
  rw [f8_run, f8_eq, g1, step1, toBool_b, cond_false, leI_f hk, cond_false, g3, step1, toBool_b, hM, not_t, cond_false, g4, step1, eqI_t hz, not_t, cond_false, g5, step2, toInt_i, eqI_t rfl, not_t, cond_false, toSlice_s]
  exact key _ n 0 (Nat.zero_add _) (by omega)
end
theorem withinWays_sat (xs : List AV) (h : Ty.HasL [.struct [.struct [.int .u32, .blob 32, .blob 32, .int .u64], .blob 32, .int .i64, .int .i64, .int .i64, .int .i64, .int .i64, .int .i64], .slice (.struct [.struct [.int .u32, .blob 32, .blob 32, .int .u64], .slice .str])] xs) : ∃ r, r.vals = [.bool true] ∧ Sat Tryz.prog f8_info 8 xs r := by
  obtain ⟨x, r, rfl, hx, y, r2, rfl, ⟨l, rfl, hl, _, hy⟩, rfl⟩ := h
  obtain ⟨gh, gl, gt, gn, t, c1, c2, c3, c4, c5, c6, rfl, ht, _⟩ := cfg_of hx
  exact ⟨_, rfl, sat_of_runsX (by kernel_rfl) (withinWays_runs ht (blocks0_of hy) hl)⟩

end Go.Proofs.YtogehijjhibdkaaGreat.Ev
