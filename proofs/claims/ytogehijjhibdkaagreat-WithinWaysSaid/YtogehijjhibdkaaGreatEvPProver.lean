/- What prove.May, prove.Places and prove.Prove answer; the proof of a chain is valid. -/
import Derived.Test.YtogehijjhibdkaaGreatEvPProveV
namespace Go.Proofs.YtogehijjhibdkaaGreat.Ev
open Go Go.RowKit

section
variable {gh : Int} {gl gt : List UInt8} {gn : Int} {t : List UInt8} {m K a b c5 c6 : Int} {l : List AV}
def mayE (gh : Int) (gl gt : List UInt8) (gn : Int) (t : List UInt8) (m K a b : Int) (l : List AV) : Int :=
  bif !(eqI ((chainV gh gl gt gn t l).fld 0).toInt 0) then ((chainV gh gl gt gn t l).fld 0).toInt else bif !(mayP m K a b) then 13 else bif leI (l.length : Int) K then 11 else 0
theorem proveMay_runs (ht : t.length = 32) (hB : Blocks l) : RunsX 24 [Cfg gh gl gt gn t m K a b c5 c6, .slice l] ⟨[.int (mayE gh gl gt gn t m K a b l)], [], false⟩ := by
  refine Evt.succ (((chainCheck_runs (gh := gh) (gl := gl) (gt := gt) (gn := gn) (t := t) (c1 := m) (c2 := K) (c3 := a) (c4 := b) (c5 := c5) (c6 := c6) (l := l) ht hB).and (mayP_runs (m := m) (k := K) (a := a) (b := b))).mono fun n hn => ?_)
  unfold mayE
  rw [f24_run, f24_eq, hn.1, step1]
  cases eqI ((chainV gh gl gt gn t l).fld 0).toInt 0 with
  | false => rfl
  | true =>
    rw [not_t, cond_false, cond_false, hn.2, step1, toBool_b]
    cases mayP m K a b with
    | false => rfl
    | true =>
      rw [not_t, cond_false, cond_false]
      cases leI (l.length : Int) K <;> rfl

theorem places_runsP {P : List AV} (ht : t.length = 32) (hl : l.length ≤ 100000) (hh : Heads l) (hP : P = pickV (levsV t l) m K a b) (hP1 : 1 ≤ P.length) (hP2 : P.length ≤ 100000) (hK : 1 ≤ K) (hK2 : K < l.length) :
    RunsX 21 [Cfg gh gl gt gn t m K a b c5 c6, .slice l] ⟨[.slice (placesL P (l.length - K.toNat) l.length)], [], true⟩ := by
  have r2 := pick_runs (L := levsV t l) (m := m) (k := K) (a := a) (b := b) (by rw [levsV_len]; omega)
  rw [← hP] at r2
  refine Evt.succ (((levels_runs (t := t) (l := l) ht hl hh).and (r2.and (Evt.ge (l.length + 2)))).mono fun n hn => ?_)
  obtain ⟨g1, g2, g3⟩ := hn
  rw [f21_run, f21_eq, g1, step1f, toSlice_s, g2, step1f, toSlice_s, mx2_eq, mx2_eq, show max K 0 = K by omega, w64 (by omega) (by omega), show max 0 ((l.length : Int) - K) = ((l.length - K.toNat : Nat) : Int) by omega]
  have key : ∀ (j k i : Nat), (l.length - K.toNat) + i + j = l.length → j < k → f21_l0 (runE G ext n) n k l (P ++ (List.range i).map fun j => AV.int ((l.length - K.toNat + j : Nat) : Int)) ((l.length - K.toNat + i : Nat) : Int) = some ⟨[.slice (placesL P (l.length - K.toNat) l.length)], [], true⟩ := by
    intro j
    induction j with
    | zero =>
      intro k i hi hk
      obtain ⟨k, rfl⟩ : ∃ j, k = j + 1 := ⟨k - 1, by omega⟩
      rw [f21_l0_eq, ltI_f (by omega), cond_false]
      unfold placesL
      rw [show l.length - (l.length - K.toNat) = i by omega]; rfl
    | succ j ih =>
      intro k i hi hk
      obtain ⟨k, rfl⟩ : ∃ j, k = j + 1 := ⟨k - 1, by omega⟩
      have ih' := ih k (i + 1) (by omega) (by omega)
      rw [List.range_succ, List.map_append, ← List.append_assoc, List.map_singleton] at ih'
      rw [f21_l0_eq, ltI_t (by omega), cond_true, ltI_t (by rw [List.length_append]; omega), cond_true, Nat.ble_eq_true_of_le (by simp; omega), cond_true, w64 (by omega) (by omega), show ((l.length - K.toNat + i : Nat) : Int) + 1 = ((l.length - K.toNat + (i + 1) : Nat) : Int) by omega]
      exact ih'
  have k := key (l.length - (l.length - K.toNat)) n 0 (by omega) (by omega)
  rw [show (List.range 0).map (fun j => AV.int ((l.length - K.toNat + j : Nat) : Int)) = [] from rfl, List.append_nil, Nat.add_zero] at k
  exact k

/-- All that a chain without a fault tells of its proof. -/
structure Proved (t : List UInt8) (l : List AV) (K : Int) (P ps : List AV) (p : Nat → Nat) : Prop where
  pick : Picked t l (l.length - K.toNat) P
  hps : ps = placesL P (l.length - K.toNat) l.length
  hp : p = placeAt P (l.length - K.toNat)
  walk : WalkP t l ps p
  len : ps.length = P.length + K.toNat

theorem prove_all (ht : t.length = 32) (hB : Blocks l) (h24 : l.length ≤ 1000) (hM : mayP m K a b = true) (hk : ¬ (l.length : Int) ≤ K) (hz : ((chainV gh gl gt gn t l).fld 0).toInt = 0) :
    ∃ P ps p, Proved t l K P ps p ∧
      RunsX 21 [Cfg gh gl gt gn t m K a b c5 c6, .slice l] ⟨[.slice ps], [], true⟩ ∧
      RunsX 50 [.blob t, .slice l, .slice ps] ⟨[.slice (stepsP t l ps p), .int 0], [], false⟩ ∧
      RunsX 18 [Cfg gh gl gt gn t m K a b c5 c6, .slice l] ⟨[.slice (stepsP t l ps p), .int 0], [], false⟩ := by
  obtain ⟨z1, z2, z3⟩ := chainV_zero' hz
  have hok := chain_levels z3
  have hM' := hM
  unfold mayP at hM'
  rw [Bool.and_eq_true, decide_eq_true_iff] at hM'
  obtain ⟨⟨_, _, k1, k2⟩, _⟩ := hM'
  have hP := picked (t := t) (l := l) (m := m) (k := K) (a := a) (b := b) hok hM (by omega) (by omega)
  have hW := placesL_walk hok hP (by omega) (by omega)
  have h1 := hP.le
  have h2 := hP.len
  have hlen := placesL_len (pickV (levsV t l) m K a b) (N := l.length - K.toNat) (len := l.length)
  have rp := places_runsP (gh := gh) (gl := gl) (gt := gt) (gn := gn) (t := t) (m := m) (K := K) (a := a) (b := b) (c5 := c5) (c6 := c6) (l := l) (P := pickV (levsV t l) m K a b) ht (by omega) hB.heads rfl h2 (by omega) (by omega) (by omega)
  have rs := proveSteps_runs (t := t) (l := l) (ps := placesL (pickV (levsV t l) m K a b) (l.length - K.toNat) l.length) ht (by omega) hB.heads (by omega)
  rw [proveL_walk hW hok] at rs
  have rm := proveMay_runs (gh := gh) (gl := gl) (gt := gt) (gn := gn) (t := t) (m := m) (K := K) (a := a) (b := b) (c5 := c5) (c6 := c6) (l := l) ht hB
  have e : mayE gh gl gt gn t m K a b l = 0 := by
    unfold mayE
    rw [eqI_t hz, not_t, cond_false, hM, not_t, cond_false, leI_f hk, cond_false]
  rw [e] at rm
  refine ⟨_, _, _, ⟨hP, rfl, rfl, hW, by rw [hlen]; omega⟩, rp, rs, ?_⟩
  refine Evt.succ ((rm.and (rp.and rs)).mono fun n hn => ?_)
  rw [f18_run, f18_eq, hn.1, step1, toInt_i, eqI_t rfl, not_t, cond_false, hn.2.1, step1f, toSlice_s, hn.2.2, step2]
  rfl

/-- The steps of a chain's proof make a valid proof. -/
theorem proved_valid {P ps : List AV} {p : Nat → Nat} (hV : Proved t l K P ps p) (hz : ((chainV gh gl gt gn t l).fld 0).toInt = 0) (hK : 1 ≤ K) (hk : K < l.length) : Valid gh gl gt gn t K (stepsP t l ps p) := by
  obtain ⟨z1, z2, z3⟩ := chainV_zero' hz
  have hok := chain_levels z3
  have hB : ∀ i, i < l.length → BlkOk t l i := fun i hi => blk_ok (z3 i hi)
  have hlen := hV.len
  have hl1 := hV.pick.len
  have W := hV.walk
  have hn : (stepsP t l ps p).length = ps.length := stepsP_len
  have hp0 : p 0 = 0 := by
    rw [hV.hp]
    unfold placeAt
    rw [if_pos (by omega), hV.pick.first]
    rfl
  have hhgt : ∀ i, i < ps.length → hgt (nth (stepsP t l ps p) i) = (p i : Int) := by
    intro i hi
    rw [stepsP_nth hi]
    exact (hB (p i) (W.lt i hi)).height
  have hid : ∀ i, i < ps.length → idA ((nth (stepsP t l ps p) i).fld 0) = idA ((nth l (p i)).fld 0) := by
    intro i hi
    rw [stepsP_nth hi]; rfl
  refine ⟨?_, fun i hi => ?_, ?_⟩
  · unfold ancS
    rw [eqI_f (by omega), cond_false, stepsP_nth (by omega)]
    have ha := blk_anchor (z3 0 (by omega))
    have e : (eqI ((((stepP t l ps p 0).fld 0).fld 0).toInt) gh && (eqS ((((stepP t l ps p 0).fld 0).fld 1).toBlob) gl && (eqS ((((stepP t l ps p 0).fld 0).fld 2).toBlob) gt && (eqI ((((stepP t l ps p 0).fld 0).fld 3).toInt) gn && true)))) = true := by
      rw [stepP_head, hp0]
      exact ha
    rw [e, not_t, cond_false]
    rfl
  · rw [hn] at hi
    have hj : joinV (stepsP t l ps p) i = true := by
      unfold joinV
      by_cases h0 : i = 0
      · subst h0; rfl
      · rw [eqI_f (by omega), cond_false]
        unfold hj
        rw [stepsP_nth hi, stepsP_nth (show i - 1 < ps.length by omega)]
        exact stepP_leads W hok hB (by omega) hi _ (stepP_head (i - 1))
    have hr : riseV (stepsP t l ps p) i = true := by
      unfold riseV
      by_cases h0 : i = 0
      · subst h0; rfl
      · have hx := (W.next (i - 1) (by omega)).1
        rw [show i - 1 + 1 = i by omega] at hx
        rw [eqI_f (by omega), cond_false, hhgt i hi, hhgt (i - 1) (by omega), ltI_t (by omega)]
    unfold stepErr
    rw [hr, not_t, cond_false, hid i hi, (hB (p i) (W.lt i hi)).ok, not_t, cond_false, hj, not_t, cond_false]
  · have htl := tailN_ge (S := stepsP t l ps p) (ps.length - 1) (P.length - 1) (by omega) (fun i h1 h2 => by
      have hi : i < ps.length := by omega
      have ei : p i = p (i - 1) + 1 := by
        rw [hV.hp]
        unfold placeAt
        rw [if_neg (by omega)]
        by_cases h : i - 1 < P.length
        · have hl := hV.pick.last
          rw [if_pos h, show i - 1 = P.length - 1 by omega, hl, toInt_i]
          omega
        · rw [if_neg h]; omega
      have h0 := stepP_index W hok (show 1 ≤ i by omega) hi ei.symm
      unfold tailOk upV
      rw [hhgt i hi, hhgt (i - 1) (by omega), stepsP_nth hi, h0, eqI_t rfl, ltI_t (by omega), Bool.true_and, Bool.true_and, eqI_t (by rw [wrap32]; omega)])
    rw [hn]
    omega

end
end Go.Proofs.YtogehijjhibdkaaGreat.Ev
