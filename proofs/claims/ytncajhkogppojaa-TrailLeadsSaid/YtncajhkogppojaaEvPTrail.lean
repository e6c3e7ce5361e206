/- Trails: both programs walk the same. -/
import Derived.Test.YtncajhkogppojaaEvPWithin
import Derived.Test.YtncajhkogppojaaEvPOpen
namespace Go.Proofs.Ytncajhkogppojaa.Ev
open Go Go.RowKit

def stepN (y : AV) : AV := .agg [.agg [.int ((y.fld 0).fld 0).toInt, .blob ((y.fld 0).fld 1).toBlob, .blob ((y.fld 0).fld 2).toBlob, .int ((y.fld 0).fld 3).toInt], .agg [.int ((y.fld 1).fld 0).toInt, .int ((y.fld 1).fld 1).toInt, .slice ((y.fld 1).fld 2).toSlice]]
def reStep (y : AV) (bi bn : Int) (bp : List AV) : AV := .agg [.agg [.int ((y.fld 0).fld 0).toInt, .blob ((y.fld 0).fld 1).toBlob, .blob ((y.fld 0).fld 2).toBlob, .int ((y.fld 0).fld 3).toInt], .agg [.int bi, .int bn, .slice bp]]
def partV (l : List AV) (at_ : Int) (st : List AV) (bi bn : Int) (bp : List AV) (i : Nat) : List AV :=
  bif eqI (i : Int) at_ && ltI 0 (st.length : Int) then st ++ [reStep (nth l i) bi bn bp] else [stepN (nth l i)]
def trailL (l : List AV) (at_ : Int) (st : List AV) (bi bn : Int) (bp : List AV) : Nat → Nat → List AV
  | 0, _ => []
  | j + 1, i => partV l at_ st bi bn bp i ++ trailL l at_ st bi bn bp j (i + 1)
def PathsOk (l : List AV) : Prop := ∀ i, i < l.length → (((nth l i).fld 1).fld 2).toSlice.length * 32 ≤ 140737488355328
theorem pathOk_of {l : List AV} (h : ∀ (i : Nat) y, l[i]? = some y → stepTy.Has y) : PathsOk l := by
  intro i hi
  rw [nth_lt hi]
  obtain ⟨l0, hl0, y0, s0, rfl, hh, y1, s1, rfl, ⟨l1, rfl, z0, t0, rfl, ⟨a, rfl, _⟩, z1, t1, rfl, ⟨b, rfl, _⟩, z2, t2, rfl, ⟨P, rfl, _, hP, _⟩, rfl⟩, rfl⟩ := h i _ (List.getElem?_eq_getElem hi)
  rw [hl0]
  have e : Ty.bytesLo (.blob 32) = 32 := rfl
  rw [e] at hP
  unfold reachBytes at hP
  show P.length * 32 ≤ _
  omega

section
variable {t : List UInt8} {l : List AV} {at_ : Int} {st : List AV} {bi bn : Int} {bp : List AV} {w : Int} {tx : List UInt8} {oi om : Int} {op : List AV}
theorem trail_l0 (run : Run) (n : Nat) (hl : l.length ≤ 1050) (hst : st.length ≤ 1050) (hbp : bp.length ≤ 100) (hp : PathsOk l) : ∀ (j k i : Nat) (acc : List AV), i + j = l.length → j < k → acc.length ≤ i * 1052 →
    f32_l0 run n k acc l (l.length : Int) (i : Int) at_ st bi bn bp w tx oi om op = some ⟨[.slice (acc ++ trailL l at_ st bi bn bp j i), .int 0], [], f32_fresh⟩ := by
  intro j
  induction j with
  | zero =>
    intro k i acc hi hk ha
    obtain ⟨k, rfl⟩ : ∃ j, k = j + 1 := ⟨k - 1, by omega⟩
    rw [f32_l0_eq, ltI_f (by omega), cond_false]
    simp only [trailL, List.append_nil]
  | succ j ih =>
    intro k i acc hi hk ha
    obtain ⟨k, rfl⟩ : ∃ j, k = j + 1 := ⟨k - 1, by omega⟩
    have hq := hp i (by omega)
    have n1 : Nat.ble ((acc.length + st.length) * 120) 140737488355328 = true := Nat.ble_eq_true_of_le (by omega)
    have n2 : Nat.ble (bp.length * 32) 140737488355328 = true := Nat.ble_eq_true_of_le (by omega)
    have n3 : Nat.ble (((acc ++ st).length + 1) * 120) 140737488355328 = true := Nat.ble_eq_true_of_le (by rw [List.length_append]; omega)
    have n4 : Nat.ble ((((nth l i).fld 1).fld 2).toSlice.length * 32) 140737488355328 = true := Nat.ble_eq_true_of_le hq
    have n5 : Nat.ble ((acc.length + 1) * 120) 140737488355328 = true := Nat.ble_eq_true_of_le (by omega)
    have iA := ih k (i + 1) (acc ++ st ++ [reStep (nth l i) bi bn bp]) (by omega) (by omega) (by simp; omega)
    have iB := ih k (i + 1) (acc ++ [stepN (nth l i)]) (by omega) (by omega) (by simp; omega)
    rw [show ((i + 1 : Nat) : Int) = (i : Int) + 1 by omega] at iA iB
    unfold reStep at iA
    unfold stepN at iB
    simp only [trailL, partV]
    rw [f32_l0_eq, ltI_t (by omega), cond_true, inR_nat (by omega), cond_true, Int.toNat_natCast, n1, n2, n3, n4, n5, cond_true, cond_true, cond_true, cond_true, cond_true, w64 (x := (i : Int) + 1) (by omega) (by omega), iA, iB]
    cases eqI (i : Int) at_
    · rw [cond_false, Bool.false_and, cond_false, ← List.append_assoc]; rfl
    · rw [cond_true, Bool.true_and]
      cases ltI 0 (st.length : Int)
      · rw [cond_false, cond_false, ← List.append_assoc]; rfl
      · rw [cond_true, cond_true, ← List.append_assoc, ← List.append_assoc]; rfl

theorem trail_runs (ht : t.length = 32) (hl : l.length ≤ 1050) (hst : st.length ≤ 1050) (hbp : bp.length ≤ 100) (hp : PathsOk l) (hL : Steps l) (hS : Steps st) (hb : Blob32 bp) (ho : Blob32 op) (hx : tx.length ≤ 140737488351232) :
    RunsX 32 [.blob t, .slice l, Ix at_ st bi bn bp w tx oi om op] ⟨bif !(eqI (withinV t l at_ st bi bn bp w tx oi om op) 0) then [.slice [], .int (withinV t l at_ st bi bn bp w tx oi om op)] else [.slice (trailL l at_ st bi bn bp l.length 0), .int 0], [], f32_fresh⟩ := by
  refine Evt.succ (((within_runs (t := t) (l := l) (at_ := at_) (st := st) (bi := bi) (bn := bn) (bp := bp) (w := w) (tx := tx) (oi := oi) (om := om) (op := op) ht (by omega) (by omega) hL hS hb ho hx).and (Evt.ge (l.length + 2))).mono fun n hn => ?_)
  rw [f32_run, f32_eq, hn.1, step1, toInt_i]
  cases eqI (withinV t l at_ st bi bn bp w tx oi om op) 0
  · rfl
  · rw [not_t, cond_false, cond_false]
    have := trail_l0 (l := l) (at_ := at_) (st := st) (bi := bi) (bn := bn) (bp := bp) (w := w) (tx := tx) (oi := oi) (om := om) (op := op) (runE G ext n) n hl hst hbp hp l.length n 0 [] (by omega) (by omega) (by simp)
    rw [List.nil_append] at this
    exact this
theorem at_runs : RunsX 33 [.slice l, Ix at_ st bi bn bp w tx oi om op] ⟨[.int (bif !(eqI (placeV (l.length : Int) at_ w st.length) 0) then -1 else IntKind.wrap .i64 (at_ + w))], [], false⟩ := by
  refine Evt.succ ((block_runs (l := l) (at_ := at_) (st := st) (bi := bi) (bn := bn) (bp := bp) (w := w) (tx := tx) (oi := oi) (om := om) (op := op)).mono fun n hn => ?_)
  unfold blockV at hn
  rw [f33_run, f33_eq, hn]
  cases eqI (placeV (l.length : Int) at_ w st.length) 0 <;> rfl
end

theorem trailAwake : RunsX 31 [] ⟨[.bool true], [], false⟩ := by
  have hn : Steps ([] : List AV) := fun i hi => by simp at hi
  have hpn : PathsOk ([] : List AV) := fun i hi => by simp at hi
  have r1 := trail_runs (t := List.replicate 32 0) (l := []) (at_ := 0) (st := []) (bi := 0) (bn := 0) (bp := []) (w := 0) (tx := []) (oi := 0) (om := 0) (op := []) (by simp) (by simp) (by simp) (by simp) hpn hn hn no_blobs no_blobs (by simp)
  have r2 := at_runs (l := []) (at_ := 0) (st := []) (bi := 0) (bn := 0) (bp := []) (w := 0) (tx := []) (oi := 0) (om := 0) (op := [])
  have r3 := at_runs (l := List.replicate 2 (.agg [.agg [.int 0, .blob (List.replicate 32 0), .blob (List.replicate 32 0), .int 0], .agg [.int 0, .int 0, .slice []]])) (at_ := 1) (st := []) (bi := 0) (bn := 0) (bp := []) (w := 0) (tx := []) (oi := 0) (om := 0) (op := [])
  have z : (List.replicate 32 (0 : UInt8)) = [0, 0, 0, 0, 0, 0, 0, 0, 0, 0, 0, 0, 0, 0, 0, 0, 0, 0, 0, 0, 0, 0, 0, 0, 0, 0, 0, 0, 0, 0, 0, 0] := rfl
  rw [show withinV (List.replicate 32 0) [] 0 [] 0 0 [] 0 [] 0 0 [] = 15 from rfl, eqI_f (a := 15) (b := 0) (by decide), not_f, cond_true, z] at r1
  rw [show placeV (([] : List AV).length : Int) 0 0 ([] : List AV).length = 15 from rfl, eqI_f (a := 15) (b := 0) (by decide), not_f, cond_true] at r2
  rw [List.length_replicate, show placeV ((2 : Nat) : Int) 1 0 ([] : List AV).length = 0 from rfl, eqI_t (a := 0) rfl, not_t, cond_false] at r3
  refine Evt.succ ((r1.and (r2.and r3)).mono fun n hn => ?_)
  obtain ⟨g1, g2, g3⟩ := hn
  rw [f31_run, f31_eq, g1, step2, toInt_i, eqI_t (a := 15) rfl, cond_true, g2, step1, toInt_i, eqI_t (a := -1) rfl, cond_true, g3, step1]
  rfl

/- what a trail's steps are -/
section
variable {t : List UInt8} {l : List AV} {at_ : Int} {st : List AV} {bi bn : Int} {bp : List AV} {w : Int} {tx : List UInt8} {oi om : Int} {op : List AV}
theorem nth_split (a b : List AV) (i : Nat) : nth (a ++ b) i = if i < a.length then nth a i else nth b (i - a.length) := by
  unfold nth
  rw [List.getD_eq_getElem?_getD, List.getElem?_append]
  by_cases h : i < a.length
  · rw [if_pos h, if_pos h, List.getD_eq_getElem?_getD]
  · rw [if_neg h, if_neg h, List.getD_eq_getElem?_getD]
theorem partV_len (i : Nat) : (partV l at_ st bi bn bp i).length ≤ st.length + 1 ∧ 1 ≤ (partV l at_ st bi bn bp i).length := by
  unfold partV
  cases (eqI (i : Int) at_ && ltI 0 (st.length : Int))
  · rw [cond_false]; simp
  · rw [cond_true]; simp
end

section
variable {t : List UInt8} {l : List AV} {at_ : Int} {st : List AV} {bi bn : Int} {bp : List AV} {w : Int} {tx : List UInt8} {oi om : Int} {op : List AV}
theorem trailL_ok (hst : st.length ≤ 1050) (hbp : bp.length ≤ 100) (hp : PathsOk l) (hps : PathsOk st) : ∀ j i, i + j ≤ l.length → PathsOk (trailL l at_ st bi bn bp j i) ∧ (trailL l at_ st bi bn bp j i).length ≤ j * 1051
  | 0, i, _ => ⟨fun k hk => by simp [trailL] at hk, by simp [trailL]⟩
  | j + 1, i, h => by
    obtain ⟨h1, h2⟩ := trailL_ok hst hbp hp hps j (i + 1) (by omega)
    have h3 := partV_len (l := l) (at_ := at_) (st := st) (bi := bi) (bn := bn) (bp := bp) i
    simp only [trailL]
    refine ⟨fun k hk => ?_, by rw [List.length_append]; omega⟩
    rw [nth_split]
    by_cases hlt : k < (partV l at_ st bi bn bp i).length
    · rw [if_pos hlt]
      unfold partV at hlt ⊢
      cases hc : (eqI (i : Int) at_ && ltI 0 (st.length : Int)) with
      | false =>
        rw [hc, cond_false] at hlt
        rw [cond_false]
        obtain rfl : k = 0 := by simpa using hlt
        show (((nth l i).fld 1).fld 2).toSlice.length * 32 ≤ _
        exact hp i (by omega)
      | true =>
        rw [hc, cond_true] at hlt
        rw [cond_true, nth_split]
        by_cases hk2 : k < st.length
        · rw [if_pos hk2]; exact hps k hk2
        · rw [if_neg hk2]
          rw [List.length_append] at hlt
          rw [show k - st.length = 0 by simp at hlt; omega]
          show bp.length * 32 ≤ _
          omega
    · rw [if_neg hlt]
      rw [List.length_append] at hk
      exact h1 _ (by omega)
end

end Go.Proofs.Ytncajhkogppojaa.Ev
