/- Walks down along entries of vectors, of any levels. -/
import Derived.Test.YtogehijjhibdkaaGreatEvExt
import Derived.Test.YtogehijjhibdkaaGreatEvFZ
import Derived.Test.YtogehijjhibdkaaGreatEvT3
namespace Go.Proofs.YtogehijjhibdkaaGreat.Ev
open Go Go.RowKit

theorem wstep1 {α : Type} (v : AV) (fr : Bool) (K : AV → Option α) : (some (⟨[v], [], fr⟩ : Res)).bind (fun r => nilV r.outs (consV r.vals fun v vs => nilV vs (K v))) = K v := rfl
theorem wstep1f {α : Type} (v : AV) (K : AV → Option α) : (some (⟨[v], [], true⟩ : Res)).bind (fun r => bif r.fresh then nilV r.outs (consV r.vals fun v vs => nilV vs (K v)) else none) = K v := rfl
theorem wstep2 {α : Type} (v u : AV) (fr : Bool) (K : AV → AV → Option α) : (some (⟨[v, u], [], fr⟩ : Res)).bind (fun r => nilV r.outs (consV r.vals fun v vs => consV vs fun u us => nilV us (K v u))) = K v u := rfl

theorem nearU_l0s (run : Run) (n : Nat) (l : List AV) (lv : Int) : ∀ (m k : Nat), m ≤ l.length → l.length ≤ maxLen → m < k → f49_l0 run n k l lv ((m : Int) - 1) = some ⟨[.int (nearV l lv m)], [], false⟩ := by
  intro m
  induction m with
  | zero =>
    intro k _ _ hk
    obtain ⟨k, rfl⟩ : ∃ j, k = j + 1 := ⟨k - 1, by omega⟩
    rw [f49_l0_eq, leI_f (by omega)]
    rfl
  | succ m ih =>
    intro k hm hl hk
    obtain ⟨k, rfl⟩ : ∃ j, k = j + 1 := ⟨k - 1, by omega⟩
    rw [maxLen_eq] at hl
    have e : (((m + 1 : Nat) : Int) - 1) = (m : Int) := by omega
    rw [f49_l0_eq, e, leI_t (by omega), cond_true, inR_nat (by omega), cond_true, Int.toNat_natCast, w64 (by omega) (by omega), ih k (by omega) (by rw [maxLen_eq]; omega) (by omega)]
    simp only [nearV]
    by_cases h : lv ≤ (nth l m).toInt
    · rw [leI_t h, if_pos h]; rfl
    · rw [leI_f h, if_neg h]; rfl

theorem allU_l0s {run : Run} {l : List AV} {at_ : Int} (hr : ∀ i, i < 257 → run 49 [.slice l, .int at_, .int (i : Nat)] = some ⟨[.int (nearV l (i : Nat) at_.toNat)], [], false⟩) (n : Nat) :
    ∀ (j k i : Nat) (acc : List AV), i + j = 257 → acc.length ≤ i → j < k → f16_l0 run n k l at_ acc (i : Int) = some ⟨[.slice (allV l at_ acc j i)], [], true⟩ := by
  intro j
  induction j with
  | zero =>
    intro k i acc hi _ hk
    obtain ⟨k, rfl⟩ : ∃ j, k = j + 1 := ⟨k - 1, by omega⟩
    rw [f16_l0_eq, ltI_f (by omega)]
    rfl
  | succ j ih =>
    intro k i acc hi hacc hk
    obtain ⟨k, rfl⟩ : ∃ j, k = j + 1 := ⟨k - 1, by omega⟩
    rw [f16_l0_eq, ltI_t (by omega), cond_true, hr i (by omega)]
    simp only [Option.bind_some, consV, nilV, AV.toInt]
    have hb : Nat.ble ((acc.length + 1) * 8) 140737488355328 = true := Nat.ble_eq_true_of_le (by omega)
    rw [hb, cond_true, w64 (by omega) (by omega)]
    have ih' := ih k (i + 1) (acc ++ [.int (nearV l (i : Nat) at_.toNat)]) (by omega) (by simp; omega) (by omega)
    have e : ((i + 1 : Nat) : Int) = (i : Int) + 1 := by omega
    rw [e] at ih'
    rw [ih']
    simp only [allV]
    by_cases h : nearV l (i : Nat) at_.toNat < 0
    · rw [ltI_t h, if_pos h]; rfl
    · rw [ltI_f h, if_neg h, cond_false]
      by_cases h' : nearV l (i : Nat) at_.toNat = 0
      · rw [eqI_t h', if_pos h']; rfl
      · rw [eqI_f h', if_neg h']; rfl

theorem allV_len (l : List AV) (at_ : Int) : ∀ (j : Nat) (lv : Int) (acc : List AV), (allV l at_ acc j lv).length ≤ acc.length + j
  | 0, _, acc => Nat.le_refl _
  | j + 1, lv, acc => by
    simp only [allV]
    split
    · omega
    · split
      · simp
      · have := allV_len l at_ j (lv + 1) (acc ++ [.int (nearV l lv at_.toNat)])
        simp at this
        omega

theorem allOf_len (l : List AV) (at_ : Int) : (allOf l at_).length ≤ 257 := by
  unfold allOf
  split
  · simp
  · split
    · simp
    · have := allV_len l at_ 257 0 []
      simpa using this

theorem nearV_le (L : List AV) (k : Int) : ∀ i, nearV L k i < i
  | 0 => by simp [nearV]
  | i + 1 => by
    simp only [nearV]
    have := nearV_le L k i
    split <;> omega
theorem farL_true (A : List AV) («to» : Int) : ∀ j i b, (farL A «to» j i b true).2 = true
  | 0, _, _ => rfl
  | j + 1, i, b => by
    simp only [farL]
    rw [not_t, cond_false]
    cases leI «to» (nth A i).toInt
    · exact farL_true A «to» j (i + 1) b
    · cases ltI (nth A i).toInt b
      · exact farL_true A «to» j (i + 1) b
      · exact farL_true A «to» j (i + 1) _
theorem farL_spec (A : List AV) («to» : Int) (P : Int → Prop) (hP : ∀ q, q < A.length → «to» ≤ (nth A q).toInt → P (nth A q).toInt) : ∀ j i b s, i + j = A.length → (s = true → P b) → (farL A «to» j i b s).2 = true → P (farL A «to» j i b s).1
  | 0, _, b, s, _, h, h2 => h h2
  | j + 1, i, b, s, hi, h, h2 => by
    simp only [farL] at h2 ⊢
    by_cases hc : «to» ≤ (nth A i).toInt
    · have hp := hP i (by omega) hc
      rw [leI_t hc, cond_true] at h2 ⊢
      cases s with
      | false => rw [not_f, cond_true] at h2 ⊢; exact farL_spec A «to» P hP j (i + 1) _ _ (by omega) (fun _ => hp) h2
      | true =>
        rw [not_t, cond_false] at h2 ⊢
        cases hl : ltI (nth A i).toInt b with
        | true => rw [hl, cond_true] at h2; rw [cond_true]; exact farL_spec A «to» P hP j (i + 1) _ _ (by omega) (fun _ => hp) h2
        | false => rw [hl, cond_false] at h2; rw [cond_false]; exact farL_spec A «to» P hP j (i + 1) _ _ (by omega) h h2
    · rw [leI_f hc, cond_false] at h2 ⊢
      exact farL_spec A «to» P hP j (i + 1) _ _ (by omega) h h2
theorem far_l0 (run : Run) (n : Nat) (A : List AV) («to» : Int) (hA : A.length ≤ 1000) : ∀ (j k i : Nat) (b : Int) (s : Bool), i + j = A.length → j < k →
    f96_l0 run n k «to» b s A (A.length : Int) (i : Int) = some ⟨[.int (farL A «to» j i b s).1, .bool (farL A «to» j i b s).2], [], f96_fresh⟩ := by
  intro j
  induction j with
  | zero =>
    intro k i b s hi hk
    obtain ⟨k, rfl⟩ : ∃ j, k = j + 1 := ⟨k - 1, by omega⟩
    rw [f96_l0_eq, ltI_f (by omega)]; rfl
  | succ j ih =>
    intro k i b s hi hk
    obtain ⟨k, rfl⟩ : ∃ j, k = j + 1 := ⟨k - 1, by omega⟩
    have i1 := ih k (i + 1) (nth A i).toInt true (by omega) (by omega)
    have i2 := ih k (i + 1) b s (by omega) (by omega)
    rw [show ((i + 1 : Nat) : Int) = (i : Int) + 1 by omega] at i1 i2
    simp only [farL]
    rw [f96_l0_eq, ltI_t (a := (i : Int)) (b := (A.length : Int)) (by omega), cond_true, inR_nat (by omega), cond_true, Int.toNat_natCast, w64 (by omega) (by omega), i1, i2]
    cases leI «to» (nth A i).toInt
    · rfl
    · cases s
      · rfl
      · cases ltI (nth A i).toInt b <;> rfl

/-- Entries lie ahead. -/
theorem allV_lt (L : List AV) (at_ : Int) : ∀ (j : Nat) (lv : Int) (acc : List AV), (∀ y ∈ acc, 0 ≤ y.toInt ∧ y.toInt < at_.toNat) → ∀ y ∈ allV L at_ acc j lv, 0 ≤ y.toInt ∧ y.toInt < at_.toNat
  | 0, _, _, h => h
  | j + 1, lv, acc, h => by
    simp only [allV]
    have hn := nearV_le L lv at_.toNat
    have hs : ¬ nearV L lv at_.toNat < 0 → ∀ y ∈ acc ++ [AV.int (nearV L lv at_.toNat)], 0 ≤ y.toInt ∧ y.toInt < at_.toNat := by
      intro h0 y hy
      rcases List.mem_append.1 hy with h1 | h1
      · exact h y h1
      · rw [List.mem_singleton.1 h1]
        show 0 ≤ nearV L lv at_.toNat ∧ nearV L lv at_.toNat < at_.toNat
        omega
    split
    · exact h
    · rename_i h0
      split
      · exact hs h0
      · exact allV_lt L at_ j (lv + 1) _ (hs h0)
theorem allOf_lt {L : List AV} {x : Int} {q : Nat} (h : q < (allOf L x).length) : 0 ≤ (nth (allOf L x) q).toInt ∧ (nth (allOf L x) q).toInt < x := by
  have hm : nth (allOf L x) q ∈ allOf L x := by rw [nth_lt h]; exact List.getElem_mem h
  unfold allOf at h hm ⊢
  by_cases h1 : x < 1
  · rw [if_pos h1] at h; simp at h
  · rw [if_neg h1] at h hm ⊢
    by_cases h2 : (L.length : Int) < x
    · rw [if_pos h2] at h; simp at h
    · rw [if_neg h2] at h hm ⊢
      have := allV_lt L x 257 0 [] (fun y hy => by cases hy) _ hm
      omega
theorem farV_in {L : List AV} {x «to» : Int} (h : (farV L x «to»).2 = true) : «to» ≤ (farV L x «to»).1 ∧ (farV L x «to»).1 < x := by
  have := farL_spec (allOf L x) «to» (fun b => «to» ≤ b ∧ b < x) (fun q hq hle => ⟨hle, (allOf_lt hq).2⟩) (allOf L x).length 0 0 false (by omega) (fun h => by cases h) h
  exact this

section
variable {e : Run}
theorem near_e {l : List AV} {at_ lv : Int} (hl : l.length ≤ maxLen) (h0 : 0 ≤ at_) (h1 : at_ ≤ l.length) : Evt fun n => runE G e n 49 [.slice l, .int at_, .int lv] = some ⟨[.int (nearV l lv at_.toNat)], [], false⟩ := by
  refine Evt.succ ((Evt.ge (at_.toNat + 1)).mono fun n hn => ?_)
  rw [f49_run, f49_eq, mn2_eq, show min at_ (l.length : Int) = at_ by omega]
  rw [maxLen_eq] at hl
  rw [w64 (by omega) (by omega), show at_ - 1 = ((at_.toNat : Nat) : Int) - 1 by omega]
  exact nearU_l0s _ _ _ _ _ _ (by omega) (by rw [maxLen_eq]; omega) (by omega)
theorem all_e {l : List AV} {at_ : Int} (hl : l.length ≤ maxLen) : Evt fun n => runE G e n 16 [.slice l, .int at_] = some ⟨[.slice (allOf l at_)], [], true⟩ := by
  unfold allOf
  by_cases h1 : at_ < 1
  · refine Evt.succ (.of fun n => ?_)
    rw [f16_run, f16_eq, ltI_t h1, if_pos h1]; rfl
  · by_cases h2 : (l.length : Int) < at_
    · refine Evt.succ (.of fun n => ?_)
      rw [f16_run, f16_eq, ltI_f h1, ltI_t h2, if_neg h1, if_pos h2]; rfl
    · refine Evt.succ (((Evt.all 257 fun i _ => near_e (e := e) (l := l) (at_ := at_) (lv := (i : Nat)) hl (by omega) (by omega)).and (Evt.ge 258)).mono fun n hn => ?_)
      rw [f16_run, f16_eq, ltI_f h1, ltI_f h2, if_neg h1, if_neg h2, cond_false, cond_false]
      exact allU_l0s hn.1 n 257 n 0 [] (by omega) (by simp) (by omega)
theorem far_e {A : List AV} {«to» : Int} (hA : A.length ≤ 1000) : Evt fun n => runE G e n 96 [.slice A, .int «to»] = some ⟨[.int (farL A «to» A.length 0 0 false).1, .bool (farL A «to» A.length 0 0 false).2], [], false⟩ := by
  refine Evt.succ ((Evt.ge (A.length + 2)).mono fun n hn => ?_)
  rw [f96_run, f96_eq]
  exact far_l0 _ n A «to» hA A.length n 0 0 false (by omega) (by omega)
theorem walk_e {L : List AV} {x «to» : Int} (hL : L.length ≤ 100000) : Evt fun n => runE G e n 58 [.slice L, .int x, .int «to»] = some ⟨[.slice (walkV L x «to»)], [], true⟩ := by
  unfold walkV
  by_cases c1 : «to» < 0
  · refine Evt.succ (.of fun n => ?_)
    rw [if_pos (.inl c1), f58_run, f58_eq, ltI_t c1, cond_true]; rfl
  by_cases c2 : x < «to»
  · refine Evt.succ (.of fun n => ?_)
    rw [if_pos (.inr (.inl c2)), f58_run, f58_eq, ltI_f c1, cond_false, ltI_t c2, cond_true]; rfl
  by_cases c3 : (L.length : Int) ≤ x
  · refine Evt.succ (.of fun n => ?_)
    rw [if_pos (.inr (.inr c3)), f58_run, f58_eq, ltI_f c1, cond_false, ltI_f c2, cond_false, leI_t c3, cond_true]; rfl
  have hall := Evt.all L.length fun i (_ : i < L.length) => (all_e (e := e) (l := L) (at_ := (i : Int)) (by rw [maxLen_eq]; omega)).and (far_e (e := e) (A := allOf L (i : Int)) («to» := «to») (Nat.le_trans (allOf_len _ _) (by omega)))
  refine Evt.succ ((hall.and (Evt.ge (x.toNat + 2))).mono fun n hn => ?_)
  have key : ∀ (j k : Nat) (x : Int) (acc : List AV), 0 ≤ x → x ≤ j → x < L.length → j < k → acc.length + j ≤ 1000000 → f58_l0 (runE G e n) n k L x «to» acc = some ⟨[.slice (((walkG L «to» j x).map (acc ++ ·)).getD [])], [], true⟩ := by
    intro j
    induction j with
    | zero =>
      intro k x acc h0 hx _ hk _
      obtain ⟨k, rfl⟩ : ∃ j, k = j + 1 := ⟨k - 1, by omega⟩
      rw [f58_l0_eq, ltI_f (by omega), cond_false]
      simp only [walkG, Option.map_some, Option.getD_some, List.append_nil]; rfl
    | succ j ih =>
      intro k x acc h0 hx hxl hk ha
      obtain ⟨k, rfl⟩ : ∃ j, k = j + 1 := ⟨k - 1, by omega⟩
      simp only [walkG]
      by_cases h : «to» < x
      · obtain ⟨r1, r2⟩ := hn.1 x.toNat (by omega)
        rw [show ((x.toNat : Nat) : Int) = x by omega] at r1 r2
        have r2' : runE G e n 96 [.slice (allOf L x), .int «to»] = some ⟨[.int (farV L x «to»).1, .bool (farV L x «to»).2], [], false⟩ := r2
        rw [f58_l0_eq, ltI_t h, cond_true, cond_true, r1, wstep1f, toSlice_s, r2', wstep2, toBool_b, toInt_i]
        cases hf : (farV L x «to»).2 with
        | false => rfl
        | true =>
          have hin := farV_in hf
          have ih' := ih k (farV L x «to»).1 (acc ++ [.int (farV L x «to»).1]) (by omega) (by omega) (by omega) (by omega) (by simp; omega)
          rw [not_t, cond_false, cond_true, Nat.ble_eq_true_of_le (by omega), cond_true, ih']
          cases walkG L «to» j (farV L x «to»).1 with
          | none => rfl
          | some r => simp only [Option.map_some, Option.getD_some, List.append_assoc, List.singleton_append]
      · rw [f58_l0_eq, ltI_f h, cond_false, cond_false]
        simp only [Option.map_some, Option.getD_some, List.append_nil]; rfl
  rw [if_neg (by omega), f58_run, f58_eq, ltI_f c1, cond_false, ltI_f c2, cond_false, leI_f c3, cond_false]
  exact key x.toNat n x [.int x] (by omega) (by omega) (by omega) (by omega) (by simp; omega)
end

end Go.Proofs.YtogehijjhibdkaaGreat.Ev
