/- Places between two, through a third one. -/
import Derived.Test.YteiahdlklppghaaGreatEvPDownX
import Derived.Test.YteiahdlklppghaaGreatEvSBet
import Derived.Test.YteiahdlklppghaaGreatEvExtS
namespace Go.Proofs.YteiahdlklppghaaGreat.Ev
open Go Go.RowKit

theorem sameInts {X : List AV} (hX : X.length ≤ 1000000) : RunsX 10 [.slice X, .slice X] ⟨[.bool true], [], false⟩ := by
  refine Evt.succ ((Evt.ge (X.length + 2)).mono fun n hn => ?_)
  have key : ∀ (j k i : Nat), i + j = X.length → j < k → f10_l0 (runE G ext n) n k X X (i : Int) = some ⟨[.bool true], [], false⟩ := by
    intro j
    induction j with
    | zero =>
      intro k i hi hk
      obtain ⟨k, rfl⟩ : ∃ j, k = j + 1 := ⟨k - 1, by omega⟩
      rw [f10_l0_eq, ltI_f (by omega), cond_false]; rfl
    | succ j ih =>
      intro k i hi hk
      obtain ⟨k, rfl⟩ : ∃ j, k = j + 1 := ⟨k - 1, by omega⟩
      have ih' := ih k (i + 1) (by omega) (by omega)
      rw [f10_l0_eq, ltI_t (by omega), cond_true, inR_nat (by omega), cond_true, cond_true, eqI_t rfl, not_t, cond_false, w64 (x := (i : Int) + 1) (by omega) (by omega), show (i : Int) + 1 = ((i + 1 : Nat) : Int) by omega, ih']
  rw [f10_run, f10_eq, eqI_t rfl, not_t, cond_false]
  exact key X.length n 0 (by omega) (by omega)

/-- The reference's walk tells nothing by minus one. -/
theorem refFar_l2 (run : Run) (n k0 : Nat) (L acc A : List AV) («to» : Int) (h0 : 0 ≤ «to») (hA : A.length ≤ 1000) : ∀ (j k i : Nat) (b : Int) (s : Bool), i + j = A.length → j < k → (s = true → 0 ≤ b) →
    f37_l2 run n k0 k L «to» acc A (bif s then b else -1) (i : Int) = bif (farL A «to» j i b s).2 then (bif Nat.ble ((acc.length + 1) * 8) 140737488355328 then f37_l0 run n k0 L (farL A «to» j i b s).1 «to» (acc ++ [.int (farL A «to» j i b s).1]) else none) else some ⟨[.slice []], [], f37_fresh⟩ := by
  intro j
  induction j with
  | zero =>
    intro k i b s hi hk hs
    obtain ⟨k, rfl⟩ : ∃ j, k = j + 1 := ⟨k - 1, by omega⟩
    rw [f37_l2_eq, ltI_f (by omega), cond_false]
    simp only [farL]
    cases s with
    | false => rw [cond_false, ltI_t (by omega)]; rfl
    | true => rw [cond_true, ltI_f (by have := hs rfl; omega)]; rfl
  | succ j ih =>
    intro k i b s hi hk hs
    obtain ⟨k, rfl⟩ : ∃ j, k = j + 1 := ⟨k - 1, by omega⟩
    rw [f37_l2_eq, ltI_t (by omega), cond_true, inR_nat (by omega), cond_true, Int.toNat_natCast, w64 (x := (i : Int) + 1) (by omega) (by omega), show (i : Int) + 1 = ((i + 1 : Nat) : Int) by omega]
    simp only [farL]
    by_cases hc : «to» ≤ (nth A i).toInt
    · have i1 := ih k (i + 1) (nth A i).toInt true (by omega) (by omega) (fun _ => by omega)
      rw [cond_true] at i1
      rw [leI_t hc, cond_true, cond_true]
      cases s with
      | false => rw [cond_false, ltI_t (by omega), cond_true, cond_true, i1]; rfl
      | true =>
        have i2 := ih k (i + 1) b true (by omega) (by omega) hs
        rw [cond_true] at i2
        rw [cond_true, ltI_f (by have := hs rfl; omega), cond_false, cond_true]
        cases hl : ltI (nth A i).toInt b with
        | true => rw [cond_true, cond_true, i1]; rfl
        | false => rw [cond_false, i2]; rfl
    · have i3 := ih k (i + 1) b s (by omega) (by omega) hs
      rw [leI_f hc, cond_false, i3]; rfl

theorem refWalk_runs {L : List AV} {x «to» : Int} (hL : L.length ≤ 100000) : RunsX 37 [.slice L, .int x, .int «to»] ⟨[.slice (walkV L x «to»)], [], true⟩ := by
  unfold walkV
  by_cases c1 : «to» < 0
  · refine Evt.succ (.of fun n => ?_)
    rw [if_pos (.inl c1), f37_run, f37_eq, ltI_t c1, cond_true]; rfl
  by_cases c2 : x < «to»
  · refine Evt.succ (.of fun n => ?_)
    rw [if_pos (.inr (.inl c2)), f37_run, f37_eq, ltI_f c1, cond_false, ltI_t c2, cond_true]; rfl
  by_cases c3 : (L.length : Int) ≤ x
  · refine Evt.succ (.of fun n => ?_)
    rw [if_pos (.inr (.inr c3)), f37_run, f37_eq, ltI_f c1, cond_false, ltI_f c2, cond_false, leI_t c3, cond_true]; rfl
  have hall := Evt.all L.length fun i (_ : i < L.length) => (allR_runs (l := L) (at_ := (i : Int)) (by rw [maxLen_eq]; omega))
  refine Evt.succ ((hall.and (Evt.ge (x.toNat + 1002))).mono fun n hn => ?_)
  have key : ∀ (j k : Nat) (x : Int) (acc : List AV), 0 ≤ x → x ≤ j → x < L.length → j < k → acc.length + j ≤ 1000000 → f37_l0 (runE G ext n) n k L x «to» acc = some ⟨[.slice (((walkG L «to» j x).map (acc ++ ·)).getD [])], [], true⟩ := by
    intro j
    induction j with
    | zero =>
      intro k x acc h0 hx _ hk _
      obtain ⟨k, rfl⟩ : ∃ j, k = j + 1 := ⟨k - 1, by omega⟩
      rw [f37_l0_eq, ltI_f (by omega), cond_false]
      simp only [walkG, Option.map_some, Option.getD_some, List.append_nil]; rfl
    | succ j ih =>
      intro k x acc h0 hx hxl hk ha
      obtain ⟨k, rfl⟩ : ∃ j, k = j + 1 := ⟨k - 1, by omega⟩
      simp only [walkG]
      by_cases h : «to» < x
      · have r1 := hn.1 x.toNat (by omega)
        rw [show ((x.toNat : Nat) : Int) = x by omega] at r1
        have hA := allOf_len L x
        have hf := refFar_l2 (runE G ext n) n k L acc (allOf L x) «to» (by omega) (by omega) (allOf L x).length n 0 0 false (by omega) (by omega) (fun h => by cases h)
        rw [cond_false] at hf
        rw [f37_l0_eq, ltI_t h, cond_true, cond_true, r1, wstep1f, toSlice_s]
        refine hf.trans ?_
        have e : farV L x «to» = farL (allOf L x) «to» (allOf L x).length 0 0 false := rfl
        rw [← e]
        cases hf : (farV L x «to»).2 with
        | false => rfl
        | true =>
          have hin := farV_in hf
          have ih' := ih k (farV L x «to»).1 (acc ++ [.int (farV L x «to»).1]) (by omega) (by omega) (by omega) (by omega) (by simp; omega)
          rw [cond_true, cond_true, Nat.ble_eq_true_of_le (by omega), cond_true, ih']
          cases walkG L «to» j (farV L x «to»).1 with
          | none => rfl
          | some r => simp only [Option.map_some, Option.getD_some, List.append_assoc, List.singleton_append]
      · rw [f37_l0_eq, ltI_f h, cond_false, cond_false]
        simp only [Option.map_some, Option.getD_some, List.append_nil]; rfl
  rw [if_neg (by omega), f37_run, f37_eq, ltI_f c1, cond_false, ltI_f c2, cond_false, leI_f c3, cond_false]
  exact key x.toNat n x [.int x] (by omega) (by omega) (by omega) (by omega) (by simp; omega)

theorem walkG_last {L : List AV} {«to» : Int} (h0 : 0 ≤ «to») : ∀ (j : Nat) (x : Int) (r : List AV), «to» ≤ x → x ≤ j → walkG L «to» j x = some r → (AV.int x :: r).getLast? = some (.int «to»)
  | 0, x, r, h1, h2, h => by
    cases h
    obtain rfl : x = «to» := by omega
    rfl
  | j + 1, x, r, h1, h2, h => by
    simp only [walkG] at h
    by_cases hc : «to» < x
    · rw [ltI_t hc, cond_true] at h
      cases hf : (farV L x «to»).2 with
      | false => rw [hf] at h; cases h
      | true =>
        rw [hf, cond_true] at h
        obtain ⟨r', h3, rfl⟩ := Option.map_eq_some_iff.1 h
        have hin := farV_in hf
        have := walkG_last h0 j _ r' hin.1 (by omega) h3
        rw [List.getLast?_cons_cons]
        exact this
    · rw [ltI_f hc, cond_false] at h
      cases h
      obtain rfl : x = «to» := by omega
      rfl

/-- A walk that leads somewhere begins and ends as told. -/
theorem walkV_ends {L : List AV} {x «to» : Int} (h : (walkV L x «to»).length ≠ 0) (hlt : «to» < x) : ∃ M, walkV L x «to» = .int x :: (M ++ [.int «to»]) := by
  unfold walkV at h ⊢
  by_cases hc : «to» < 0 ∨ x < «to» ∨ (L.length : Int) ≤ x
  · rw [if_pos hc] at h; exact absurd rfl h
  rw [if_neg hc] at h ⊢
  cases hw : walkG L «to» x.toNat x with
  | none => rw [hw] at h; exact absurd rfl h
  | some r =>
    have hl := walkG_last (by omega) _ _ _ (by omega) (by omega) hw
    show ∃ M, AV.int x :: r = _
    rcases List.eq_nil_or_concat r with rfl | ⟨M, y, rfl⟩
    · simp at hl; omega
    · refine ⟨M, ?_⟩
      rw [List.concat_eq_append, ← List.cons_append, List.getLast?_concat] at hl
      cases hl
      rw [List.concat_eq_append]

theorem betRef_l2 (run : Run) (n k0 : Nat) (A acc : List AV) (hA : ∃ zs : List Int, A = zs.map AV.int) (ha : A.length ≤ 100000) : ∀ (m k : Nat) (acc : List AV), acc.length + m ≤ 1000000 → m + 1 ≤ A.length → m < k → f18_l2 run n k0 k A acc (m : Int) = some ⟨[.slice (acc ++ ((A.take (m + 1)).drop 1).reverse)], [], true⟩ := by
  obtain ⟨zs, hz⟩ := hA
  intro m
  induction m with
  | zero =>
    intro k acc _ hm hk
    obtain ⟨k, rfl⟩ : ∃ j, k = j + 1 := ⟨k - 1, by omega⟩
    rw [f18_l2_eq, ltI_f (by omega), cond_false]
    have : (A.take (0 + 1)).drop 1 = [] := List.drop_eq_nil_of_le (by rw [List.length_take]; omega)
    rw [this, List.reverse_nil, List.append_nil]; rfl
  | succ m ih =>
    intro k acc hacc hm hk
    obtain ⟨k, rfl⟩ : ∃ j, k = j + 1 := ⟨k - 1, by omega⟩
    have e : AV.int (nth A (m + 1)).toInt = A[m + 1]'(by omega) := by
      rw [nth_lt (by omega)]
      subst hz
      rw [List.getElem_map]
      rfl
    rw [f18_l2_eq, ltI_t (by omega), cond_true, inR_nat (by omega), cond_true, Nat.ble_eq_true_of_le (by omega), cond_true, Int.toNat_natCast, e, w64 (by omega) (by omega), show ((m + 1 : Nat) : Int) - 1 = (m : Int) by omega, ih k _ (by simp; omega) (by omega) (by omega)]
    have e2 : (A.take (m + 1 + 1)).drop 1 = (A.take (m + 1)).drop 1 ++ [A[m + 1]'(by omega)] := by
      rw [List.take_succ_eq_append_getElem (by omega), List.drop_append_of_le_length (by rw [List.length_take]; omega)]
    rw [e2, List.reverse_append, List.reverse_singleton, List.singleton_append, List.append_assoc, List.singleton_append]

theorem betRef_l0 (run : Run) (n : Nat) (A C : List AV) (hC : ∃ zs : List Int, C = zs.map AV.int) (ha : A.length ≤ 100000) (hc : C.length ≤ 100000) : ∀ (m k : Nat) (acc : List AV), acc.length + m ≤ 100000 → m ≤ C.length → m < k → f18_l0 run n k A C acc ((m : Int) - 1) = f18_l2 run n (k - m - 1) n A (acc ++ (C.take m).reverse) (IntKind.wrap .i64 ((A.length : Int) - 2)) := by
  obtain ⟨zs, hz⟩ := hC
  intro m
  induction m with
  | zero =>
    intro k acc _ _ hk
    obtain ⟨k, rfl⟩ : ∃ j, k = j + 1 := ⟨k - 1, by omega⟩
    rw [f18_l0_eq, leI_f (by omega), cond_false, List.take_zero, List.reverse_nil, List.append_nil]; rfl
  | succ m ih =>
    intro k acc hacc hm hk
    obtain ⟨k, rfl⟩ : ∃ j, k = j + 1 := ⟨k - 1, by omega⟩
    have e : AV.int (nth C m).toInt = C[m]'(by omega) := by
      rw [nth_lt (by omega)]
      subst hz
      rw [List.getElem_map]
      rfl
    rw [f18_l0_eq, show (((m + 1 : Nat) : Int) - 1) = (m : Int) by omega, leI_t (by omega), cond_true, inR_nat (by omega), cond_true, Nat.ble_eq_true_of_le (by omega), cond_true, Int.toNat_natCast, e, w64 (x := (m : Int) - 1) (by omega) (by omega), ih k _ (by simp; omega) (by omega) (by omega)]
    rw [List.take_succ_eq_append_getElem (by omega), List.reverse_append, List.reverse_singleton, List.singleton_append, List.append_assoc, List.singleton_append, show k + 1 - (m + 1) - 1 = k - m - 1 by omega]

theorem refBetween_runs {L : List AV} {high at_ low : Int} (hL : L.length ≤ 50000) : RunsX 18 [.slice L, .int high, .int at_, .int low] ⟨[.slice (betV L high at_ low)], [], true⟩ := by
  by_cases c1 : high ≤ at_
  · refine Evt.succ (.of fun n => ?_)
    unfold betV
    rw [if_pos (.inr (.inr (.inl c1))), f18_run, f18_eq, leI_t c1, cond_true]; rfl
  by_cases c2 : at_ ≤ low
  · refine Evt.succ (.of fun n => ?_)
    unfold betV
    rw [if_pos (.inr (.inr (.inr c2))), f18_run, f18_eq, leI_f c1, cond_false, leI_t c2, cond_true]; rfl
  refine Evt.succ (((refWalk_runs (L := L) (x := high) («to» := at_) (by omega)).and ((refWalk_runs (L := L) (x := at_) («to» := low) (by omega)).and (Evt.ge 100002))).mono fun n hn => ?_)
  obtain ⟨g1, g2, g3⟩ := hn
  have lA := walkV_le (L := L) (x := high) («to» := at_)
  have lC := walkV_le (L := L) (x := at_) («to» := low)
  have iA := walkV_ints L high at_
  have iC := walkV_ints L at_ low
  rw [f18_run, f18_eq, leI_f c1, cond_false, leI_f c2, cond_false, g1, wstep1f, g2, wstep1f, toSlice_s, toSlice_s]
  by_cases a0 : (walkV L high at_).length = 0
  · unfold betV
    rw [if_pos (.inl a0), a0, eqI_t (show ((0 : Nat) : Int) = 0 from rfl), cond_true]; rfl
  by_cases b0 : (walkV L at_ low).length = 0
  · unfold betV
    rw [if_pos (.inr (.inl b0)), eqI_f (by omega), cond_false, b0, eqI_t (show ((0 : Nat) : Int) = 0 from rfl), cond_true]; rfl
  have hb : betV L high at_ low = (((walkV L high at_).drop 1 ++ (walkV L at_ low).drop 1).dropLast).reverse := by
    unfold betV
    rw [if_neg (by omega)]
  obtain ⟨M, hM⟩ := walkV_ends a0 (by omega)
  obtain ⟨R, hR⟩ := walkV_ends b0 (by omega)
  rw [hb, eqI_f (by omega), cond_false, eqI_f (by omega), cond_false]
  rw [hM] at lA iA ⊢
  rw [hR] at lC iC ⊢
  have l1 : (AV.int high :: (M ++ [AV.int at_])).length = M.length + 2 := by simp
  have l2 : (AV.int at_ :: (R ++ [AV.int low])).length = R.length + 2 := by simp
  rw [l1] at lA
  rw [l2] at lC
  rw [l2, w64 (by omega) (by omega), show (((R.length + 2 : Nat) : Int) - 2) = ((R.length + 1 : Nat) : Int) - 1 by omega, betRef_l0 (runE G ext n) n _ _ iC (by omega) (by omega) (R.length + 1) n [] (by simp; omega) (by omega) (by omega), l1, w64 (by omega) (by omega), show (((M.length + 2 : Nat) : Int) - 2) = (M.length : Int) by omega]
  rw [betRef_l2 (runE G ext n) n _ _ [] iA (by omega) M.length n _ (by simp; omega) (by omega) (by omega)]
  have e1 : (AV.int at_ :: (R ++ [AV.int low])).take (R.length + 1) = AV.int at_ :: R := by
    rw [List.take_succ_cons, List.take_left]
  have e2 : ((AV.int high :: (M ++ [AV.int at_])).take (M.length + 1)).drop 1 = M := by
    rw [List.take_succ_cons, List.take_left]; rfl
  rw [e1, e2]
  congr 3
  rw [List.drop_succ_cons, List.drop_zero, List.drop_succ_cons, List.drop_zero, ← List.append_assoc, List.dropLast_concat]
  simp

theorem between_runs {L : List AV} {a b c : Int} (hL : L.length ≤ 100000) : RunsX 17 [.slice L, .int a, .int b, .int c] ⟨[.slice (betV L a b c)], [], false⟩ := by
  refine RunsX.of_eval 0 ?_
  show ext 17 _ = _
  have e : ext 17 [.slice L, .int a, .int b, .int c] = betweenX [.slice L, .int a, .int b, .int c] := by
    unfold ext
    rw [show assoc extL 17 = some betweenX from by rfl]
    rfl
  rw [e]
  show (bif Nat.ble L.length 100000 then some (⟨[.slice (betV L a b c)], [], false⟩ : Res) else none) = _
  rw [Nat.ble_eq_true_of_le hL, cond_true]

theorem betV_le {L : List AV} {a b c : Int} : (betV L a b c).length ≤ 2 * L.length := by
  have h1 := walkV_le (L := L) (x := a) («to» := b)
  have h2 := walkV_le (L := L) (x := b) («to» := c)
  unfold betV
  split
  · simp
  · simp; omega

set_option maxRecDepth 1000000 in
theorem wayAwake : RunsX 16 [] ⟨[.bool true], [], false⟩ := RunsX.of_eval 300 (by kernel_rfl)

theorem wayBetween_runs {L : List AV} {a b c : Int} (hL : L.length ≤ maxLen) : RunsX 4 [.slice L, .agg [.int a, .int b, .int c]] ⟨[.bool true], [], false⟩ := by
  rw [maxLen_eq] at hL
  by_cases h : 60 < L.length
  · refine Evt.succ (wayAwake.mono fun n hn => ?_)
    rw [f4_run, f4_eq, ltI_t (by omega), cond_true, hn]; rfl
  · have hb := betV_le (L := L) (a := a) (b := b) (c := c)
    have hx : RunsX 17 [.slice L, .int a, .int b, .int c] ⟨[.slice (betV L a b c)], [], false⟩ := between_runs (by omega)
    refine Evt.succ (((hx.and (refBetween_runs (L := L) (high := a) (at_ := b) (low := c) (by omega))).and ((sameInts (X := betV L a b c) (by omega)).and wayAwake)).mono fun n hn => ?_)
    obtain ⟨⟨g1, g2⟩, g3, g4⟩ := hn
    have f0 : (AV.fld (.agg [.int a, .int b, .int c]) 0).toInt = a := rfl
    have f1 : (AV.fld (.agg [.int a, .int b, .int c]) 1).toInt = b := rfl
    have f2 : (AV.fld (.agg [.int a, .int b, .int c]) 2).toInt = c := rfl
    rw [f4_run, f4_eq, ltI_f (by omega), cond_false, f0, f1, f2, g1, step1, g2, step1f, toSlice_s, g3, step1, toBool_b, cond_true, g4]; rfl

theorem three_ints' {l : List AV} (h : l.length = 3) (hy : ∀ (i : Nat) y, l[i]? = some y → (Ty.int .i64).Has y) : ∃ x y z : Int, l = [.int x, .int y, .int z] := by
  match l, h with
  | [p, q, r], _ =>
    obtain ⟨x, rfl, _⟩ := hy 0 p rfl
    obtain ⟨y, rfl, wy⟩ := hy 1 q rfl
    obtain ⟨z, rfl, wz⟩ := hy 2 r rfl
    exact ⟨x, y, z, rfl⟩
theorem wayBetween_sat (xs : List AV) (h : Ty.HasL [.slice (.int .i64), .arr 3 (.int .i64)] xs) : ∃ r, r.vals = [.bool true] ∧ Sat Tryz.prog f4_info 4 xs r := by
  obtain ⟨x, r, rfl, ⟨l, rfl, hl, _, _⟩, y, r2, rfl, ⟨p, rfl, hp, hp2⟩, rfl⟩ := h
  obtain ⟨a, b, c, rfl⟩ := three_ints' hp hp2
  exact ⟨_, rfl, sat_of_runsX (by kernel_rfl) (wayBetween_runs hl)⟩

end Go.Proofs.YteiahdlklppghaaGreat.Ev
