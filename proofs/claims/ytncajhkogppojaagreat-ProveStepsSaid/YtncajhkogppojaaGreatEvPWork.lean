/- Work: both programs tell it alike. -/
import Derived.Test.YtncajhkogppojaaGreatEvPNat
import Derived.Test.YtncajhkogppojaaGreatEvPKit
namespace Go.Proofs.YtncajhkogppojaaGreat.Ev
open Go Go.RowKit

theorem tk_nat {b : List UInt8} {at_ : Nat} : ∀ i, i ≤ 8 → at_ + i ≤ b.length → (tk b at_ i).toNat = natN ((b.drop at_).take i)
  | 0, _, _ => rfl
  | i + 1, hi, hl => by
    have ih := tk_nat (b := b) (at_ := at_) i (by omega) (by omega)
    have hlt := natN_lt ((b.drop at_).take i)
    rw [List.length_take, List.length_drop, show min i (b.length - at_) = i by omega] at hlt
    have hp : 256 ^ i ≤ 256 ^ 7 := Nat.pow_le_pow_right (by omega) (by omega)
    have hb : (byteAt b (at_ + i)).toNat = (b.getD (at_ + i) 0).toNat := by
      unfold byteAt
      rw [BitVec.toNat_ofNat, Nat.mod_eq_of_lt]
      have := (b.getD (at_ + i) 0).toNat_lt
      omega
    have hb2 := (b.getD (at_ + i) 0).toNat_lt
    have ht : (b.drop at_).take (i + 1) = (b.drop at_).take i ++ [b.getD (at_ + i) 0] := by
      rw [List.take_succ_eq_append_getElem (by rw [List.length_drop]; omega), List.getElem_drop]
      simp [show at_ + i < b.length by omega]
    simp only [tk]
    rw [ht, natN_snoc, ← add_or _ _ (by rw [hb]; exact hb2), BitVec.toNat_add, BitVec.toNat_shiftLeft, Nat.shiftLeft_eq, hb, ih]
    simp only [Nat.reducePow] at hp ⊢
    omega
theorem tk_lb {id : List UInt8} (h : id.length = 32) {i : Nat} (hi : i < 4) : tk id (8 * i) 8 = lb (natN id) (3 - i) := by
  apply BitVec.eq_of_toNat_eq
  rw [tk_nat 8 (Nat.le_refl _) (by omega), lb_toNat]
  have e : id = (id.take (8 * i)) ++ ((id.drop (8 * i)).take 8 ++ id.drop (8 * i + 8)) := by
    rw [← List.drop_drop, List.take_append_drop, List.take_append_drop]
  have hB := natN_lt ((id.drop (8 * i)).take 8)
  have hC := natN_lt (id.drop (8 * i + 8))
  have lB : ((id.drop (8 * i)).take 8).length = 8 := by simp; omega
  have lC : (id.drop (8 * i + 8)).length = 8 * (3 - i) := by simp; omega
  rw [lB] at hB
  rw [lC] at hC
  have e2 : natN id = (natN (id.take (8 * i)) * 18446744073709551616 + natN ((id.drop (8 * i)).take 8)) * 18446744073709551616 ^ (3 - i) + natN (id.drop (8 * i + 8)) := by
    conv => lhs; rw [e]
    rw [natN_append, natN_append, List.length_append, lB, lC, Nat.pow_add, show (256 : Nat) ^ (8 * (3 - i)) = 18446744073709551616 ^ (3 - i) by rw [Nat.pow_mul], ← Nat.mul_assoc, Nat.add_mul, Nat.add_assoc]
  rw [Nat.pow_mul] at hC
  have hC : natN (id.drop (8 * i + 8)) < 18446744073709551616 ^ (3 - i) := hC
  rw [e2, Nat.mul_comm _ (18446744073709551616 ^ (3 - i)), Nat.mul_add_div (Nat.pow_pos (by omega)), Nat.div_eq_of_lt hC, Nat.add_zero, Nat.mul_comm _ 18446744073709551616, Nat.mul_add_mod, Nat.mod_eq_of_lt]
  exact hB

theorem take64_at (n : Nat) (hn : 2000 ≤ n) {b : List UInt8} (hb : b.length ≤ maxLen) {at_ : Nat} (ha : at_ ≤ 1000000) : runE G ext (n + 2) 123 [.str b, .int at_] = some ⟨[.int (U (tk b at_ 8))], [], false⟩ := by
  rw [f123_run, f123_eq, show ((8 : Int)) = ((8 : Nat) : Int) from rfl, take_at n hn hb ha (by omega)]
  rfl

theorem wideOf_runs {id : List UInt8} (h : id.length = 32) : RunsX 85 [.blob id] ⟨[.agg (limbs (natN id))], [], false⟩ := by
  refine Evt.succ ((Evt.ge 3000).mono fun n hn => ?_)
  obtain ⟨m, rfl⟩ : ∃ j, n = j + 5 := ⟨n - 5, by omega⟩
  have t : ∀ i : Nat, i < 4 → runE G ext (m + 5) 123 [.str id, .int ((8 * i : Nat) : Int)] = some ⟨[.int (U (lb (natN id) (3 - i)))], [], false⟩ := by
    intro i hi
    rw [← tk_lb h hi]
    exact take64_at (m + 3) (by omega) (by rw [maxLen_eq]; omega) (by omega)
  have step : ∀ (i : Nat) (k : Nat) (o : List AV) (o2 : List AV), i < 4 → f85_l0 (runE G ext (m + 5)) (m + 5) (k + 1) (i : Int) id o2 o = f85_l0 (runE G ext (m + 5)) (m + 5) k ((i + 1 : Nat) : Int) id o2 (o.set (3 - i) (.int (U (lb (natN id) (3 - i))))) := by
    intro i k o o2 hi
    rw [f85_l0_eq, ltI_t (by omega), cond_true, raw32 h, w64 (x := 8 * (i : Int)) (by omega) (by omega), show 8 * (i : Int) = ((8 * i : Nat) : Int) by omega, t i hi, step1, toInt_i, w64 (x := 3 - (i : Int)) (by omega) (by omega), show 3 - (i : Int) = ((3 - i : Nat) : Int) by omega, inR_nat (by omega), cond_true, Int.toNat_natCast, w64 (x := (i : Int) + 1) (by omega) (by omega), show (i : Int) + 1 = ((i + 1 : Nat) : Int) by omega]
  have s0 := step 0 (m + 4) [.int 0, .int 0, .int 0, .int 0] [.int 0, .int 0, .int 0, .int 0] (by omega)
  have s1 := step 1 (m + 3) [.int 0, .int 0, .int 0, .int (U (lb (natN id) 3))] [.int 0, .int 0, .int 0, .int 0] (by omega)
  have s2 := step 2 (m + 2) [.int 0, .int 0, .int (U (lb (natN id) 2)), .int (U (lb (natN id) 3))] [.int 0, .int 0, .int 0, .int 0] (by omega)
  have s3 := step 3 (m + 1) [.int 0, .int (U (lb (natN id) 1)), .int (U (lb (natN id) 2)), .int (U (lb (natN id) 3))] [.int 0, .int 0, .int 0, .int 0] (by omega)
  rw [f85_run, f85_eq]
  refine s0.trans (s1.trans (s2.trans (s3.trans ?_)))
  rw [f85_l0_eq, ltI_f (by omega)]
  rfl

theorem wideCmp_runs {a b : Nat} (ha : a < Big) (hb : b < Big) : RunsX 86 [.agg (limbs a), .agg (limbs b)] ⟨[.int (cmpN a b)], [], false⟩ := by
  refine Evt.succ ((Evt.ge 10).mono fun n hn => ?_)
  obtain ⟨m, rfl⟩ : ∃ j, n = j + 5 := ⟨n - 5, by omega⟩
  have ea := lb_all ha
  have eb := lb_all hb
  have fa := fun j => (lb a j).isLt
  have fb := fun j => (lb b j).isLt
  have step : ∀ (i k : Nat), i < 4 → f86_l0 (runE G ext (m + 5)) (m + 5) (k + 1) (i : Int) (limbs a) (limbs b) = if (lb a (3 - i)).toNat < (lb b (3 - i)).toNat then some ⟨[.int (-1)], [], false⟩ else if (lb b (3 - i)).toNat < (lb a (3 - i)).toNat then some ⟨[.int 1], [], false⟩ else f86_l0 (runE G ext (m + 5)) (m + 5) k ((i + 1 : Nat) : Int) (limbs a) (limbs b) := by
    intro i k hi
    rw [f86_l0_eq, ltI_t (by omega), cond_true, w64 (x := 3 - (i : Int)) (by omega) (by omega), show 3 - (i : Int) = ((3 - i : Nat) : Int) by omega, inR_nat (by omega), cond_true, cond_true, Int.toNat_natCast, limbs_fld a (by omega), limbs_fld b (by omega), toInt_i, toInt_i, w64 (x := (i : Int) + 1) (by omega) (by omega), show (i : Int) + 1 = ((i + 1 : Nat) : Int) by omega]
    unfold U
    by_cases h1 : (lb a (3 - i)).toNat < (lb b (3 - i)).toNat
    · rw [if_pos h1, ltI_t (by omega)]; rfl
    · rw [if_neg h1, ltI_f (by omega), cond_false]
      by_cases h2 : (lb b (3 - i)).toNat < (lb a (3 - i)).toNat
      · rw [if_pos h2, ltI_t (by omega)]; rfl
      · rw [if_neg h2, ltI_f (by omega)]; rfl
  have s0 := step 0 (m + 4) (by omega)
  have s1 := step 1 (m + 3) (by omega)
  have s2 := step 2 (m + 2) (by omega)
  have s3 := step 3 (m + 1) (by omega)
  have s4 : f86_l0 (runE G ext (m + 5)) (m + 5) (m + 1) ((4 : Nat) : Int) (limbs a) (limbs b) = some ⟨[.int 0], [], false⟩ := by
    rw [f86_l0_eq, ltI_f (by omega)]; rfl
  rw [f86_run, f86_eq]
  refine s0.trans ?_
  rw [s1, s2, s3, s4]
  simp only [Nat.sub_zero, Nat.reduceSub]
  have a0 := fa 0
  have a1 := fa 1
  have a2 := fa 2
  have a3 := fa 3
  have b0 := fb 0
  have b1 := fb 1
  have b2 := fb 2
  have b3 := fb 3
  generalize (lb a 0).toNat = p0 at *
  generalize (lb a 1).toNat = p1 at *
  generalize (lb a 2).toNat = p2 at *
  generalize (lb a 3).toNat = p3 at *
  generalize (lb b 0).toNat = q0 at *
  generalize (lb b 1).toNat = q1 at *
  generalize (lb b 2).toNat = q2 at *
  generalize (lb b 3).toNat = q3 at *
  simp only [Nat.reducePow] at a0 a1 a2 a3 b0 b1 b2 b3
  unfold cmpN
  have lt : a < b → (if a < b then (-1 : Int) else if b < a then 1 else 0) = -1 := fun h => if_pos h
  have gt : b < a → (if a < b then (-1 : Int) else if b < a then 1 else 0) = 1 := fun h => by rw [if_neg (by omega), if_pos h]
  have eq : a = b → (if a < b then (-1 : Int) else if b < a then 1 else 0) = 0 := fun h => by rw [if_neg (by omega), if_neg (by omega)]
  by_cases c1 : p3 < q3
  · rw [if_pos c1, lt (by omega)]
  rw [if_neg c1]
  by_cases c2 : q3 < p3
  · rw [if_pos c2, gt (by omega)]
  rw [if_neg c2]
  by_cases c3 : p2 < q2
  · rw [if_pos c3, lt (by omega)]
  rw [if_neg c3]
  by_cases c4 : q2 < p2
  · rw [if_pos c4, gt (by omega)]
  rw [if_neg c4]
  by_cases c5 : p1 < q1
  · rw [if_pos c5, lt (by omega)]
  rw [if_neg c5]
  by_cases c6 : q1 < p1
  · rw [if_pos c6, gt (by omega)]
  rw [if_neg c6]
  by_cases c7 : p0 < q0
  · rw [if_pos c7, lt (by omega)]
  rw [if_neg c7]
  by_cases c8 : q0 < p0
  · rw [if_pos c8, gt (by omega)]
  rw [if_neg c8, eq (by omega)]

/-- Whether an id has its work. -/
def okV (id target : List UInt8) : Bool := decide (natN id ≤ natN target)
theorem workOk_runs {id target : List UInt8} (h : id.length = 32) (ht : target.length = 32) : RunsX 92 [.blob id, .blob target] ⟨[.bool (okV id target)], [], false⟩ := by
  refine Evt.succ (((wideOf_runs h).and ((wideOf_runs ht).and (wideCmp_runs (natN_big h) (natN_big ht)))).mono fun n hn => ?_)
  obtain ⟨g1, g2, g3⟩ := hn
  rw [f92_run, f92_eq]
  repeat (first | rw [step1] | rw [step1f] | rw [step2] | rw [step3] | rw [toBool_b] | rw [toInt_i] | rw [toStr_s] | rw [toBlob_b] | rw [toSlice_s] | rw [fld0] | rw [fld1] | rw [fld2] | rw [fld3] | rw [cond_true] | rw [cond_false] | rw [not_t] | rw [not_f] | rw [g1] | rw [g2] | rw [toAgg_a] | rw [g3] | rw [cmpN_le])
  rfl

/- the reference's -/
theorem refOf_l2 (run : Run) (n k0 : Nat) (id : List UInt8) (N m c : Nat) (hm : m < 32) (hc : c < 256) (hN : ∀ k, k < 8 → N.testBit (8 * m + k) = c.testBit k) : ∀ (j k i : Nat), i + j = 8 → j < k →
    f82_l2 run n k0 k ((List.range (8 * m + i)).map fun x => .bool (N.testBit x)) ((31 - m : Nat) : Int) ((c / 2 ^ i : Nat) : Int) (i : Int) id = f82_l0 run n k0 ((List.range (8 * (m + 1))).map fun x => .bool (N.testBit x)) ((31 - m : Nat) - 1 : Int) id := by
  intro j
  induction j with
  | zero =>
    intro k i hi hk
    obtain ⟨k, rfl⟩ : ∃ j, k = j + 1 := ⟨k - 1, by omega⟩
    obtain rfl : i = 8 := by omega
    rw [f82_l2_eq, ltI_f (by omega), cond_false, w64 (by omega) (by omega), show 8 * m + 8 = 8 * (m + 1) by omega]
  | succ j ih =>
    intro k i hi hk
    obtain ⟨k, rfl⟩ : ∃ j, k = j + 1 := ⟨k - 1, by omega⟩
    have ih' := ih k (i + 1) (by omega) (by omega)
    have hlt : c / 2 ^ i < 256 := Nat.lt_of_le_of_lt (Nat.div_le_self _ _) hc
    have e1 : eqI (Int.tmod ((c / 2 ^ i : Nat) : Int) 2) 1 = N.testBit (8 * m + i) := by
      rw [hN i (by omega), Nat.testBit_eq_decide_div_mod_eq]
      have : Int.tmod ((c / 2 ^ i : Nat) : Int) 2 = ((c / 2 ^ i % 2 : Nat) : Int) := rfl
      rw [this]
      by_cases hq : c / 2 ^ i % 2 = 1
      · rw [eqI_t (by omega), decide_eq_true hq]
      · rw [eqI_f (by omega), decide_eq_false hq]
    have e2 : IntKind.wrap .i64 (Int.tdiv ((c / 2 ^ i : Nat) : Int) 2) = ((c / 2 ^ (i + 1) : Nat) : Int) := by
      rw [Nat.pow_succ, ← Nat.div_div_eq_div_mul]
      generalize c / 2 ^ i = q at hlt
      have : Int.tdiv (q : Int) 2 = ((q / 2 : Nat) : Int) := rfl
      rw [this, w64 (by omega) (by omega)]
    have e3 : ((List.range (8 * m + i)).map fun x => AV.bool (N.testBit x)) ++ [.bool (N.testBit (8 * m + i))] = (List.range (8 * m + (i + 1))).map fun x => AV.bool (N.testBit x) := by
      rw [← Nat.add_assoc, List.range_succ]; simp
    rw [f82_l2_eq, ltI_t (by omega), cond_true, show Nat.ble (((((List.range (8 * m + i)).map fun x => AV.bool (N.testBit x)).length + 1)) * 1) 140737488355328 = true from Nat.ble_eq_true_of_le (by simp; omega), cond_true, e1, e2, e3, w64 (x := (i : Int) + 1) (by omega) (by omega), show (i : Int) + 1 = ((i + 1 : Nat) : Int) by omega]
    exact ih'
theorem refOf_runs {id : List UInt8} (h : id.length = 32) : RunsX 82 [.blob id] ⟨[.slice (bitsL (natN id))], [], true⟩ := by
  refine Evt.succ ((Evt.ge 100).mono fun n hn => ?_)
  have key : ∀ (j k m : Nat), m + j = 32 → j < k → f82_l0 (runE G ext n) n k ((List.range (8 * m)).map fun x => .bool ((natN id).testBit x)) (31 - (m : Int)) id = some ⟨[.slice (bitsL (natN id))], [], true⟩ := by
    intro j
    induction j with
    | zero =>
      intro k m hm hk
      obtain ⟨k, rfl⟩ : ∃ j, k = j + 1 := ⟨k - 1, by omega⟩
      obtain rfl : m = 32 := by omega
      rw [f82_l0_eq, leI_f (by omega)]; rfl
    | succ j ih =>
      intro k m hm hk
      obtain ⟨k, rfl⟩ : ∃ j, k = j + 1 := ⟨k - 1, by omega⟩
      have ih' := ih k (m + 1) (by omega) (by omega)
      have hg := natN_get id m (by omega)
      rw [h, show 32 - 1 - m = 31 - m by omega] at hg
      have hN : ∀ k, k < 8 → (natN id).testBit (8 * m + k) = ((id.getD (31 - m) 0).toNat).testBit k := by
        intro k hk
        rw [← hg, show (256 : Nat) = 2 ^ 8 from rfl, Nat.testBit_mod_two_pow, decide_eq_true hk, Bool.true_and, ← Nat.pow_mul, testBit_shift, Nat.add_comm]
      have hc := (id.getD (31 - m) 0).toNat_lt
      have := refOf_l2 (runE G ext n) n k id (natN id) m _ (by omega) hc hN 8 n 0 (by omega) (by omega)
      rw [Nat.pow_zero, Nat.div_one, Nat.add_zero] at this
      rw [f82_l0_eq, leI_t (by omega), cond_true, show 31 - (m : Int) = ((31 - m : Nat) : Int) by omega, inR_nat (by omega), cond_true, Int.toNat_natCast, w64 (by omega) (by omega)]
      refine this.trans ?_
      rw [show ((31 - m : Nat) - 1 : Int) = 31 - ((m + 1 : Nat) : Int) by omega]
      exact ih'
  rw [f82_run, f82_eq]
  exact key 32 n 0 (by omega) (by omega)

theorem refCmp_runs {a b : Nat} (ha : a < Big) (hb : b < Big) : RunsX 83 [.slice (bitsL a), .slice (bitsL b)] ⟨[.int (cmpN a b)], [], false⟩ := by
  refine Evt.succ ((Evt.ge 300).mono fun n hn => ?_)
  have fin : ∀ (k : Nat), a = b → f83_l0 (runE G ext n) n (k + 1) (bitsL a) (bitsL b) (-1) = some ⟨[.int (cmpN a b)], [], false⟩ := by
    intro k he
    rw [f83_l0_eq, leI_f (by omega)]
    unfold cmpN
    rw [if_neg (by omega), if_neg (by omega)]; rfl
  have key : ∀ (i k : Nat), i ≤ 256 → i < k → a / 2 ^ i = b / 2 ^ i → f83_l0 (runE G ext n) n k (bitsL a) (bitsL b) ((i : Int) - 1) = some ⟨[.int (cmpN a b)], [], false⟩ := by
    intro i
    induction i with
    | zero =>
      intro k _ hk he
      obtain ⟨k, rfl⟩ : ∃ j, k = j + 1 := ⟨k - 1, by omega⟩
      exact fin k (by simpa using he)
    | succ i ih =>
      intro k h2 hk he
      obtain ⟨k, rfl⟩ : ∃ j, k = j + 1 := ⟨k - 1, by omega⟩
      have ih' := ih k (by omega) (by omega)
      have sa := bit_step a i
      have sb := bit_step b i
      rw [f83_l0_eq, show ((i + 1 : Nat) : Int) - 1 = (i : Int) by omega, leI_t (by omega), cond_true, inR_nat (by rw [bitsL_len]; omega), inR_nat (by rw [bitsL_len]; omega), cond_true, cond_true, cond_true, Int.toNat_natCast, bitsL_nth a (by omega), bitsL_nth b (by omega), toBool_b, toBool_b, w64 (x := (i : Int) - 1) (by omega) (by omega)]
      have mono : ∀ x y : Nat, x / 2 ^ i < y / 2 ^ i → x < y := fun x y hxy => by
        refine Nat.lt_of_not_le fun hle => ?_
        have := Nat.div_le_div_right (c := 2 ^ i) hle
        omega
      cases ta : a.testBit i <;> cases tb : b.testBit i
      · rw [eqO_same, not_t, cond_false]
        rw [ta] at sa
        rw [tb] at sb
        exact ih' (by rw [sa, sb, he])
      · rw [ta] at sa
        rw [tb] at sb
        have : a < b := mono a b (by rw [sa, sb, he]; show _ + 0 < _ + 1; omega)
        unfold cmpN
        rw [if_pos this]; rfl
      · rw [ta] at sa
        rw [tb] at sb
        have : b < a := mono b a (by rw [sa, sb, he]; show _ + 0 < _ + 1; omega)
        unfold cmpN
        rw [if_neg (by omega), if_pos this]; rfl
      · rw [eqO_same, not_t, cond_false]
        rw [ta] at sa
        rw [tb] at sb
        exact ih' (by rw [sa, sb, he])
  have top : ∀ x, x < Big → x / 2 ^ 256 = 0 := fun x hx => Nat.div_eq_of_lt hx
  rw [f83_run, f83_eq, bitsL_len, w64 (by omega) (by omega)]
  exact key 256 n (by omega) (by omega) (by rw [top a ha, top b hb])

end Go.Proofs.YtncajhkogppojaaGreat.Ev
