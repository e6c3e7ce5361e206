/- Work: both programs tell it alike. -/
import Derived.Test.YtogehijjhibdkaaGreatEvPNat
import Derived.Test.YtogehijjhibdkaaGreatEvPKit
namespace Go.Proofs.YtogehijjhibdkaaGreat.Ev
open Go Go.RowKit

theorem tk_nat {b : List UInt8} {at_ : Nat} : ∀ i, i ≤ 8 → at_ + i ≤ b.length → (tk b at_ i).toNat = natN ((b.drop at_).take i)
  | 0, _, _ => rfl
  | i + 1, hi, hl => by
    have ih := tk_nat (b := b) (at_ := at_) i (by omega) (by omega)
    have hlt := natN_lt ((b.drop at_).take i)
    rw [List.length_take, List.length_drop, show min i (b.length - at_) = i by omega] at hlt
    have hp : 256 ^ i ≤ 256 ^ 7 := Nat.pow_le_pow_right (by omega) (by omega)
    have hb : (byteAt b (at_ + i)).toNat = (b.getD (at_ + i) 0).toNat := by
      unfold byteAt
      rw [BitVec.toNat_ofNat, Nat.mod_eq_of_lt]
      have := (b.getD (at_ + i) 0).toNat_lt
      omega
    have hb2 := (b.getD (at_ + i) 0).toNat_lt
    have ht : (b.drop at_).take (i + 1) = (b.drop at_).take i ++ [b.getD (at_ + i) 0] := by
      rw [List.take_succ_eq_append_getElem (by rw [List.length_drop]; omega), List.getElem_drop]
      simp [show at_ + i < b.length by omega]
    simp only [tk]
    rw [ht, natN_snoc, ← add_or _ _ (by rw [hb]; exact hb2), BitVec.toNat_add, BitVec.toNat_shiftLeft, Nat.shiftLeft_eq, hb, ih]
    simp only [Nat.reducePow] at hp ⊢
    omega
theorem tk_lb {id : List UInt8} (h : id.length = 32) {i : Nat} (hi : i < 4) : tk id (8 * i) 8 = lb (natN id) (3 - i) := by
  apply BitVec.eq_of_toNat_eq
  rw [tk_nat 8 (Nat.le_refl _) (by omega), lb_toNat]
  have e : id = (id.take (8 * i)) ++ ((id.drop (8 * i)).take 8 ++ id.drop (8 * i + 8)) := by
    rw [← List.drop_drop, List.take_append_drop, List.take_append_drop]
  have hB := natN_lt ((id.drop (8 * i)).take 8)
  have hC := natN_lt (id.drop (8 * i + 8))
  have lB : ((id.drop (8 * i)).take 8).length = 8 := by simp; omega
  have lC : (id.drop (8 * i + 8)).length = 8 * (3 - i) := by simp; omega
  rw [lB] at hB
  rw [lC] at hC
  have e2 : natN id = (natN (id.take (8 * i)) * 18446744073709551616 + natN ((id.drop (8 * i)).take 8)) * 18446744073709551616 ^ (3 - i) + natN (id.drop (8 * i + 8)) := by
    conv => lhs; rw [e]
    rw [natN_append, natN_append, List.length_append, lB, lC, Nat.pow_add, show (256 : Nat) ^ (8 * (3 - i)) = 18446744073709551616 ^ (3 - i) by rw [Nat.pow_mul], ← Nat.mul_assoc, Nat.add_mul, Nat.add_assoc]
  rw [Nat.pow_mul] at hC
  have hC : natN (id.drop (8 * i + 8)) < 18446744073709551616 ^ (3 - i) := hC
  rw [e2, Nat.mul_comm _ (18446744073709551616 ^ (3 - i)), Nat.mul_add_div (Nat.pow_pos (by omega)), Nat.div_eq_of_lt hC, Nat.add_zero, Nat.mul_comm _ 18446744073709551616, Nat.mul_add_mod, Nat.mod_eq_of_lt]
  exact hB

theorem take64_at (n : Nat) (hn : 2000 ≤ n) {b : List UInt8} (hb : b.length ≤ maxLen) {at_ : Nat} (ha : at_ ≤ 1000000) : runE G ext (n + 2) 113 [.str b, .int at_] = some ⟨[.int (U (tk b at_ 8))], [], false⟩ := by
  rw [f113_run, f113_eq, show ((8 : Int)) = ((8 : Nat) : Int) from rfl, take_at n hn hb ha (by omega)]
  rfl

theorem wideOf_runs {id : List UInt8} (h : id.length = 32) : RunsX 76 [.blob id] ⟨[.agg (limbs (natN id))], [], false⟩ := by
  refine Evt.succ ((Evt.ge 3000).mono fun n hn => ?_)
  obtain ⟨m, rfl⟩ : ∃ j, n = j + 5 := ⟨n - 5, by omega⟩
  have t : ∀ i : Nat, i < 4 → runE G ext (m + 5) 113 [.str id, .int ((8 * i : Nat) : Int)] = some ⟨[.int (U (lb (natN id) (3 - i)))], [], false⟩ := by
    intro i hi
    rw [← tk_lb h hi]
    exact take64_at (m + 3) (by omega) (by rw [maxLen_eq]; omega) (by omega)
  have step : ∀ (i : Nat) (k : Nat) (o : List AV) (o2 : List AV), i < 4 → f76_l0 (runE G ext (m + 5)) (m + 5) (k + 1) (i : Int) id o2 o = f76_l0 (runE G ext (m + 5)) (m + 5) k ((i + 1 : Nat) : Int) id o2 (o.set (3 - i) (.int (U (lb (natN id) (3 - i))))) := by
    intro i k o o2 hi
    rw [f76_l0_eq, ltI_t (by omega), cond_true, raw32 h, w64 (x := 8 * (i : Int)) (by omega) (by omega), show 8 * (i : Int) = ((8 * i : Nat) : Int) by omega, t i hi, step1, toInt_i, w64 (x := 3 - (i : Int)) (by omega) (by omega), show 3 - (i : Int) = ((3 - i : Nat) : Int) by omega, inR_nat (by omega), cond_true, Int.toNat_natCast, w64 (x := (i : Int) + 1) (by omega) (by omega), show (i : Int) + 1 = ((i + 1 : Nat) : Int) by omega]
  have s0 := step 0 (m + 4) [.int 0, .int 0, .int 0, .int 0] [.int 0, .int 0, .int 0, .int 0] (by omega)
  have s1 := step 1 (m + 3) [.int 0, .int 0, .int 0, .int (U (lb (natN id) 3))] [.int 0, .int 0, .int 0, .int 0] (by omega)
  have s2 := step 2 (m + 2) [.int 0, .int 0, .int (U (lb (natN id) 2)), .int (U (lb (natN id) 3))] [.int 0, .int 0, .int 0, .int 0] (by omega)
  have s3 := step 3 (m + 1) [.int 0, .int (U (lb (natN id) 1)), .int (U (lb (natN id) 2)), .int (U (lb (natN id) 3))] [.int 0, .int 0, .int 0, .int 0] (by omega)
  rw [f76_run, f76_eq]
  refine s0.trans (s1.trans (s2.trans (s3.trans ?_)))
  rw [f76_l0_eq, ltI_f (by omega)]
  rfl

theorem wideCmp_runs {a b : Nat} (ha : a < Big) (hb : b < Big) : RunsX 77 [.agg (limbs a), .agg (limbs b)] ⟨[.int (cmpN a b)], [], false⟩ := by
  refine Evt.succ ((Evt.ge 10).mono fun n hn => ?_)
  obtain ⟨m, rfl⟩ : ∃ j, n = j + 5 := ⟨n - 5, by omega⟩
  have ea := lb_all ha
  have eb := lb_all hb
  have fa := fun j => (lb a j).isLt
  have fb := fun j => (lb b j).isLt
  have step : ∀ (i k : Nat), i < 4 → f77_l0 (runE G ext (m + 5)) (m + 5) (k + 1) (i : Int) (limbs a) (limbs b) = if (lb a (3 - i)).toNat < (lb b (3 - i)).toNat then some ⟨[.int (-1)], [], false⟩ else if (lb b (3 - i)).toNat < (lb a (3 - i)).toNat then some ⟨[.int 1], [], false⟩ else f77_l0 (runE G ext (m + 5)) (m + 5) k ((i + 1 : Nat) : Int) (limbs a) (limbs b) := by
    intro i k hi
    rw [f77_l0_eq, ltI_t (by omega), cond_true, w64 (x := 3 - (i : Int)) (by omega) (by omega), show 3 - (i : Int) = ((3 - i : Nat) : Int) by omega, inR_nat (by omega), cond_true, cond_true, Int.toNat_natCast, limbs_fld a (by omega), limbs_fld b (by omega), toInt_i, toInt_i, w64 (x := (i : Int) + 1) (by omega) (by omega), show (i : Int) + 1 = ((i + 1 : Nat) : Int) by omega]
    unfold U
    by_cases h1 : (lb a (3 - i)).toNat < (lb b (3 - i)).toNat
    · rw [if_pos h1, ltI_t (by omega)]; rfl
    · rw [if_neg h1, ltI_f (by omega), cond_false]
      by_cases h2 : (lb b (3 - i)).toNat < (lb a (3 - i)).toNat
      · rw [if_pos h2, ltI_t (by omega)]; rfl
      · rw [if_neg h2, ltI_f (by omega)]; rfl
  have s0 := step 0 (m + 4) (by omega)
  have s1 := step 1 (m + 3) (by omega)
  have s2 := step 2 (m + 2) (by omega)
  have s3 := step 3 (m + 1) (by omega)
  have s4 : f77_l0 (runE G ext (m + 5)) (m + 5) (m + 1) ((4 : Nat) : Int) (limbs a) (limbs b) = some ⟨[.int 0], [], false⟩ := by
    rw [f77_l0_eq, ltI_f (by omega)]; rfl
  rw [f77_run, f77_eq]
  refine s0.trans ?_
  rw [s1, s2, s3, s4]
  simp only [Nat.sub_zero, Nat.reduceSub]
  have a0 := fa 0
  have a1 := fa 1
  have a2 := fa 2
  have a3 := fa 3
  have b0 := fb 0
  have b1 := fb 1
  have b2 := fb 2
  have b3 := fb 3
  generalize (lb a 0).toNat = p0 at *
  generalize (lb a 1).toNat = p1 at *
  generalize (lb a 2).toNat = p2 at *
  generalize (lb a 3).toNat = p3 at *
  generalize (lb b 0).toNat = q0 at *
  generalize (lb b 1).toNat = q1 at *
  generalize (lb b 2).toNat = q2 at *
  generalize (lb b 3).toNat = q3 at *
  simp only [Nat.reducePow] at a0 a1 a2 a3 b0 b1 b2 b3
  unfold cmpN
  have lt : a < b → (if a < b then (-1 : Int) else if b < a then 1 else 0) = -1 := fun h => if_pos h
  have gt : b < a → (if a < b then (-1 : Int) else if b < a then 1 else 0) = 1 := fun h => by rw [if_neg (by omega), if_pos h]
  have eq : a = b → (if a < b then (-1 : Int) else if b < a then 1 else 0) = 0 := fun h => by rw [if_neg (by omega), if_neg (by omega)]
  by_cases c1 : p3 < q3
  · rw [if_pos c1, lt (by omega)]
  rw [if_neg c1]
  by_cases c2 : q3 < p3
  · rw [if_pos c2, gt (by omega)]
  rw [if_neg c2]
  by_cases c3 : p2 < q2
  · rw [if_pos c3, lt (by omega)]
  rw [if_neg c3]
  by_cases c4 : q2 < p2
  · rw [if_pos c4, gt (by omega)]
  rw [if_neg c4]
  by_cases c5 : p1 < q1
  · rw [if_pos c5, lt (by omega)]
  rw [if_neg c5]
  by_cases c6 : q1 < p1
  · rw [if_pos c6, gt (by omega)]
  rw [if_neg c6]
  by_cases c7 : p0 < q0
  · rw [if_pos c7, lt (by omega)]
  rw [if_neg c7]
  by_cases c8 : q0 < p0
  · rw [if_pos c8, gt (by omega)]
  rw [if_neg c8, eq (by omega)]

/-- Whether an id has its work. -/
def okV (id target : List UInt8) : Bool := decide (natN id ≤ natN target)
theorem workOk_runs {id target : List UInt8} (h : id.length = 32) (ht : target.length = 32) : RunsX 73 [.blob id, .blob target] ⟨[.bool (okV id target)], [], false⟩ := by
  refine Evt.succ (((wideOf_runs h).and ((wideOf_runs ht).and (wideCmp_runs (natN_big h) (natN_big ht)))).mono fun n hn => ?_)
  obtain ⟨g1, g2, g3⟩ := hn
  rw [f73_run, f73_eq]
  repeat (first | rw [step1] | rw [step1f] | rw [step2] | rw [step3] | rw [toBool_b] | rw [toInt_i] | rw [toStr_s] | rw [toBlob_b] | rw [toSlice_s] | rw [fld0] | rw [fld1] | rw [fld2] | rw [fld3] | rw [cond_true] | rw [cond_false] | rw [not_t] | rw [not_f] | rw [g1] | rw [g2] | rw [toAgg_a] | rw [g3] | rw [cmpN_le])
  rfl

/- the reference's -/
end Go.Proofs.YtogehijjhibdkaaGreat.Ev
