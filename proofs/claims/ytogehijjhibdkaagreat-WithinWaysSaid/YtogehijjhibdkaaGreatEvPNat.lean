/- Sums as numbers: plain arithmetic. -/
import Derived.Test.YtogehijjhibdkaaGreatEvT3
namespace Go.Proofs.YtogehijjhibdkaaGreat.Ev
open Go Go.RowKit

def natN (l : List UInt8) : Nat := l.foldl (fun a b => a * 256 + b.toNat) 0
theorem natN_snoc (l : List UInt8) (b : UInt8) : natN (l ++ [b]) = natN l * 256 + b.toNat := by simp [natN]
theorem snoc_ind {P : List UInt8 → Prop} (h0 : P []) (h1 : ∀ l b, P l → P (l ++ [b])) (l : List UInt8) : P l := by
  have : ∀ r : List UInt8, P r.reverse := by
    intro r
    induction r with
    | nil => exact h0
    | cons b r ih => rw [List.reverse_cons]; exact h1 _ _ ih
  have := this l.reverse
  rwa [List.reverse_reverse] at this
theorem natN_lt (l : List UInt8) : natN l < 256 ^ l.length := by
  refine snoc_ind (P := fun l => natN l < 256 ^ l.length) (by simp [natN]) (fun l b ih => ?_) l
  rw [natN_snoc, List.length_append, List.length_singleton, Nat.pow_succ]
  have := b.toNat_lt
  omega
theorem natN_append (x y : List UInt8) : natN (x ++ y) = natN x * 256 ^ y.length + natN y := by
  refine snoc_ind (P := fun y => natN (x ++ y) = natN x * 256 ^ y.length + natN y) (by simp [natN]) (fun l b ih => ?_) y
  rw [← List.append_assoc, natN_snoc, ih, natN_snoc, List.length_append, List.length_singleton, Nat.pow_succ, ← Nat.mul_assoc, Nat.add_mul]
  omega
theorem natN_get (l : List UInt8) : ∀ m, m < l.length → natN l / 256 ^ m % 256 = (l.getD (l.length - 1 - m) 0).toNat := by
  refine snoc_ind (P := fun l => ∀ m, m < l.length → natN l / 256 ^ m % 256 = (l.getD (l.length - 1 - m) 0).toNat) (fun m h => by simp at h) (fun l b ih m hm => ?_) l
  have hb := b.toNat_lt
  rw [natN_snoc, List.length_append, List.length_singleton]
  rw [List.length_append, List.length_singleton] at hm
  cases m with
  | zero =>
    rw [Nat.pow_zero, Nat.div_one, show l.length + 1 - 1 - 0 = l.length by omega]
    simp
  | succ m =>
    rw [Nat.pow_succ, Nat.mul_comm (256 ^ m), ← Nat.div_div_eq_div_mul, show (natN l * 256 + b.toNat) / 256 = natN l by omega, ih m (by omega), show l.length + 1 - 1 - (m + 1) = l.length - 1 - m by omega]
    simp [List.getD, List.getElem?_append_left (show l.length - 1 - m < l.length by omega)]

/- limbs -/
def lb (N j : Nat) : BitVec 64 := BitVec.ofNat 64 (N / 18446744073709551616 ^ j)
theorem lb_toNat (N j : Nat) : (lb N j).toNat = N / 18446744073709551616 ^ j % 18446744073709551616 := by unfold lb; rw [BitVec.toNat_ofNat]
def limbs (N : Nat) : List AV := [.int (U (lb N 0)), .int (U (lb N 1)), .int (U (lb N 2)), .int (U (lb N 3))]
theorem limbs_len (N : Nat) : (limbs N).length = 4 := rfl
theorem limbs_fld (N : Nat) {j : Nat} (h : j < 4) : AV.fld (.agg (limbs N)) j = .int (U (lb N j)) := by
  match j, h with
  | 0, _ => rfl
  | 1, _ => rfl
  | 2, _ => rfl
  | 3, _ => rfl
def cmpN (a b : Nat) : Int := if a < b then -1 else if b < a then 1 else 0
theorem cmpN_le (a b : Nat) : leI (cmpN a b) 0 = decide (a ≤ b) := by
  unfold cmpN
  split
  · rw [leI_t (by omega), decide_eq_true (by omega)]
  · split
    · rw [leI_f (by omega), decide_eq_false (by omega)]
    · rw [leI_t (by omega), decide_eq_true (by omega)]
theorem cmpN_gt (a b : Nat) : ltI 0 (cmpN a b) = decide (b < a) := by
  unfold cmpN
  split
  · rw [ltI_f (by omega), decide_eq_false (by omega)]
  · split
    · rw [ltI_t (by omega), decide_eq_true (by omega)]
    · rw [ltI_f (by omega), decide_eq_false (by omega)]
def Big : Nat := 115792089237316195423570985008687907853269984665640564039457584007913129639936
theorem lb_all {a : Nat} (h : a < Big) : a = (lb a 0).toNat + 18446744073709551616 * (lb a 1).toNat + 340282366920938463463374607431768211456 * (lb a 2).toNat + 6277101735386680763835789423207666416102355444464034512896 * (lb a 3).toNat := by
  rw [lb_toNat, lb_toNat, lb_toNat, lb_toNat]
  simp only [Nat.reducePow]
  unfold Big at h
  omega
theorem natN_big {l : List UInt8} (h : l.length = 32) : natN l < Big := by
  have := natN_lt l
  rw [h] at this
  unfold Big
  exact this
theorem big_pow : Big = 18446744073709551616 ^ 4 := by decide

theorem shr_key (A b : Nat) (h : b ≤ 63) : A / 2 ^ b % 18446744073709551616 = (A % 18446744073709551616) / 2 ^ b + 2 ^ (64 - b) * ((A / 18446744073709551616 % 18446744073709551616) % 2 ^ b) := by
  have hMK : 2 ^ b * 2 ^ (64 - b) = 18446744073709551616 := by rw [← Nat.pow_add, show b + (64 - b) = 64 by omega]
  have hM : 0 < 2 ^ b := Nat.two_pow_pos b
  have hK : 0 < 2 ^ (64 - b) := Nat.two_pow_pos _
  generalize 2 ^ b = M at *
  generalize 2 ^ (64 - b) = K at *
  rw [← hMK]
  have e1 : A / M = K * (A / (M * K)) + A % (M * K) / M := by
    conv => lhs; rw [← Nat.div_add_mod A (M * K), Nat.mul_assoc, Nat.mul_add_div hM]
  have e2 : A % (M * K) / M < K := Nat.div_lt_of_lt_mul (Nat.mod_lt _ (Nat.mul_pos hM hK))
  have e3 : A / (M * K) % (M * K) % M = A / (M * K) % M := Nat.mod_mul_right_mod _ _ _
  rw [e3, e1]
  generalize A / (M * K) = q
  generalize A % (M * K) / M = t at *
  have e4 : K * q + t = M * K * (q / M) + (K * (q % M) + t) := by
    have := Nat.div_add_mod q M
    calc K * q + t = K * (M * (q / M) + q % M) + t := by rw [this]
      _ = M * K * (q / M) + (K * (q % M) + t) := by rw [Nat.mul_add, ← Nat.mul_assoc, Nat.mul_comm K M, Nat.add_assoc]
  have e5 : K * (q % M) + t < M * K := by
    have h1 : q % M < M := Nat.mod_lt _ hM
    have h2 : K * (q % M) + K ≤ K * M := by
      have : K * (q % M + 1) ≤ K * M := Nat.mul_le_mul_left K h1
      rwa [Nat.mul_add, Nat.mul_one] at this
    rw [Nat.mul_comm M K]
    omega
  rw [e4, Nat.mul_add_mod, Nat.mod_eq_of_lt e5]
  omega

/-- One limb of a number without its lowest bits. -/
theorem lb_shr (a n i : Nat) (hb : 1 ≤ n % 64) : lb (a / 2 ^ n) i = (lb a (i + n / 64) >>> (n % 64)) ||| (lb a (i + n / 64 + 1) <<< (64 - n % 64)) := by
  have hn : 2 ^ n = 18446744073709551616 ^ (n / 64) * 2 ^ (n % 64) := by
    have := Nat.div_add_mod n 64
    conv => lhs; rw [← this, Nat.pow_add, Nat.pow_mul]
  apply BitVec.eq_of_toNat_eq
  rw [BitVec.toNat_or, BitVec.toNat_ushiftRight, BitVec.toNat_shiftLeft, lb_toNat, lb_toNat, lb_toNat, Nat.shiftRight_eq_div_pow, Nat.shiftLeft_eq, hn]
  have h63 : n % 64 ≤ 63 := by omega
  have e1 : a / (18446744073709551616 ^ (n / 64) * 2 ^ (n % 64)) / 18446744073709551616 ^ i = a / 18446744073709551616 ^ (i + n / 64) / 2 ^ (n % 64) := by
    rw [Nat.div_div_eq_div_mul, Nat.div_div_eq_div_mul]
    congr 1
    rw [Nat.mul_comm, ← Nat.mul_assoc, ← Nat.pow_add]
  have e2 : a / 18446744073709551616 ^ (i + n / 64 + 1) = a / 18446744073709551616 ^ (i + n / 64) / 18446744073709551616 := by
    rw [Nat.pow_succ, Nat.div_div_eq_div_mul]
  rw [e1, e2]
  generalize a / 18446744073709551616 ^ (i + n / 64) = A
  generalize hbb : n % 64 = b at *
  rw [shr_key A b h63]
  have hMK : 2 ^ b * 2 ^ (64 - b) = 18446744073709551616 := by rw [← Nat.pow_add, show b + (64 - b) = 64 by omega]
  have e3 : (A / 18446744073709551616 % 18446744073709551616) * 2 ^ (64 - b) % 2 ^ 64 = 2 ^ (64 - b) * ((A / 18446744073709551616 % 18446744073709551616) % 2 ^ b) := by
    rw [show (2 : Nat) ^ 64 = 2 ^ (64 - b) * 2 ^ b by rw [Nat.mul_comm, hMK], Nat.mul_comm, Nat.mul_mod_mul_left]
  rw [e3]
  have e4 : A % 18446744073709551616 / 2 ^ b < 2 ^ (64 - b) := Nat.div_lt_of_lt_mul (by rw [hMK]; exact Nat.mod_lt _ (by omega))
  rw [Nat.add_comm, Nat.two_pow_add_eq_or_of_lt e4, Nat.or_comm]
theorem lb_shr0 (a n i : Nat) (hb : n % 64 = 0) : lb (a / 2 ^ n) i = lb a (i + n / 64) := by
  have hn : 2 ^ n = 18446744073709551616 ^ (n / 64) := by
    have := Nat.div_add_mod n 64
    rw [hb, Nat.add_zero] at this
    conv => lhs; rw [← this, Nat.pow_mul]
  unfold lb
  rw [hn, Nat.div_div_eq_div_mul, ← Nat.pow_add, Nat.add_comm]
theorem lb_top {a j : Nat} (h : a < Big) (hj : 4 ≤ j) : lb a j = 0 := by
  unfold lb
  rw [Nat.div_eq_of_lt]
  · rfl
  · rw [big_pow] at h
    exact Nat.lt_of_lt_of_le h (Nat.pow_le_pow_right (by omega) hj)

/- bits -/
def bitsL (N : Nat) : List AV := (List.range 256).map fun i => .bool (N.testBit i)
theorem bitsL_len (N : Nat) : (bitsL N).length = 256 := by simp [bitsL]
theorem bitsL_nth (N : Nat) {i : Nat} (h : i < 256) : nth (bitsL N) i = .bool (N.testBit i) := by
  rw [nth_lt (by rw [bitsL_len]; exact h)]
  simp [bitsL]
theorem bit_step (N i : Nat) : N / 2 ^ i = 2 * (N / 2 ^ (i + 1)) + (N.testBit i).toNat := by
  rw [Nat.pow_succ, ← Nat.div_div_eq_div_mul, Nat.testBit_eq_decide_div_mod_eq]
  by_cases h : N / 2 ^ i % 2 = 1
  · rw [decide_eq_true h]; show _ = _ + 1; omega
  · rw [decide_eq_false h]; show _ = _ + 0; omega
theorem testBit_shift (N n i : Nat) : (N / 2 ^ n).testBit i = N.testBit (i + n) := by
  rw [← Nat.shiftRight_eq_div_pow, Nat.testBit_shiftRight, Nat.add_comm]
theorem testBit_big {N i : Nat} (h : N < Big) (hi : 256 ≤ i) : N.testBit i = false := by
  refine Nat.testBit_lt_two_pow (Nat.lt_of_lt_of_le h ?_)
  calc Big = 2 ^ 256 := by decide
    _ ≤ 2 ^ i := Nat.pow_le_pow_right (by omega) hi

end Go.Proofs.YtogehijjhibdkaaGreat.Ev
