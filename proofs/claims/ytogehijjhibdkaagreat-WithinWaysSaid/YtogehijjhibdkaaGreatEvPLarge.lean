/- Numbers of five limbs, and sides of a comparison. -/
import Derived.Test.YtogehijjhibdkaaGreatEvPKit
import Derived.Test.YtogehijjhibdkaaGreatEvPNat
namespace Go.Proofs.YtogehijjhibdkaaGreat.Ev
open Go Go.RowKit

theorem of64 (x : Nat) : BitVec.ofInt 64 (x : Int) = BitVec.ofNat 64 x := BitVec.ofInt_natCast 64 x
theorem mask32 {x : Nat} (h : x < 18446744073709551616) : IntKind.wrap .u64 (BitVec.toNat (BitVec.ofInt 64 (x : Int) &&& BitVec.ofInt 64 4294967295)) = ((x % 4294967296 : Nat) : Int) := by
  rw [show (4294967295 : Int) = ((4294967295 : Nat) : Int) from rfl, of64, of64, BitVec.toNat_and, BitVec.toNat_ofNat, BitVec.toNat_ofNat, wrap64]
  have e : x % 2 ^ 64 &&& 4294967295 % 2 ^ 64 = x % 4294967296 := by
    rw [Nat.mod_eq_of_lt (show x < 2 ^ 64 by omega), show 4294967295 % 2 ^ 64 = 2 ^ 32 - 1 by decide, Nat.and_two_pow_sub_one_eq_mod]
  rw [e]; omega
theorem join32 {h l : Nat} (hh : h < 4294967296) (hl : l < 4294967296) : IntKind.wrap .u64 (BitVec.toNat (BitVec.ofInt 64 (IntKind.wrap .u64 ((h : Int) * 2 ^ 32)) ||| BitVec.ofInt 64 (l : Int))) = ((h * 4294967296 + l : Nat) : Int) := by
  have e0 : IntKind.wrap .u64 ((h : Int) * 2 ^ 32) = ((h * 4294967296 : Nat) : Int) := by rw [wrap64, show (2 : Int) ^ 32 = 4294967296 by decide]; omega
  rw [e0, of64, of64, BitVec.toNat_or, BitVec.toNat_ofNat, BitVec.toNat_ofNat, wrap64, Nat.mod_eq_of_lt (show h * 4294967296 < 2 ^ 64 by omega), Nat.mod_eq_of_lt (show l < 2 ^ 64 by omega)]
  have := Nat.two_pow_add_eq_or_of_lt (i := 32) (b := l) (by omega) h
  rw [show (2 : Nat) ^ 32 * h = h * 4294967296 by rw [Nat.mul_comm]] at this
  rw [← this]; omega
theorem fdiv32 (x : Nat) : Int.fdiv (x : Int) (2 ^ 32) = ((x / 4294967296 : Nat) : Int) := by
  rw [show (2 : Int) ^ 32 = ((4294967296 : Nat) : Int) by decide, ← Int.ofNat_fdiv]
theorem wN {x : Nat} (h : x < 18446744073709551616) : IntKind.wrap .u64 (x : Int) = (x : Int) := by rw [wrap64]; omega

/-- A number of one limb. -/
def five (p : Nat) : List AV := [.int (p : Int), .int 0, .int 0, .int 0, .int 0]
theorem zero5 : (List.replicate 5 (AV.int 0)) = [.int 0, .int 0, .int 0, .int 0, .int 0] := rfl

/-- The step of half, and of Add, at limbs that are 0. -/
theorem half_runs {p y : Nat} (hp : p < 4294967296) (hy : y < 4294967296) : RunsX 232 [.agg (five p), .int (y : Int)] ⟨[.agg (five (p * y)), .bool true], [], false⟩ := by
  have hpy : p * y < 18446744073709551616 := by
    have : p * y ≤ 4294967295 * 4294967295 := Nat.mul_le_mul (by omega) (by omega)
    omega
  have key : ∀ (run : Run) (n k i : Nat) (o2 o4 o6 : List AV), i < 5 → AV.fld (.agg o2) i = .int 0 → f232_l0 run n (k + 1) (y : Int) 0 (i : Int) o2 o4 o6 = f232_l0 run n k (y : Int) 0 ((i + 1 : Nat) : Int) o2 o4 (o6.set i (.int 0)) := by
    intro run n k i o2 o4 o6 hi h0
    have m0 : IntKind.wrap .u64 (BitVec.toNat (BitVec.ofInt 64 (0 : Int) &&& BitVec.ofInt 64 4294967295)) = 0 := by decide
    have j0 : IntKind.wrap .u64 (BitVec.toNat (BitVec.ofInt 64 (IntKind.wrap .u64 (0 * 2 ^ 32)) ||| BitVec.ofInt 64 0)) = 0 := by decide
    have w0 : IntKind.wrap .u64 0 = 0 := by decide
    have d0 : Int.fdiv 0 (2 ^ 32) = 0 := by decide
    rw [f232_l0_eq, ltI_t (by omega), cond_true, inR_nat hi, cond_true, cond_true, cond_true, Int.toNat_natCast, h0, toInt_i, m0, d0, Int.zero_mul, Int.add_zero, w0, w0, d0, Int.zero_add, w0, m0, j0, d0, w64 (by omega) (by omega), show (i : Int) + 1 = ((i + 1 : Nat) : Int) by omega]
  refine Evt.succ ((Evt.ge 10).mono fun m hm => ?_)
  obtain ⟨k, rfl⟩ : ∃ k, m = k + 6 := ⟨m - 6, by omega⟩
  rw [f232_run, f232_eq, f232_l0_eq, ltI_t (by omega), cond_true, inR_int (by omega) (by omega), cond_true, cond_true, cond_true]
  have e0 : AV.fld (.agg (five p)) (Int.toNat 0) = .int (p : Int) := rfl
  rw [e0, toInt_i, mask32 (by omega), Nat.mod_eq_of_lt hp, fdiv32, Nat.div_eq_of_lt hp, show ((0 : Nat) : Int) = 0 from rfl, Int.zero_mul, Int.add_zero, show IntKind.wrap .u64 0 = 0 by decide, show ((p : Int) * (y : Int)) = ((p * y : Nat) : Int) by push_cast; rfl, wN hpy, wN hpy, fdiv32, Int.zero_add, wN (show p * y / 4294967296 < 18446744073709551616 by omega), mask32 hpy, join32 (by omega) (by omega), fdiv32, show p * y / 4294967296 / 4294967296 = 0 by omega, show p * y / 4294967296 * 4294967296 + p * y % 4294967296 = p * y by omega, show ((0 : Nat) : Int) = 0 from rfl, w64 (by omega) (by omega), show (0 : Int) + 1 = ((1 : Nat) : Int) from rfl]
  rw [key _ _ (k + 4) 1 _ _ _ (by omega) rfl, key _ _ (k + 3) 2 _ _ _ (by omega) rfl, key _ _ (k + 2) 3 _ _ _ (by omega) rfl, key _ _ (k + 1) 4 _ _ _ (by omega) rfl, f232_l0_eq, ltI_f (by omega), cond_false, eqI_t rfl]
  rfl

theorem len_zero : RunsX 234 [.agg (five 0)] ⟨[.int 0], [], false⟩ := RunsX.of_eval 20 (by kernel_rfl)
theorem shl_zero {n : Nat} : RunsX 226 [.agg (five 0), .int (n : Int)] ⟨[.agg (five 0), .bool true], [], false⟩ := by
  refine Evt.succ (len_zero.mono fun m h => ?_)
  rw [f226_run, f226_eq, ltI_f (by omega), cond_false, h, step1, toInt_i, ltI_f (by omega), cond_false, step1, toInt_i, eqI_t rfl, cond_true]
  rfl
theorem add_zero {p : Nat} (hp : p < 18446744073709551616) : RunsX 233 [.agg (five p), .agg (five 0)] ⟨[.agg (five p), .bool true], [], false⟩ := by
  have m0 : IntKind.wrap .u64 (BitVec.toNat (BitVec.ofInt 64 (0 : Int) &&& BitVec.ofInt 64 4294967295)) = 0 := by decide
  have j0 : IntKind.wrap .u64 (BitVec.toNat (BitVec.ofInt 64 (IntKind.wrap .u64 (0 * 2 ^ 32)) ||| BitVec.ofInt 64 0)) = 0 := by decide
  have w0 : IntKind.wrap .u64 0 = 0 := by decide
  have d0 : Int.fdiv 0 (2 ^ 32) = 0 := by decide
  have key : ∀ (run : Run) (n k i : Nat) (o2 o3 o4 o6 : List AV), i < 5 → AV.fld (.agg o2) i = .int 0 → AV.fld (.agg o3) i = .int 0 → f233_l0 run n (k + 1) 0 (i : Int) o2 o3 o4 o6 = f233_l0 run n k 0 ((i + 1 : Nat) : Int) o2 o3 o4 (o6.set i (.int 0)) := by
    intro run n k i o2 o3 o4 o6 hi h0 h1
    rw [f233_l0_eq, ltI_t (by omega), cond_true, inR_nat hi, cond_true, cond_true, cond_true, cond_true, cond_true, Int.toNat_natCast, h0, h1, toInt_i, w64 (x := (i : Int) + 1) (by omega) (by omega), show (i : Int) + 1 = ((i + 1 : Nat) : Int) by omega]
    repeat (first | rw [m0] | rw [d0] | rw [Int.add_zero] | rw [w0] | rw [j0])
  refine Evt.succ ((Evt.ge 10).mono fun m hm => ?_)
  obtain ⟨k, rfl⟩ : ∃ k, m = k + 6 := ⟨m - 6, by omega⟩
  rw [f233_run, f233_eq, f233_l0_eq, ltI_t (by omega), cond_true, inR_int (by omega) (by omega), cond_true, cond_true, cond_true, cond_true, cond_true]
  have e0 : AV.fld (.agg (five p)) (Int.toNat 0) = .int (p : Int) := rfl
  have e1 : AV.fld (.agg (five 0)) (Int.toNat 0) = .int 0 := rfl
  rw [e0, e1, toInt_i, toInt_i, mask32 hp, m0, fdiv32 p, d0, Int.add_zero, Int.add_zero]
  rw [Int.add_zero]
  repeat rw [wN (show p % 4294967296 < 18446744073709551616 by omega)]
  rw [fdiv32, show p % 4294967296 / 4294967296 = 0 by omega, show ((0 : Nat) : Int) = 0 from rfl]
  rw [wN (show p / 4294967296 < 18446744073709551616 by omega), Int.add_zero, wN (show p / 4294967296 < 18446744073709551616 by omega), mask32 (show p % 4294967296 < 18446744073709551616 by omega), Nat.mod_mod, join32 (by omega) (by omega), fdiv32, show p / 4294967296 / 4294967296 = 0 by omega, show p / 4294967296 * 4294967296 + p % 4294967296 = p by omega, show ((0 : Nat) : Int) = 0 from rfl, w64 (by omega) (by omega), show (0 : Int) + 1 = ((1 : Nat) : Int) from rfl]
  rw [key _ _ (k + 4) 1 _ _ _ _ (by omega) rfl rfl, key _ _ (k + 3) 2 _ _ _ _ (by omega) rfl rfl, key _ _ (k + 2) 3 _ _ _ _ (by omega) rfl rfl, key _ _ (k + 1) 4 _ _ _ _ (by omega) rfl rfl, f233_l0_eq, ltI_f (by omega), cond_false, eqI_t rfl, not_t, cond_false]
  rfl

theorem mul_runs {p y : Nat} (hp : p < 4294967296) (hy : y < 4294967296) : ∃ b, RunsX 224 [.agg (five p), .int (y : Int)] ⟨[.agg (five (p * y)), .bool b], [], false⟩ := by
  have hpy : p * y < 18446744073709551616 := by
    have : p * y ≤ 4294967295 * 4294967295 := Nat.mul_le_mul (by omega) (by omega)
    omega
  have h2 := half_runs hp (show 0 < 4294967296 by omega)
  rw [Nat.mul_zero] at h2
  refine ⟨true, Evt.succ (((half_runs hp hy).and (h2.and ((shl_zero (n := 32)).and (add_zero hpy)))).mono fun m h => ?_)⟩
  obtain ⟨h1, h2, h3, h4⟩ := h
  rw [f224_run, f224_eq, mask32 (by omega), Nat.mod_eq_of_lt hy, h1, step2, toBool_b, not_t, cond_false, fdiv32, Nat.div_eq_of_lt hy, h2, step2, toBool_b, not_t, cond_false, toAgg_a, show (32 : Int) = ((32 : Nat) : Int) from rfl, h3, step2, toBool_b, not_t, cond_false, toAgg_a, toAgg_a, h4]
  rfl

/- how long a number is -/
theorem lead_runs {x : Nat} (h1 : 0 < x) (h2 : x < 18446744073709551616) : ∃ r : Nat, r ≤ 63 ∧ RunsX 235 [.int (x : Int)] ⟨[.int (r : Int)], [], false⟩ := by
  have key : ∀ (run : Run) (n : Nat) (j i : Nat), i + j = 63 → ∃ r : Nat, r ≤ 63 ∧ ∀ k, j < k → f235_l0 run n k (x : Int) (i : Int) (i : Int) = some ⟨[.int (r : Int)], [], false⟩ := by
    intro run n j
    induction j with
    | zero =>
      intro i hi
      refine ⟨i, by omega, fun k hk => ?_⟩
      obtain ⟨k, rfl⟩ : ∃ j, k = j + 1 := ⟨k - 1, by omega⟩
      have e : IntKind.wrap .u64 (IntKind.wrap .i64 (63 - (i : Int))) = 0 := by rw [w64 (by omega) (by omega), wrap64]; omega
      rw [f235_l0_eq, ltI_t (by omega), cond_true, e, leI_t (by omega), cond_true, show Int.fdiv (x : Int) (2 ^ (min (Int.toNat 0) 64)) = (x : Int) by show Int.fdiv (x : Int) 1 = _; exact Int.fdiv_one _, eqI_f (by omega), not_f, cond_true]
      rfl
    | succ j ih =>
      intro i hi
      obtain ⟨r, hr, ih'⟩ := ih (i + 1) (by omega)
      by_cases hb : Int.fdiv (x : Int) (2 ^ (min (Int.toNat (IntKind.wrap .u64 (IntKind.wrap .i64 (63 - (i : Int))))) 64)) = 0
      · refine ⟨r, hr, fun k hk => ?_⟩
        obtain ⟨k, rfl⟩ : ∃ j, k = j + 1 := ⟨k - 1, by omega⟩
        have := ih' k (by omega)
        rw [show ((i + 1 : Nat) : Int) = (i : Int) + 1 by omega] at this
        rw [f235_l0_eq, ltI_t (by omega), cond_true, eqI_t hb, not_t, cond_false, w64 (x := (i : Int) + 1) (by omega) (by omega), this, leI_t (by rw [wrap64]; omega)]
        rfl
      · refine ⟨i, by omega, fun k hk => ?_⟩
        obtain ⟨k, rfl⟩ : ∃ j, k = j + 1 := ⟨k - 1, by omega⟩
        rw [f235_l0_eq, ltI_t (by omega), cond_true, eqI_f hb, not_f, cond_true, leI_t (by rw [wrap64]; omega)]
        rfl
  obtain ⟨r, hr, _⟩ := key (fun _ _ => none) 0 63 0 (by omega)
  clear hr
  have pick : ∀ (run : Run) (n : Nat) , ∃ r : Nat, r ≤ 63 ∧ ∀ k, 63 < k → f235_l0 run n k (x : Int) 0 0 = some ⟨[.int (r : Int)], [], false⟩ := fun run n => key run n 63 0 (by omega)
  obtain ⟨q, hq, e⟩ := pick (runE G ext 100) 100
  refine ⟨q, hq, RunsX.of_eval 101 ?_⟩
  rw [f235_run, f235_eq]
  exact e 100 (by omega)

theorem len_runs {p : Nat} (h1 : 0 < p) (h2 : p < 18446744073709551616) : ∃ r : Nat, 1 ≤ r ∧ r ≤ 64 ∧ RunsX 234 [.agg (five p)] ⟨[.int (r : Int)], [], false⟩ := by
  obtain ⟨r, hr, h⟩ := lead_runs h1 h2
  refine ⟨64 - r, by omega, by omega, Evt.succ ((h.and (Evt.ge 10)).mono fun m hm => ?_)⟩
  obtain ⟨hm, hn⟩ := hm
  have key : ∀ (k i : Nat), i < 4 → f234_l0 (runE G ext m) m (k + 1) (i : Int) (five p) = f234_l0 (runE G ext m) m k ((i + 1 : Nat) : Int) (five p) := by
    intro k i hi
    have e : AV.fld (.agg (five p)) (4 - i) = .int 0 := by
      obtain rfl | rfl | rfl | rfl : i = 0 ∨ i = 1 ∨ i = 2 ∨ i = 3 := by omega
      all_goals rfl
    rw [f234_l0_eq, ltI_t (by omega), cond_true, w64 (x := 4 - (i : Int)) (by omega) (by omega), show 4 - (i : Int) = ((4 - i : Nat) : Int) by omega, inR_nat (by omega), cond_true, Int.toNat_natCast, e, toInt_i, eqI_t rfl, not_t, cond_false, w64 (by omega) (by omega), show (i : Int) + 1 = ((i + 1 : Nat) : Int) by omega]
  obtain ⟨k, rfl⟩ : ∃ k, m = k + 6 := ⟨m - 6, by omega⟩
  rw [f234_run, f234_eq, show (0 : Int) = ((0 : Nat) : Int) from rfl, key (k + 5) 0 (by omega), key (k + 4) 1 (by omega), key (k + 3) 2 (by omega), key (k + 2) 3 (by omega), f234_l0_eq, ltI_t (by omega), cond_true, w64 (x := 4 - ((3 + 1 : Nat) : Int)) (by omega) (by omega), show 4 - ((3 + 1 : Nat) : Int) = ((0 : Nat) : Int) by omega, inR_nat (by omega), cond_true, Int.toNat_natCast, show AV.fld (.agg (five p)) 0 = .int (p : Int) from rfl, toInt_i, eqI_f (by omega), not_f, cond_true, hm, step1, toInt_i, w64 (x := 64 * ((3 + 1 : Nat) : Int)) (by omega) (by omega), w64 (x := 320 - 64 * ((3 + 1 : Nat) : Int)) (by omega) (by omega), w64 (by omega) (by omega), show 320 - 64 * ((3 + 1 : Nat) : Int) - (r : Int) = ((64 - r : Nat) : Int) by omega]
  rfl

/-- The limbs of a number. -/
def limbs5 (N : Nat) : List AV := [.int (U (lb N 0)), .int (U (lb N 1)), .int (U (lb N 2)), .int (U (lb N 3)), .int (U (lb N 4))]
theorem limbs5_len (N : Nat) : (limbs5 N).length = 5 := rfl
theorem limbs5_fld (N : Nat) {j : Nat} (h : j < 5) : AV.fld (.agg (limbs5 N)) j = .int (U (lb N j)) := by
  match j, h with
  | 0, _ => rfl
  | 1, _ => rfl
  | 2, _ => rfl
  | 3, _ => rfl
  | 4, _ => rfl
theorem lb_small {p j : Nat} (hp : p < 18446744073709551616) (hj : 1 ≤ j) : lb p j = 0 := by
  unfold lb
  rw [Nat.div_eq_of_lt]
  · rfl
  · exact Nat.lt_of_lt_of_le hp (by
      calc 18446744073709551616 = 18446744073709551616 ^ 1 := by rw [Nat.pow_one]
        _ ≤ _ := Nat.pow_le_pow_right (by omega) hj)
theorem lb_zero' {p : Nat} (hp : p < 18446744073709551616) : U (lb p 0) = (p : Int) := by
  unfold U
  rw [lb_toNat, Nat.pow_zero, Nat.div_one, Nat.mod_eq_of_lt hp]
theorem five_limbs {p : Nat} (hp : p < 18446744073709551616) : five p = limbs5 p := by
  unfold five limbs5
  rw [lb_zero' hp, lb_small hp (by omega), lb_small hp (by omega), lb_small hp (by omega), lb_small hp (by omega)]
  rfl

/-- One limb of a number with some bits behind. -/
theorem lb_shl (a n i : Nat) (hi : n / 64 ≤ i) (hb : 1 ≤ n % 64) : lb (a * 2 ^ n) i = (lb a (i - n / 64) <<< (n % 64)) ||| (if n / 64 < i then lb a (i - n / 64 - 1) >>> (64 - n % 64) else 0) := by
  have hn : a * 2 ^ n / 18446744073709551616 ^ i = a * 2 ^ (n % 64) / 18446744073709551616 ^ (i - n / 64) := by
    have e : 2 ^ n = 2 ^ (n % 64) * 18446744073709551616 ^ (n / 64) := by
      have := Nat.div_add_mod n 64
      conv => lhs; rw [← this, Nat.pow_add, Nat.pow_mul]
      rw [Nat.mul_comm]
    have e2 : 18446744073709551616 ^ i = 18446744073709551616 ^ (i - n / 64) * 18446744073709551616 ^ (n / 64) := by rw [← Nat.pow_add]; congr 1; omega
    rw [e, e2, ← Nat.mul_assoc, Nat.mul_div_mul_right _ _ (Nat.pow_pos (by omega))]
  by_cases h0 : n / 64 < i
  · rw [if_pos h0]
    obtain ⟨j, hj⟩ : ∃ j, i - n / 64 = j + 1 := ⟨i - n / 64 - 1, by omega⟩
    have hs := lb_shr a (64 * j + (64 - n % 64)) 0 (by omega)
    rw [show (64 * j + (64 - n % 64)) / 64 = j by omega, show (64 * j + (64 - n % 64)) % 64 = 64 - n % 64 by omega, Nat.zero_add, show 64 - (64 - n % 64) = n % 64 by omega] at hs
    have e : lb (a * 2 ^ n) i = lb (a / 2 ^ (64 * j + (64 - n % 64))) 0 := by
      unfold lb
      rw [hn, hj, Nat.pow_zero, Nat.div_one]
      congr 1
      have e3 : 18446744073709551616 ^ (j + 1) = 2 ^ (64 * j + (64 - n % 64)) * 2 ^ (n % 64) := by
        rw [← Nat.pow_add, show (18446744073709551616 : Nat) = 2 ^ 64 by decide, ← Nat.pow_mul]
        congr 1; omega
      rw [e3, Nat.mul_div_mul_right _ _ (Nat.two_pow_pos _)]
    rw [e, hs, hj, Nat.add_sub_cancel, BitVec.or_comm]
  · rw [if_neg h0, show i - n / 64 = 0 by omega]
    apply BitVec.eq_of_toNat_eq
    rw [BitVec.toNat_or, BitVec.toNat_shiftLeft, lb_toNat, lb_toNat, hn, show i - n / 64 = 0 by omega, Nat.pow_zero, Nat.div_one, Nat.div_one, Nat.shiftLeft_eq]
    show _ = _ ||| 0
    rw [Nat.or_zero, show (2 : Nat) ^ 64 = 18446744073709551616 by decide, Nat.mod_mul_mod]
theorem lb_shl0 (a n i : Nat) (hi : n / 64 ≤ i) (hb : n % 64 = 0) : lb (a * 2 ^ n) i = lb a (i - n / 64) := by
  unfold lb
  congr 1
  have e : 2 ^ n = 18446744073709551616 ^ (n / 64) := by
    have := Nat.div_add_mod n 64
    rw [hb, Nat.add_zero] at this
    conv => lhs; rw [← this, Nat.pow_mul]
  have e2 : 18446744073709551616 ^ i = 18446744073709551616 ^ (i - n / 64) * 18446744073709551616 ^ (n / 64) := by rw [← Nat.pow_add]; congr 1; omega
  rw [e, e2, Nat.mul_div_mul_right _ _ (Nat.pow_pos (by omega))]
theorem lb_low (a n i : Nat) (hi : i < n / 64) : lb (a * 2 ^ n) i = 0 := by
  apply BitVec.eq_of_toNat_eq
  rw [lb_toNat]
  show _ = 0
  have e : 2 ^ n = 2 ^ (n - 64 * (i + 1)) * 18446744073709551616 * 18446744073709551616 ^ i := by
    rw [show (18446744073709551616 : Nat) = 2 ^ 64 by decide, ← Nat.pow_mul, ← Nat.pow_add, ← Nat.pow_add]
    congr 1
    omega
  rw [e, ← Nat.mul_assoc, Nat.mul_div_cancel _ (Nat.pow_pos (by omega)), ← Nat.mul_assoc, Nat.mul_mod_left]

def shlSt (q i : Nat) : List AV := (List.range 5).map fun j => if j < i then .int (U (lb q j)) else .int 0
theorem shlSt_len (q i : Nat) : (shlSt q i).length = 5 := by simp [shlSt]
theorem set_range5 (i : Nat) (f : Nat → AV) (v : AV) : ((List.range 5).map f).set i v = (List.range 5).map (fun j => if j = i then v else f j) := by
  apply List.ext_getElem
  · simp
  · intro j h1 h2
    simp [List.getElem_set]
    by_cases h : i = j
    · simp [h]
    · rw [if_neg h, if_neg (Ne.symm h)]
theorem shlSt_set (q i : Nat) : (shlSt q i).set i (.int (U (lb q i))) = shlSt q (i + 1) := by
  unfold shlSt
  rw [set_range5]
  congr 1
  funext j
  by_cases h : j = i
  · subst h; rw [if_pos rfl, if_pos (by omega)]
  · rw [if_neg h]
    by_cases h2 : j < i
    · rw [if_pos h2, if_pos (by omega)]
    · rw [if_neg h2, if_neg (by omega)]
theorem shlSt_all (q : Nat) : shlSt q 5 = limbs5 q := rfl
theorem shlSt_low {q s : Nat} (h : ∀ j, j < s → lb q j = 0) : shlSt q s = List.replicate 5 (.int 0) := by
  have e : ∀ j, (if j < s then AV.int (U (lb q j)) else .int 0) = .int 0 := by
    intro j
    by_cases h1 : j < s
    · rw [if_pos h1, h j h1]; rfl
    · rw [if_neg h1]
  show [if 0 < s then AV.int (U (lb q 0)) else .int 0, if 1 < s then AV.int (U (lb q 1)) else .int 0, if 2 < s then AV.int (U (lb q 2)) else .int 0, if 3 < s then AV.int (U (lb q 3)) else .int 0, if 4 < s then AV.int (U (lb q 4)) else .int 0] = _
  rw [e, e, e, e, e]
  rfl

theorem shl_runs {p n : Nat} (hp : p < 18446744073709551616) (hn : n < 256) : RunsX 226 [.agg (five p), .int (n : Int)] ⟨[.agg (limbs5 (p * 2 ^ n)), .bool true], [], false⟩ := by
  by_cases h0 : p = 0
  · subst h0
    rw [Nat.zero_mul, ← five_limbs (by omega)]
    exact shl_zero
  obtain ⟨r, hr1, hr2, hlen⟩ := len_runs (by omega) hp
  refine Evt.succ ((hlen.and (Evt.ge 10)).mono fun m hm => ?_)
  obtain ⟨hl, hm⟩ := hm
  have e1 : IntKind.wrap .i64 (Int.tdiv (n : Int) 64) = ((n / 64 : Nat) : Int) := by
    have : Int.tdiv (n : Int) 64 = ((n / 64 : Nat) : Int) := rfl
    rw [this, w64 (by omega) (by omega)]
  have e2 : IntKind.wrap .u64 (Int.tmod (n : Int) 64) = ((n % 64 : Nat) : Int) := by
    have : Int.tmod (n : Int) 64 = ((n % 64 : Nat) : Int) := rfl
    rw [this, wrap64]; omega
  have step : ∀ (i k : Nat) (o4 : List AV), n / 64 ≤ i → i < 5 → f226_l0 (runE G ext m) m (k + 1) ((n / 64 : Nat) : Int) ((n % 64 : Nat) : Int) (i : Int) (limbs5 p) o4 (shlSt (p * 2 ^ n) i) = f226_l0 (runE G ext m) m k ((n / 64 : Nat) : Int) ((n % 64 : Nat) : Int) ((i + 1 : Nat) : Int) (limbs5 p) o4 (shlSt (p * 2 ^ n) (i + 1)) := by
    intro i k o4 hi hi5
    rw [f226_l0_eq, ltI_t (by omega), cond_true, w64 (x := (i : Int) - ((n / 64 : Nat) : Int)) (by omega) (by omega), show (i : Int) - ((n / 64 : Nat) : Int) = ((i - n / 64 : Nat) : Int) by omega, inR_nat (by omega), cond_true, leI_t (show (0 : Int) ≤ ((n % 64 : Nat) : Int) by omega), cond_true, inR_nat (i := i) (by omega), cond_true, Int.toNat_natCast, Int.toNat_natCast, Int.toNat_natCast, limbs5_fld p (by omega), toInt_i, w64 (x := (i : Int) + 1) (by omega) (by omega), show (i : Int) + 1 = ((i + 1 : Nat) : Int) by omega, show min (n % 64) 64 = n % 64 by omega, u64_shl]
    by_cases hb : n % 64 = 0
    · rw [ltI_f (show ¬ (0 : Int) < ((n % 64 : Nat) : Int) by omega), cond_false]
      have : lb p (i - n / 64) <<< (n % 64) = lb (p * 2 ^ n) i := by rw [lb_shl0 p n i hi hb, hb]; exact BitVec.shiftLeft_zero _
      rw [this, shlSt_set]
    · rw [ltI_t (show (0 : Int) < ((n % 64 : Nat) : Int) by omega), cond_true]
      have hs := lb_shl p n i hi (by omega)
      by_cases ht : n / 64 < i
      · rw [if_pos ht] at hs
        rw [ltI_t (show ((n / 64 : Nat) : Int) < (i : Int) by omega), cond_true, cond_true, w64 (x := ((i - n / 64 : Nat) : Int) - 1) (by omega) (by omega), show ((i - n / 64 : Nat) : Int) - 1 = ((i - n / 64 - 1 : Nat) : Int) by omega, inR_nat (i := i - n / 64 - 1) (by omega), cond_true, wrap64, show (64 - ((n % 64 : Nat) : Int)) % 18446744073709551616 = ((64 - n % 64 : Nat) : Int) by omega, leI_t (show (0 : Int) ≤ ((64 - n % 64 : Nat) : Int) by omega), cond_true, cond_true, Int.toNat_natCast, Int.toNat_natCast, limbs5_fld p (show i - n / 64 - 1 < 5 by omega), toInt_i, show min (64 - n % 64) 64 = 64 - n % 64 by omega, U_shr]
        have hf : AV.fld (.agg ((shlSt (p * 2 ^ n) i).set i (.int (U (lb p (i - n / 64) <<< (n % 64)))))) i = .int (U (lb p (i - n / 64) <<< (n % 64))) := by
          unfold AV.fld
          rw [toAgg_a, nth_lt (by rw [List.length_set, shlSt_len]; omega), List.getElem_set_self]
        rw [hf, toInt_i, ofInt_U, ofInt_U, U64, ofInt_toNat, ← hs, List.set_set, shlSt_set]
      · rw [ltI_f (show ¬ ((n / 64 : Nat) : Int) < (i : Int) by omega), cond_false]
        rw [if_neg ht] at hs
        have : lb p (i - n / 64) <<< (n % 64) = lb (p * 2 ^ n) i := by rw [hs]; simp
        rw [this, shlSt_set]
  have key : ∀ (j k i : Nat) (o4 : List AV), i + j = 5 → n / 64 ≤ i → j < k → f226_l0 (runE G ext m) m k ((n / 64 : Nat) : Int) ((n % 64 : Nat) : Int) (i : Int) (limbs5 p) o4 (shlSt (p * 2 ^ n) i) = some ⟨[.agg (limbs5 (p * 2 ^ n)), .bool true], [], false⟩ := by
    intro j
    induction j with
    | zero =>
      intro k i o4 hi _ hk
      obtain ⟨k, rfl⟩ : ∃ j, k = j + 1 := ⟨k - 1, by omega⟩
      rw [f226_l0_eq, ltI_f (by omega), cond_false, show i = 5 by omega, shlSt_all]; rfl
    | succ j ih =>
      intro k i o4 hi h1 hk
      obtain ⟨k, rfl⟩ : ∃ j, k = j + 1 := ⟨k - 1, by omega⟩
      rw [step i k o4 h1 (by omega)]
      exact ih k (i + 1) o4 (by omega) (by omega) (by omega)
  have hst := key (5 - n / 64) m (n / 64) (List.replicate 5 (.int 0)) (by omega) (Nat.le_refl _) (by omega)
  rw [shlSt_low (fun j hj => lb_low p n j hj)] at hst
  rw [f226_run, f226_eq, ltI_f (by omega), cond_false, hl, step1, toInt_i, ltI_t (by omega), cond_true, step1, toInt_i, w64 (x := 320 - (r : Int)) (by omega) (by omega), ltI_f (by omega), cond_false, step1, toInt_i, eqI_f (by omega), cond_false, e1, e2, five_limbs hp]
  exact hst

/- how numbers stand -/
def Big5 : Nat := 2135987035920910082395021706169552114602704522356652769947041607822219725780640550022962086936576
theorem big5_pow : Big5 = 18446744073709551616 ^ 5 := by decide
theorem lb5_all {a : Nat} (h : a < Big5) : a = (lb a 0).toNat + 18446744073709551616 * (lb a 1).toNat + 340282366920938463463374607431768211456 * (lb a 2).toNat + 6277101735386680763835789423207666416102355444464034512896 * (lb a 3).toNat + 115792089237316195423570985008687907853269984665640564039457584007913129639936 * (lb a 4).toNat := by
  rw [lb_toNat, lb_toNat, lb_toNat, lb_toNat, lb_toNat]
  simp only [Nat.reducePow]
  unfold Big5 at h
  omega
theorem cmp5_runs {a b : Nat} (ha : a < Big5) (hb : b < Big5) : RunsX 197 [.agg (limbs5 a), .agg (limbs5 b)] ⟨[.int (cmpN a b)], [], false⟩ := by
  have ea := lb5_all ha
  have eb := lb5_all hb
  have k0 := (lb a 0).isLt
  have k1 := (lb a 1).isLt
  have k2 := (lb a 2).isLt
  have k3 := (lb a 3).isLt
  have k4 := (lb a 4).isLt
  have j0 := (lb b 0).isLt
  have j1 := (lb b 1).isLt
  have j2 := (lb b 2).isLt
  have j3 := (lb b 3).isLt
  have j4 := (lb b 4).isLt
  refine Evt.succ ((Evt.ge 10).mono fun m hm => ?_)
  obtain ⟨k, rfl⟩ : ∃ k, m = k + 6 := ⟨m - 6, by omega⟩
  have step : ∀ (k i : Nat), i < 5 → f197_l0 (runE G ext (k + 6)) (k + 6) (k + 1) (i : Int) (limbs5 a) (limbs5 b) = f197_l0 (runE G ext (k + 6)) (k + 6) (k + 1) (i : Int) (limbs5 a) (limbs5 b) := fun _ _ _ => rfl
  clear step
  have same : ∀ (run : Run) (n k i : Nat), i < 5 → (lb a (4 - i)).toNat = (lb b (4 - i)).toNat → f197_l0 run n (k + 1) (i : Int) (limbs5 a) (limbs5 b) = f197_l0 run n k ((i + 1 : Nat) : Int) (limbs5 a) (limbs5 b) := by
    intro run n k i hi h
    rw [f197_l0_eq, ltI_t (by omega), cond_true, w64 (x := 4 - (i : Int)) (by omega) (by omega), show 4 - (i : Int) = ((4 - i : Nat) : Int) by omega, inR_nat (by omega), cond_true, cond_true, Int.toNat_natCast, limbs5_fld a (by omega), limbs5_fld b (by omega), toInt_i, toInt_i, eqI_t (by unfold U; omega), not_t, cond_false, w64 (by omega) (by omega), show (i : Int) + 1 = ((i + 1 : Nat) : Int) by omega]
  have lss : ∀ (run : Run) (n k i : Nat), i < 5 → (lb a (4 - i)).toNat < (lb b (4 - i)).toNat → f197_l0 run n (k + 1) (i : Int) (limbs5 a) (limbs5 b) = some ⟨[.int (-1)], [], false⟩ := by
    intro run n k i hi h
    rw [f197_l0_eq, ltI_t (by omega), cond_true, w64 (x := 4 - (i : Int)) (by omega) (by omega), show 4 - (i : Int) = ((4 - i : Nat) : Int) by omega, inR_nat (by omega), cond_true, cond_true, Int.toNat_natCast, limbs5_fld a (by omega), limbs5_fld b (by omega), toInt_i, toInt_i, eqI_f (by unfold U; omega), not_f, cond_true, ltI_t (by unfold U; omega), cond_true]
    rfl
  have gtr : ∀ (run : Run) (n k i : Nat), i < 5 → (lb b (4 - i)).toNat < (lb a (4 - i)).toNat → f197_l0 run n (k + 1) (i : Int) (limbs5 a) (limbs5 b) = some ⟨[.int 1], [], false⟩ := by
    intro run n k i hi h
    rw [f197_l0_eq, ltI_t (by omega), cond_true, w64 (x := 4 - (i : Int)) (by omega) (by omega), show 4 - (i : Int) = ((4 - i : Nat) : Int) by omega, inR_nat (by omega), cond_true, cond_true, Int.toNat_natCast, limbs5_fld a (by omega), limbs5_fld b (by omega), toInt_i, toInt_i, eqI_f (by unfold U; omega), not_f, cond_true, ltI_f (by unfold U; omega), cond_false]
    rfl
  rw [f197_run, f197_eq, show (0 : Int) = ((0 : Nat) : Int) from rfl]
  unfold cmpN
  rcases Nat.lt_trichotomy (lb a 4).toNat (lb b 4).toNat with h | h | h
  · rw [lss _ _ (k + 5) 0 (by omega) h, if_pos (by omega)]
  case inr.inr => rw [gtr _ _ (k + 5) 0 (by omega) h, if_neg (by omega), if_pos (by omega)]
  rw [same _ _ (k + 5) 0 (by omega) h]
  rcases Nat.lt_trichotomy (lb a 3).toNat (lb b 3).toNat with h' | h' | h'
  · rw [lss _ _ (k + 4) 1 (by omega) h', if_pos (by omega)]
  case inr.inr => rw [gtr _ _ (k + 4) 1 (by omega) h', if_neg (by omega), if_pos (by omega)]
  rw [same _ _ (k + 4) 1 (by omega) h']
  rcases Nat.lt_trichotomy (lb a 2).toNat (lb b 2).toNat with h2 | h2 | h2
  · rw [lss _ _ (k + 3) 2 (by omega) h2, if_pos (by omega)]
  case inr.inr => rw [gtr _ _ (k + 3) 2 (by omega) h2, if_neg (by omega), if_pos (by omega)]
  rw [same _ _ (k + 3) 2 (by omega) h2]
  rcases Nat.lt_trichotomy (lb a 1).toNat (lb b 1).toNat with h3 | h3 | h3
  · rw [lss _ _ (k + 2) 3 (by omega) h3, if_pos (by omega)]
  case inr.inr => rw [gtr _ _ (k + 2) 3 (by omega) h3, if_neg (by omega), if_pos (by omega)]
  rw [same _ _ (k + 2) 3 (by omega) h3]
  rcases Nat.lt_trichotomy (lb a 0).toNat (lb b 0).toNat with h4 | h4 | h4
  · rw [lss _ _ (k + 1) 4 (by omega) h4, if_pos (by omega)]
  case inr.inr => rw [gtr _ _ (k + 1) 4 (by omega) h4, if_neg (by omega), if_pos (by omega)]
  rw [same _ _ (k + 1) 4 (by omega) h4, f197_l0_eq, ltI_f (by omega), cond_false, if_neg (by omega), if_neg (by omega)]
  rfl

/- the two sides -/
def mayR (a b : Int) : Bool := decide (0 < a) && (decide (a < b) && decide (b ≤ 65536))
theorem ratioMay_runs {a b : Int} : RunsX 38 [.int a, .int b] ⟨[.bool (mayR a b)], [], false⟩ := by
  refine Evt.succ (.of fun n => ?_)
  unfold mayR
  rw [f38_run, f38_eq]
  by_cases h1 : 0 < a
  · rw [ltI_t h1, cond_true, decide_eq_true h1]
    by_cases h2 : a < b
    · rw [ltI_t h2, cond_true, decide_eq_true h2]; rfl
    · rw [ltI_f h2, cond_false, decide_eq_false h2]; rfl
  · rw [ltI_f h1, cond_false, decide_eq_false h1]; rfl

theorem of_runs {x : Nat} : RunsX 225 [.int (x : Int)] ⟨[.agg (five x)], [], false⟩ := by
  refine Evt.succ (.of fun n => ?_)
  rw [f225_run, f225_eq]
  rfl

/-- A product, if the shift may be. -/
theorem product_runs {n b : Nat} {up : Int} (hn : n < 4294967296) (hb : b ≤ 65536) (h0 : 0 ≤ up) (h1 : up ≤ 255) : RunsX 215 [.int (n : Int), .int (b : Int), .int up] ⟨[.agg (limbs5 (n * b * 2 ^ up.toNat)), .bool true], [], false⟩ := by
  have hpy : n * b < 18446744073709551616 := by
    have : n * b ≤ 4294967295 * 65536 := Nat.mul_le_mul (by omega) hb
    omega
  obtain ⟨q, hm⟩ := mul_runs hn (show b < 4294967296 by omega)
  refine Evt.succ (((of_runs (x := n)).and (hm.and (shl_runs (p := n * b) (n := up.toNat) hpy (by omega)))).mono fun m h => ?_)
  obtain ⟨g1, g2, g3⟩ := h
  rw [show ((up.toNat : Nat) : Int) = up by omega] at g3
  rw [f215_run, f215_eq, wN (show n < 18446744073709551616 by omega), g1, step1, toAgg_a, wN (show b < 18446744073709551616 by omega), g2, step2, ltI_f (by omega), cond_false, ltI_f (by omega), cond_false, toAgg_a, g3]
  rfl
theorem product_bad {n b : Nat} {up : Int} (hn : n < 4294967296) (hb : b ≤ 65536) (h0 : up < 0 ∨ 255 < up) : RunsX 215 [.int (n : Int), .int (b : Int), .int up] ⟨[.agg (five 0), .bool false], [], false⟩ := by
  obtain ⟨q, hm⟩ := mul_runs hn (show b < 4294967296 by omega)
  refine Evt.succ (((of_runs (x := n)).and hm).mono fun m h => ?_)
  obtain ⟨g1, g2⟩ := h
  rw [f215_run, f215_eq, wN (show n < 18446744073709551616 by omega), g1, step1, toAgg_a, wN (show b < 18446744073709551616 by omega), g2, step2]
  by_cases h : up < 0
  · rw [ltI_t h, cond_true]; rfl
  · rw [ltI_f h, cond_false, ltI_t (by omega), cond_true]; rfl

/-- How the sides stand: 2 where delta may not be, or the shift. -/
def cmpR (n of_ : Nat) (up a b : Int) : Int := if mayR a b = true ∧ 0 ≤ up ∧ up ≤ 255 then cmpN (n * b.toNat * 2 ^ up.toNat) (of_ * (b - a).toNat) else 2
theorem pow_le255 {u : Nat} (h : u ≤ 255) : 2 ^ u ≤ 2 ^ 255 := Nat.pow_le_pow_right (by omega) h
theorem sides_big {n b u : Nat} (hn : n < 4294967296) (hb : b ≤ 65536) (hu : u ≤ 255) : n * b * 2 ^ u < Big5 := by
  have h1 : n * b ≤ 4294967295 * 65536 := Nat.mul_le_mul (by omega) hb
  have h2 := Nat.mul_le_mul h1 (pow_le255 hu)
  refine Nat.lt_of_le_of_lt h2 ?_
  decide
theorem mayR_iff {a b : Int} : mayR a b = true ↔ 0 < a ∧ a < b ∧ b ≤ 65536 := by simp [mayR]
theorem ratioAbove_runs {n of_ : Nat} {up a b : Int} (hn : n < 4294967296) (ho : of_ < 4294967296) : RunsX 175 [.int (n : Int), .int (of_ : Int), .int up, .int a, .int b] ⟨[.bool (eqI (cmpR n of_ up a b) 1)], [], false⟩ ∧
    RunsX 176 [.int (n : Int), .int (of_ : Int), .int up, .int a, .int b] ⟨[.bool (eqI (cmpR n of_ up a b) 1 || eqI (cmpR n of_ up a b) 0)], [], false⟩ := by
  have two : eqI 2 1 = false := rfl
  have two0 : eqI 2 0 = false := rfl
  cases hM : mayR a b with
  | false =>
    have hs : RunsX 196 [.int (n : Int), .int (of_ : Int), .int up, .int a, .int b] ⟨[.agg (five 0), .agg (five 0), .bool false], [], false⟩ := by
      refine Evt.succ ((ratioMay_runs (a := a) (b := b)).mono fun m h => ?_)
      rw [f196_run, f196_eq, h, step1, toBool_b, hM, not_f, cond_true]; rfl
    have e : cmpR n of_ up a b = 2 := by unfold cmpR; rw [hM, if_neg (by simp)]
    rw [e, two, two0]
    exact ⟨Evt.succ (hs.mono fun m h => by rw [f175_run, f175_eq, h, step3, toBool_b, cond_false]; rfl), Evt.succ (hs.mono fun m h => by rw [f176_run, f176_eq, h, step3, toBool_b, cond_false]; rfl)⟩
  | true =>
    obtain ⟨m1, m2, m3⟩ := mayR_iff.1 hM
    obtain ⟨bn, rfl⟩ : ∃ bn : Nat, b = (bn : Int) := ⟨b.toNat, by omega⟩
    obtain ⟨dn, hd⟩ : ∃ dn : Nat, (bn : Int) - a = (dn : Int) := ⟨((bn : Int) - a).toNat, by omega⟩
    have hu : IntKind.wrap .u32 (bn : Int) = (bn : Int) := by rw [wrap32]; omega
    have hu2 : IntKind.wrap .u32 (IntKind.wrap .i64 ((bn : Int) - a)) = (dn : Int) := by rw [w64 (by omega) (by omega), wrap32]; omega
    have p2 := product_runs (n := of_) (b := dn) (up := 0) ho (by omega) (by omega) (by omega)
    rw [show (0 : Int).toNat = 0 from rfl, Nat.pow_zero, Nat.mul_one] at p2
    have hof : of_ * dn < Big5 := by have := sides_big (u := 0) ho (show dn ≤ 65536 by omega) (by omega); rwa [Nat.pow_zero, Nat.mul_one] at this
    by_cases hup : 0 ≤ up ∧ up ≤ 255
    · have hs : RunsX 196 [.int (n : Int), .int (of_ : Int), .int up, .int a, .int (bn : Int)] ⟨[.agg (limbs5 (n * bn * 2 ^ up.toNat)), .agg (limbs5 (of_ * dn)), .bool true], [], false⟩ := by
        refine Evt.succ (((ratioMay_runs (a := a) (b := (bn : Int))).and ((product_runs (n := n) (b := bn) (up := up) hn (by omega) hup.1 hup.2).and p2)).mono fun m h => ?_)
        obtain ⟨g1, g2, g3⟩ := h
        rw [f196_run, f196_eq, g1, step1, toBool_b, hM, not_t, cond_false, hu, g2, step2, hu2, g3]
        rfl
      have hc := cmp5_runs (sides_big (n := n) (b := bn) (u := up.toNat) hn (by omega) (by omega)) hof
      have e : cmpR n of_ up a (bn : Int) = cmpN (n * bn * 2 ^ up.toNat) (of_ * dn) := by
        unfold cmpR; rw [hM, if_pos ⟨rfl, hup⟩, Int.toNat_natCast, hd, Int.toNat_natCast]
      have e1 : ltI 0 (cmpN (n * bn * 2 ^ up.toNat) (of_ * dn)) = eqI (cmpN (n * bn * 2 ^ up.toNat) (of_ * dn)) 1 := by
        unfold cmpN
        split
        · rfl
        · split <;> rfl
      have e2 : leI 0 (cmpN (n * bn * 2 ^ up.toNat) (of_ * dn)) = (eqI (cmpN (n * bn * 2 ^ up.toNat) (of_ * dn)) 1 || eqI (cmpN (n * bn * 2 ^ up.toNat) (of_ * dn)) 0) := by
        unfold cmpN
        split
        · rfl
        · split <;> rfl
      rw [e]
      exact ⟨Evt.succ ((hs.and hc).mono fun m h => by rw [f175_run, f175_eq, h.1, step3, toBool_b, cond_true, toAgg_a, toAgg_a, h.2, step1, toInt_i, e1]; rfl), Evt.succ ((hs.and hc).mono fun m h => by rw [f176_run, f176_eq, h.1, step3, toBool_b, cond_true, toAgg_a, toAgg_a, h.2, step1, toInt_i, e2]; rfl)⟩
    · have hs : RunsX 196 [.int (n : Int), .int (of_ : Int), .int up, .int a, .int (bn : Int)] ⟨[.agg (five 0), .agg (limbs5 (of_ * dn)), .bool false], [], false⟩ := by
        refine Evt.succ (((ratioMay_runs (a := a) (b := (bn : Int))).and ((product_bad (n := n) (b := bn) (up := up) hn (by omega) (by omega)).and p2)).mono fun m h => ?_)
        obtain ⟨g1, g2, g3⟩ := h
        rw [f196_run, f196_eq, g1, step1, toBool_b, hM, not_t, cond_false, hu, g2, step2, hu2, g3]
        rfl
      have e : cmpR n of_ up a (bn : Int) = 2 := by unfold cmpR; rw [if_neg (by intro h; exact hup h.2)]
      rw [e, two, two0]
      exact ⟨Evt.succ (hs.mono fun m h => by rw [f175_run, f175_eq, h, step3, toBool_b, cond_false]; rfl), Evt.succ (hs.mono fun m h => by rw [f176_run, f176_eq, h, step3, toBool_b, cond_false]; rfl)⟩

end Go.Proofs.YtogehijjhibdkaaGreat.Ev
