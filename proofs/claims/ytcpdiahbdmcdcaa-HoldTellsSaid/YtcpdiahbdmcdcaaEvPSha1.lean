/- The sum's words: both programs take them, turn them and spread them alike. -/
import Derived.Test.YtcpdiahbdmcdcaaEvExt
import Derived.Test.YtcpdiahbdmcdcaaEvBits
import Derived.Test.YtcpdiahbdmcdcaaEvFB
import Derived.Test.YtcpdiahbdmcdcaaEvFC
import Derived.Test.YtcpdiahbdmcdcaaEvFD
import Derived.Test.YtcpdiahbdmcdcaaEvFE
namespace Go.Proofs.Ytcpdiahbdmcdcaa.Ev
open Go Go.RowKit

def byteAt (b : List UInt8) (i : Nat) : BitVec 64 := BitVec.ofNat 64 (b.getD i 0).toNat
theorem byteAt_U (b : List UInt8) (i : Nat) : ((b.getD i 0).toNat : Int) = U (byteAt b i) := by
  unfold byteAt U
  rw [BitVec.toNat_ofNat, Nat.mod_eq_of_lt]
  have := (b.getD i 0).toNat_lt
  omega
theorem wrap_U64 (a : BitVec 64) : IntKind.wrap .u64 (U a) = U a := by rw [U64, ofInt_U]
theorem wrap_U32 (a : BitVec 32) : IntKind.wrap .u32 (U a) = U a := by rw [U32, ofInt_U]

theorem add_or (x y : BitVec 64) (h : y.toNat < 256) : x <<< 8 + y = (x <<< 8) ||| y := by
  apply BitVec.add_eq_or_of_and_eq_zero
  apply BitVec.eq_of_getLsbD_eq
  intro i hi
  rw [BitVec.getLsbD_and, BitVec.getLsbD_shiftLeft]
  by_cases h8 : i < 8
  · simp [h8]
  · have : y.getLsbD i = false := by
      show y.toNat.testBit i = false
      refine Nat.testBit_lt_two_pow (Nat.lt_of_lt_of_le h ?_)
      calc 256 = 2 ^ 8 := rfl
        _ ≤ 2 ^ i := Nat.pow_le_pow_right (by omega) (by omega)
    rw [this]; simp

/-- The number of some bytes. -/
def tk (b : List UInt8) (at_ : Nat) : Nat → BitVec 64
  | 0 => 0
  | i + 1 => (tk b at_ i <<< 8) ||| byteAt b (at_ + i)

theorem byteAt_out {b : List UInt8} {i : Nat} (h : b.length ≤ i) : byteAt b i = 0 := by
  unfold byteAt
  rw [List.getD_eq_getElem?_getD, List.getElem?_eq_none h]; rfl

theorem take_l0 (run : Run) (n : Nat) (b : List UInt8) (at_ size : Nat) (hb : b.length ≤ maxLen) (ha : at_ ≤ 1000000) (hs : size ≤ 1000) : ∀ (j k i : Nat), i + j = size → j < k →
    f144_l0 run n k b (at_ : Int) (U (tk b at_ i)) (size : Int) (i : Int) = some ⟨[.int (U (tk b at_ size))], [], false⟩ := by
  rw [maxLen_eq] at hb
  intro j
  induction j with
  | zero =>
    intro k i hi hk
    obtain ⟨k, rfl⟩ : ∃ j, k = j + 1 := ⟨k - 1, by omega⟩
    rw [Nat.add_zero] at hi
    rw [f144_l0_eq, ltI_f (by omega), hi]; rfl
  | succ j ih =>
    intro k i hi hk
    obtain ⟨k, rfl⟩ : ∃ j, k = j + 1 := ⟨k - 1, by omega⟩
    have ih' := ih k (i + 1) (by omega) (by omega)
    rw [show ((i + 1 : Nat) : Int) = (i : Int) + 1 by omega] at ih'
    rw [f144_l0_eq, ltI_t (by omega), leI_t (by omega), cond_true, cond_true, w64 (x := (i : Int) + 1) (by omega) (by omega), w64 (x := (b.length : Int) - at_) (by omega) (by omega), w64 (x := (at_ : Int) + i) (by omega) (by omega), u64_shl]
    by_cases h1 : at_ + i < b.length
    · rw [ltI_t (by omega), ltI_t (by omega), inR_yes (by omega) (by omega), show ((at_ : Int) + i).toNat = at_ + i by omega, byteAt_U, wrap_U64, u64_or]
      exact ih'
    · have e : tk b at_ (i + 1) = tk b at_ i <<< 8 := by simp only [tk]; rw [byteAt_out (by omega)]; simp
      rw [e] at ih'
      by_cases h2 : at_ < b.length
      · rw [ltI_t (by omega), ltI_f (by omega)]; exact ih'
      · rw [ltI_f (by omega)]; exact ih'

theorem refTake_l0 (run : Run) (n : Nat) (b : List UInt8) (at_ size : Nat) (hb : b.length ≤ maxLen) (ha : at_ ≤ 1000000) (hs : size ≤ 1000) : ∀ (j k i : Nat), i + j = size → j < k →
    f124_l0 run n k b (at_ : Int) (size : Int) (U (tk b at_ i)) (i : Int) = some ⟨[.int (U (tk b at_ size))], [], false⟩ := by
  rw [maxLen_eq] at hb
  intro j
  induction j with
  | zero =>
    intro k i hi hk
    obtain ⟨k, rfl⟩ : ∃ j, k = j + 1 := ⟨k - 1, by omega⟩
    rw [Nat.add_zero] at hi
    rw [f124_l0_eq, ltI_f (by omega), hi]; rfl
  | succ j ih =>
    intro k i hi hk
    obtain ⟨k, rfl⟩ : ∃ j, k = j + 1 := ⟨k - 1, by omega⟩
    have ih' := ih k (i + 1) (by omega) (by omega)
    rw [show ((i + 1 : Nat) : Int) = (i : Int) + 1 by omega] at ih'
    have e0 : U (tk b at_ i) * 256 = U (tk b at_ i) * 2 ^ 8 := by rw [show (2 : Int) ^ 8 = 256 from rfl]
    rw [f124_l0_eq, ltI_t (by omega), leI_t (by omega), cond_true, cond_true, w64 (x := (i : Int) + 1) (by omega) (by omega), w64 (x := (b.length : Int) - at_) (by omega) (by omega), w64 (x := (at_ : Int) + i) (by omega) (by omega), e0, u64_shl]
    by_cases h1 : at_ + i < b.length
    · have hlt : (byteAt b (at_ + i)).toNat < 256 := by
        unfold byteAt
        rw [BitVec.toNat_ofNat]
        have := (b.getD (at_ + i) 0).toNat_lt
        omega
      rw [ltI_t (by omega), ltI_t (by omega), inR_yes (by omega) (by omega), show ((at_ : Int) + i).toNat = at_ + i by omega, byteAt_U, wrap_U64, u64_add, add_or _ _ hlt]
      exact ih'
    · have e : tk b at_ (i + 1) = tk b at_ i <<< 8 := by simp only [tk]; rw [byteAt_out (by omega)]; simp
      rw [e] at ih'
      by_cases h2 : at_ < b.length
      · rw [ltI_t (by omega), ltI_f (by omega)]; exact ih'
      · rw [ltI_f (by omega)]; exact ih'

def tk32 (b : List UInt8) (at_ : Nat) : BitVec 32 := (tk b at_ 4).setWidth 32
theorem tk32_U (b : List UInt8) (at_ : Nat) : IntKind.wrap .u32 (U (tk b at_ 4)) = U (tk32 b at_) := by
  rw [wrap32]; unfold tk32 U; rw [BitVec.toNat_setWidth]; omega

theorem take_at (n : Nat) (hn : 2000 ≤ n) {b : List UInt8} (hb : b.length ≤ maxLen) {at_ size : Nat} (ha : at_ ≤ 1000000) (hs : size ≤ 1000) : runE G ext (n + 1) 144 [.str b, .int at_, .int size] = some ⟨[.int (U (tk b at_ size))], [], false⟩ := by
  rw [f144_run, f144_eq]
  exact take_l0 _ _ b at_ size hb ha hs size n 0 (by omega) (by omega)
theorem refTake_at (n : Nat) (hn : 2000 ≤ n) {b : List UInt8} (hb : b.length ≤ maxLen) {at_ size : Nat} (ha : at_ ≤ 1000000) (hs : size ≤ 1000) : runE G ext (n + 1) 124 [.str b, .int at_, .int size] = some ⟨[.int (U (tk b at_ size))], [], false⟩ := by
  rw [f124_run, f124_eq]
  exact refTake_l0 _ _ b at_ size hb ha hs size n 0 (by omega) (by omega)
theorem take32_at (n : Nat) (hn : 2000 ≤ n) {b : List UInt8} (hb : b.length ≤ maxLen) {at_ : Nat} (ha : at_ ≤ 1000000) : runE G ext (n + 2) 138 [.str b, .int at_] = some ⟨[.int (U (tk32 b at_))], [], false⟩ := by
  rw [f138_run, f138_eq, show ((4 : Int)) = ((4 : Nat) : Int) from rfl, take_at n hn hb ha (by omega)]
  simp only [bind_run, consV_c, nilV_n, toInt_i]
  rw [tk32_U]; rfl

/- turning -/
def rotV (x : BitVec 32) (k : Nat) : BitVec 32 := (x >>> k) ||| (x <<< (32 - k))

theorem wu64' {x : Int} (h1 : 0 ≤ x) (h2 : x < 18446744073709551616) : IntKind.wrap .u64 x = x := by rw [wrap64]; omega
theorem k31 : ∀ k : Nat, k < 32 → IntKind.wrap .u64 (BitVec.toNat (BitVec.ofInt 64 (IntKind.wrap .u64 (k : Int)) &&& BitVec.ofInt 64 31)) = (k : Int) := by decide +kernel
theorem rot_at (n : Nat) (x : BitVec 32) {k : Nat} (hk : k < 32) : runE G ext (n + 1) 133 [.int (U x), .int (k : Int)] = some ⟨[.int (U (rotV x k))], [], false⟩ := by
  rw [f133_run, f133_eq, k31 k hk, wu64' (by omega) (by omega), leI_t (by omega), leI_t (by omega), Int.toNat_natCast, show min k 32 = k by omega, show min ((32 : Int) - k).toNat 32 = 32 - k by omega, u32_shl, U_shr, u32_or]
  rfl

theorem turn_or (x : BitVec 32) {k : Nat} (hk : k < 32) : x >>> k + x <<< (32 - k) = rotV x k := by
  unfold rotV
  apply BitVec.add_eq_or_of_and_eq_zero
  apply BitVec.eq_of_getLsbD_eq
  intro i hi
  rw [BitVec.getLsbD_and, BitVec.getLsbD_shiftLeft, BitVec.getLsbD_ushiftRight]
  by_cases h : i < 32 - k
  · simp [h]
  · have : x.getLsbD (k + i) = false := BitVec.getLsbD_of_ge _ _ (by omega)
    rw [this]; simp

theorem turn_at (n : Nat) (x : BitVec 32) {k : Nat} (hk : k < 32) : runE G ext (n + 1) 113 [.int (U x), .int (k : Int)] = some ⟨[.int (U (rotV x k))], [], false⟩ := by
  rw [f113_run, f113_eq, wu64' (by omega) (by omega), leI_t (by omega), leI_t (by omega), Int.toNat_natCast, show min k 32 = k by omega, show min ((32 : Int) - k).toNat 32 = 32 - k by omega, u32_shl, U_shr, u32_add, turn_or x hk]
  rfl

/- words in a row -/
def A (l : List (BitVec 32)) : List AV := l.map fun b => .int (U b)
theorem A_len (l : List (BitVec 32)) : (A l).length = l.length := by simp [A]
theorem fldA {l : List (BitVec 32)} {r : List AV} {i : Nat} (h : i < l.length) : (AV.fld (.agg (A l ++ r)) i).toInt = U (l.getD i 0) := by
  show (nth (A l ++ r) i).toInt = _
  unfold nth
  rw [List.getD_eq_getElem?_getD, List.getElem?_append_left (by rw [A_len]; exact h)]
  simp [A, h, AV.toInt]
theorem setA {l : List (BitVec 32)} {m : Nat} (w : BitVec 32) : (A l ++ List.replicate (m + 1) (AV.int 0)).set l.length (.int (U w)) = A (l ++ [w]) ++ List.replicate m (.int 0) := by
  rw [List.set_append_right _ _ (by rw [A_len]; exact Nat.le_refl _), A_len, Nat.sub_self, List.replicate_succ, List.set_cons_zero]
  simp [A]

def sg0 (x : BitVec 32) : BitVec 32 := (rotV x 7 ^^^ rotV x 18) ^^^ (x >>> 3)
def sg1 (x : BitVec 32) : BitVec 32 := (rotV x 17 ^^^ rotV x 19) ^^^ (x >>> 10)
def wordV (b : List UInt8) (l : List (BitVec 32)) (i : Nat) : BitVec 32 :=
  if i < 16 then tk32 b (4 * i) else l.getD (i - 16) 0 + sg0 (l.getD (i - 15) 0) + l.getD (i - 7) 0 + sg1 (l.getD (i - 2) 0)
/-- The first words of a block. -/
def sp (b : List UInt8) : Nat → List (BitVec 32)
  | 0 => []
  | i + 1 => sp b i ++ [wordV b (sp b i) i]
theorem sp_len (b : List UInt8) : ∀ i, (sp b i).length = i
  | 0 => rfl
  | i + 1 => by simp [sp, sp_len b i]

theorem spread_l0 (m n : Nat) (hm : 2000 ≤ m) (b : List UInt8) (hb : b.length ≤ maxLen) (o : List AV) : ∀ (j k i : Nat), i + j = 64 → j < k →
    f131_l0 (runE G ext (m + 2)) n k b (i : Int) o (A (sp b i) ++ List.replicate (64 - i) (.int 0)) = some ⟨[.agg (A (sp b 64))], [], false⟩ := by
  intro j
  induction j with
  | zero =>
    intro k i hi hk
    obtain ⟨k, rfl⟩ : ∃ j, k = j + 1 := ⟨k - 1, by omega⟩
    rw [Nat.add_zero] at hi
    subst hi
    rw [f131_l0_eq, ltI_f (by omega), Nat.sub_self, List.replicate_zero, List.append_nil]; rfl
  | succ j ih =>
    intro k i hi hk
    obtain ⟨k, rfl⟩ : ∃ j, k = j + 1 := ⟨k - 1, by omega⟩
    have ih' := ih k (i + 1) (by omega) (by omega)
    rw [show ((i + 1 : Nat) : Int) = (i : Int) + 1 by omega] at ih'
    have hs := setA (l := sp b i) (m := 64 - (i + 1)) (wordV b (sp b i) i)
    rw [sp_len, show 64 - (i + 1) + 1 = 64 - i by omega] at hs
    rw [show sp b i ++ [wordV b (sp b i) i] = sp b (i + 1) from rfl] at hs
    rw [← hs] at ih'
    rw [f131_l0_eq, ltI_t (by omega), cond_true, w64 (x := (i : Int) + 1) (by omega) (by omega)]
    by_cases h : i < 16
    · rw [ltI_t (by omega), cond_true, w64 (x := 4 * (i : Int)) (by omega) (by omega), show 4 * (i : Int) = ((4 * i : Nat) : Int) by omega, take32_at m hm hb (by omega)]
      simp only [bind_run, consV_c, nilV_n, toInt_i]
      rw [inR_nat (by omega), cond_true, Int.toNat_natCast, show tk32 b (4 * i) = wordV b (sp b i) i by simp [wordV, h]]
      exact ih'
    · have hw : wordV b (sp b i) i = (sp b i).getD (i - 16) 0 + sg0 ((sp b i).getD (i - 15) 0) + (sp b i).getD (i - 7) 0 + sg1 ((sp b i).getD (i - 2) 0) := by simp [wordV, h]
      have f1 := fldA (l := sp b i) (r := List.replicate (64 - i) (.int 0)) (i := i - 15) (by rw [sp_len]; omega)
      have f2 := fldA (l := sp b i) (r := List.replicate (64 - i) (.int 0)) (i := i - 2) (by rw [sp_len]; omega)
      have f3 := fldA (l := sp b i) (r := List.replicate (64 - i) (.int 0)) (i := i - 16) (by rw [sp_len]; omega)
      have f4 := fldA (l := sp b i) (r := List.replicate (64 - i) (.int 0)) (i := i - 7) (by rw [sp_len]; omega)
      rw [ltI_f (by omega), cond_false, w64 (x := (i : Int) - 15) (by omega) (by omega), w64 (x := (i : Int) - 2) (by omega) (by omega), w64 (x := (i : Int) - 16) (by omega) (by omega), w64 (x := (i : Int) - 7) (by omega) (by omega),
        show ((i : Int) - 15).toNat = i - 15 by omega, show ((i : Int) - 2).toNat = i - 2 by omega, show ((i : Int) - 16).toNat = i - 16 by omega, show ((i : Int) - 7).toNat = i - 7 by omega, f1, f2, f3, f4,
        show (7 : Int) = ((7 : Nat) : Int) from rfl, show (18 : Int) = ((18 : Nat) : Int) from rfl, show (17 : Int) = ((17 : Nat) : Int) from rfl, show (19 : Int) = ((19 : Nat) : Int) from rfl,
        rot_at (m + 1) _ (by omega), rot_at (m + 1) _ (by omega), rot_at (m + 1) _ (by omega), rot_at (m + 1) _ (by omega)]
      simp only [bind_run, consV_c, nilV_n, toInt_i]
      rw [inR_yes (i := (i : Int) - 15) (by omega) (by omega), inR_yes (i := (i : Int) - 2) (by omega) (by omega), inR_yes (i := (i : Int) - 16) (by omega) (by omega), inR_yes (i := (i : Int) - ((7 : Nat) : Int)) (by omega) (by omega), inR_nat (by omega), Int.toNat_natCast]
      simp only [cond_true, U_shr, u32_xor, u32_add]
      rw [hw] at ih'
      exact ih'

theorem spread_at (m : Nat) (hm : 2000 ≤ m) {b : List UInt8} (hb : b.length ≤ maxLen) : runE G ext (m + 3) 131 [.str b] = some ⟨[.agg (A (sp b 64))], [], false⟩ := by
  rw [f131_run, f131_eq]
  exact spread_l0 m _ hm b hb _ 64 _ 0 (by omega) (by omega)

end Go.Proofs.Ytcpdiahbdmcdcaa.Ev
