/- Numbers of some bits, as the residual programs reckon with them. -/
import Derived.Test.YtcpdiahbdmcdcaaEvZB
namespace Go.Proofs.Ytcpdiahbdmcdcaa.Ev
open Go Go.RowKit

/-- A word as a number. -/
def U {n : Nat} (b : BitVec n) : Int := (b.toNat : Int)

theorem U_lt {n : Nat} (b : BitVec n) : 0 ≤ U b ∧ U b < 2 ^ n := by
  have := b.isLt
  unfold U
  exact ⟨by omega, by exact_mod_cast this⟩
theorem ofInt_U {n : Nat} (b : BitVec n) : BitVec.ofInt n (U b) = b := by
  unfold U
  rw [BitVec.ofInt_natCast, BitVec.ofNat_toNat, BitVec.setWidth_eq]
theorem U_inj {n : Nat} {a b : BitVec n} : U a = U b ↔ a = b := by
  unfold U
  rw [Int.ofNat_inj, ← BitVec.toNat_inj]

theorem wrap32 (x : Int) : IntKind.wrap .u32 x = x % 4294967296 := by simp [IntKind.wrap, IntKind.signed, IntKind.bits]
theorem wrap64 (x : Int) : IntKind.wrap .u64 x = x % 18446744073709551616 := by simp [IntKind.wrap, IntKind.signed, IntKind.bits]
theorem wrap8 (x : Int) : IntKind.wrap .u8 x = x % 256 := by simp [IntKind.wrap, IntKind.signed, IntKind.bits]

theorem U32 (x : Int) : IntKind.wrap .u32 x = U (BitVec.ofInt 32 x) := by
  rw [wrap32]; unfold U; rw [BitVec.toNat_ofInt]; omega
theorem U64 (x : Int) : IntKind.wrap .u64 x = U (BitVec.ofInt 64 x) := by
  rw [wrap64]; unfold U; rw [BitVec.toNat_ofInt]; omega
theorem U8 (x : Int) : IntKind.wrap .u8 x = U (BitVec.ofInt 8 x) := by
  rw [wrap8]; unfold U; rw [BitVec.toNat_ofInt]; omega

theorem ofInt_add' {n : Nat} (x y : Int) : BitVec.ofInt n (x + y) = BitVec.ofInt n x + BitVec.ofInt n y := BitVec.ofInt_add x y
theorem ofInt_toNat {n : Nat} (b : BitVec n) : BitVec.ofInt n (b.toNat : Int) = b := ofInt_U b

theorem u32_add (a b : BitVec 32) : IntKind.wrap .u32 (U a + U b) = U (a + b) := by rw [U32, BitVec.ofInt_add, ofInt_U, ofInt_U]
theorem u64_add (a b : BitVec 64) : IntKind.wrap .u64 (U a + U b) = U (a + b) := by rw [U64, BitVec.ofInt_add, ofInt_U, ofInt_U]
theorem u32_xor (a b : BitVec 32) : IntKind.wrap .u32 (BitVec.toNat (BitVec.ofInt 32 (U a) ^^^ BitVec.ofInt 32 (U b))) = U (a ^^^ b) := by rw [U32, ofInt_U, ofInt_U, ofInt_toNat]
theorem u32_and (a b : BitVec 32) : IntKind.wrap .u32 (BitVec.toNat (BitVec.ofInt 32 (U a) &&& BitVec.ofInt 32 (U b))) = U (a &&& b) := by rw [U32, ofInt_U, ofInt_U, ofInt_toNat]
theorem u32_or (a b : BitVec 32) : IntKind.wrap .u32 (BitVec.toNat (BitVec.ofInt 32 (U a) ||| BitVec.ofInt 32 (U b))) = U (a ||| b) := by rw [U32, ofInt_U, ofInt_U, ofInt_toNat]
theorem u64_or (a b : BitVec 64) : IntKind.wrap .u64 (BitVec.toNat (BitVec.ofInt 64 (U a) ||| BitVec.ofInt 64 (U b))) = U (a ||| b) := by rw [U64, ofInt_U, ofInt_U, ofInt_toNat]

theorem shl_U {n : Nat} (a : BitVec n) (m : Nat) : BitVec.ofInt n (U a * 2 ^ m) = a <<< m := by
  apply BitVec.eq_of_toNat_eq
  rw [BitVec.toNat_ofInt, BitVec.toNat_shiftLeft, Nat.shiftLeft_eq]
  unfold U
  have : ((a.toNat : Int) * 2 ^ m) = ((a.toNat * 2 ^ m : Nat) : Int) := by push_cast; rfl
  rw [this]
  rfl
theorem u32_shl (a : BitVec 32) (m : Nat) : IntKind.wrap .u32 (U a * 2 ^ m) = U (a <<< m) := by rw [U32, shl_U]
theorem u64_shl (a : BitVec 64) (m : Nat) : IntKind.wrap .u64 (U a * 2 ^ m) = U (a <<< m) := by rw [U64, shl_U]
theorem U_shr {n : Nat} (a : BitVec n) (m : Nat) : Int.fdiv (U a) (2 ^ m) = U (a >>> m) := by
  unfold U
  have : (2 : Int) ^ m = ((2 ^ m : Nat) : Int) := by push_cast; rfl
  rw [BitVec.toNat_ushiftRight, Nat.shiftRight_eq_div_pow, this, ← Int.ofNat_fdiv]

end Go.Proofs.Ytcpdiahbdmcdcaa.Ev
