/- The sum: both programs take words, turn them, spread and pad them, and sum up alike. -/
import Derived.Test.YtogehijjhibdkaaGreatEvExt
import Derived.Test.YtogehijjhibdkaaGreatEvT3
import Derived.Test.YtogehijjhibdkaaGreatEvFZ
namespace Go.Proofs.YtogehijjhibdkaaGreat.Ev
open Go Go.RowKit

def byteAt (b : List UInt8) (i : Nat) : BitVec 64 := BitVec.ofNat 64 (b.getD i 0).toNat
theorem byteAt_U (b : List UInt8) (i : Nat) : ((b.getD i 0).toNat : Int) = U (byteAt b i) := by
  unfold byteAt U
  rw [BitVec.toNat_ofNat, Nat.mod_eq_of_lt]
  have := (b.getD i 0).toNat_lt
  omega
theorem wrap_U64 (a : BitVec 64) : IntKind.wrap .u64 (U a) = U a := by rw [U64, ofInt_U]
theorem wrap_U32 (a : BitVec 32) : IntKind.wrap .u32 (U a) = U a := by rw [U32, ofInt_U]

theorem add_or (x y : BitVec 64) (h : y.toNat < 256) : x <<< 8 + y = (x <<< 8) ||| y := by
  apply BitVec.add_eq_or_of_and_eq_zero
  apply BitVec.eq_of_getLsbD_eq
  intro i hi
  rw [BitVec.getLsbD_and, BitVec.getLsbD_shiftLeft]
  by_cases h8 : i < 8
  · simp [h8]
  · have : y.getLsbD i = false := by
      show y.toNat.testBit i = false
      refine Nat.testBit_lt_two_pow (Nat.lt_of_lt_of_le h ?_)
      calc 256 = 2 ^ 8 := rfl
        _ ≤ 2 ^ i := Nat.pow_le_pow_right (by omega) (by omega)
    rw [this]; simp

/-- The number of some bytes. -/
def tk (b : List UInt8) (at_ : Nat) : Nat → BitVec 64
  | 0 => 0
  | i + 1 => (tk b at_ i <<< 8) ||| byteAt b (at_ + i)

theorem byteAt_out {b : List UInt8} {i : Nat} (h : b.length ≤ i) : byteAt b i = 0 := by
  unfold byteAt
  rw [List.getD_eq_getElem?_getD, List.getElem?_eq_none h]; rfl

theorem take_l0 (run : Run) (n : Nat) (b : List UInt8) (at_ size : Nat) (hb : b.length ≤ maxLen) (ha : at_ ≤ 1000000) (hs : size ≤ 1000) : ∀ (j k i : Nat), i + j = size → j < k →
    f141_l0 run n k b (at_ : Int) (U (tk b at_ i)) (size : Int) (i : Int) = some ⟨[.int (U (tk b at_ size))], [], false⟩ := by
  rw [maxLen_eq] at hb
  intro j
  induction j with
  | zero =>
    intro k i hi hk
    obtain ⟨k, rfl⟩ : ∃ j, k = j + 1 := ⟨k - 1, by omega⟩
    rw [Nat.add_zero] at hi
    rw [f141_l0_eq, ltI_f (by omega), hi]; rfl
  | succ j ih =>
    intro k i hi hk
    obtain ⟨k, rfl⟩ : ∃ j, k = j + 1 := ⟨k - 1, by omega⟩
    have ih' := ih k (i + 1) (by omega) (by omega)
    rw [show ((i + 1 : Nat) : Int) = (i : Int) + 1 by omega] at ih'
    rw [f141_l0_eq, ltI_t (by omega), leI_t (by omega), cond_true, cond_true, w64 (x := (i : Int) + 1) (by omega) (by omega), w64 (x := (b.length : Int) - at_) (by omega) (by omega), w64 (x := (at_ : Int) + i) (by omega) (by omega), u64_shl]
    by_cases h1 : at_ + i < b.length
    · rw [ltI_t (by omega), ltI_t (by omega), inR_yes (by omega) (by omega), show ((at_ : Int) + i).toNat = at_ + i by omega, byteAt_U, wrap_U64, u64_or]
      exact ih'
    · have e : tk b at_ (i + 1) = tk b at_ i <<< 8 := by simp only [tk]; rw [byteAt_out (by omega)]; simp
      rw [e] at ih'
      by_cases h2 : at_ < b.length
      · rw [ltI_t (by omega), ltI_f (by omega)]; exact ih'
      · rw [ltI_f (by omega)]; exact ih'

def tk32 (b : List UInt8) (at_ : Nat) : BitVec 32 := (tk b at_ 4).setWidth 32
theorem tk32_U (b : List UInt8) (at_ : Nat) : IntKind.wrap .u32 (U (tk b at_ 4)) = U (tk32 b at_) := by
  rw [wrap32]; unfold tk32 U; rw [BitVec.toNat_setWidth]; omega

theorem take_at (n : Nat) (hn : 2000 ≤ n) {b : List UInt8} (hb : b.length ≤ maxLen) {at_ size : Nat} (ha : at_ ≤ 1000000) (hs : size ≤ 1000) : runE G ext (n + 1) 141 [.str b, .int at_, .int size] = some ⟨[.int (U (tk b at_ size))], [], false⟩ := by
  rw [f141_run, f141_eq]
  exact take_l0 _ _ b at_ size hb ha hs size n 0 (by omega) (by omega)
theorem take32_at (n : Nat) (hn : 2000 ≤ n) {b : List UInt8} (hb : b.length ≤ maxLen) {at_ : Nat} (ha : at_ ≤ 1000000) : runE G ext (n + 2) 218 [.str b, .int at_] = some ⟨[.int (U (tk32 b at_))], [], false⟩ := by
  rw [f218_run, f218_eq, show ((4 : Int)) = ((4 : Nat) : Int) from rfl, take_at n hn hb ha (by omega)]
  simp only [bind_run, consV_c, nilV_n, toInt_i]
  rw [tk32_U]; rfl

/- turning -/
def rotV (x : BitVec 32) (k : Nat) : BitVec 32 := (x >>> k) ||| (x <<< (32 - k))

theorem wu64' {x : Int} (h1 : 0 ≤ x) (h2 : x < 18446744073709551616) : IntKind.wrap .u64 x = x := by rw [wrap64]; omega
theorem k31 : ∀ k : Nat, k < 32 → IntKind.wrap .u64 (BitVec.toNat (BitVec.ofInt 64 (IntKind.wrap .u64 (k : Int)) &&& BitVec.ofInt 64 31)) = (k : Int) := by decide +kernel
theorem rot_at (n : Nat) (x : BitVec 32) {k : Nat} (hk : k < 32) : runE G ext (n + 1) 210 [.int (U x), .int (k : Int)] = some ⟨[.int (U (rotV x k))], [], false⟩ := by
  rw [f210_run, f210_eq, k31 k hk, wu64' (by omega) (by omega), leI_t (by omega), leI_t (by omega), Int.toNat_natCast, show min k 32 = k by omega, show min ((32 : Int) - k).toNat 32 = 32 - k by omega, u32_shl, U_shr, u32_or]
  rfl

theorem turn_or (x : BitVec 32) {k : Nat} (hk : k < 32) : x >>> k + x <<< (32 - k) = rotV x k := by
  unfold rotV
  apply BitVec.add_eq_or_of_and_eq_zero
  apply BitVec.eq_of_getLsbD_eq
  intro i hi
  rw [BitVec.getLsbD_and, BitVec.getLsbD_shiftLeft, BitVec.getLsbD_ushiftRight]
  by_cases h : i < 32 - k
  · simp [h]
  · have : x.getLsbD (k + i) = false := BitVec.getLsbD_of_ge _ _ (by omega)
    rw [this]; simp

/- words in a row -/
def A (l : List (BitVec 32)) : List AV := l.map fun b => .int (U b)
theorem A_len (l : List (BitVec 32)) : (A l).length = l.length := by simp [A]
theorem fldA {l : List (BitVec 32)} {r : List AV} {i : Nat} (h : i < l.length) : (AV.fld (.agg (A l ++ r)) i).toInt = U (l.getD i 0) := by
  show (nth (A l ++ r) i).toInt = _
  unfold nth
  rw [List.getD_eq_getElem?_getD, List.getElem?_append_left (by rw [A_len]; exact h)]
  simp [A, h, AV.toInt]
theorem setA {l : List (BitVec 32)} {m : Nat} (w : BitVec 32) : (A l ++ List.replicate (m + 1) (AV.int 0)).set l.length (.int (U w)) = A (l ++ [w]) ++ List.replicate m (.int 0) := by
  rw [List.set_append_right _ _ (by rw [A_len]; exact Nat.le_refl _), A_len, Nat.sub_self, List.replicate_succ, List.set_cons_zero]
  simp [A]

def sg0 (x : BitVec 32) : BitVec 32 := (rotV x 7 ^^^ rotV x 18) ^^^ (x >>> 3)
def sg1 (x : BitVec 32) : BitVec 32 := (rotV x 17 ^^^ rotV x 19) ^^^ (x >>> 10)
def wordV (b : List UInt8) (l : List (BitVec 32)) (i : Nat) : BitVec 32 :=
  if i < 16 then tk32 b (4 * i) else l.getD (i - 16) 0 + sg0 (l.getD (i - 15) 0) + l.getD (i - 7) 0 + sg1 (l.getD (i - 2) 0)
/-- The first words of a block. -/
def sp (b : List UInt8) : Nat → List (BitVec 32)
  | 0 => []
  | i + 1 => sp b i ++ [wordV b (sp b i) i]
theorem sp_len (b : List UInt8) : ∀ i, (sp b i).length = i
  | 0 => rfl
  | i + 1 => by simp [sp, sp_len b i]

theorem spread_l0 (m n : Nat) (hm : 2000 ≤ m) (b : List UInt8) (hb : b.length ≤ maxLen) (o : List AV) : ∀ (j k i : Nat), i + j = 64 → j < k →
    f208_l0 (runE G ext (m + 2)) n k b (i : Int) o (A (sp b i) ++ List.replicate (64 - i) (.int 0)) = some ⟨[.agg (A (sp b 64))], [], false⟩ := by
  intro j
  induction j with
  | zero =>
    intro k i hi hk
    obtain ⟨k, rfl⟩ : ∃ j, k = j + 1 := ⟨k - 1, by omega⟩
    rw [Nat.add_zero] at hi
    subst hi
    rw [f208_l0_eq, ltI_f (by omega), Nat.sub_self, List.replicate_zero, List.append_nil]; rfl
  | succ j ih =>
    intro k i hi hk
    obtain ⟨k, rfl⟩ : ∃ j, k = j + 1 := ⟨k - 1, by omega⟩
    have ih' := ih k (i + 1) (by omega) (by omega)
    rw [show ((i + 1 : Nat) : Int) = (i : Int) + 1 by omega] at ih'
    have hs := setA (l := sp b i) (m := 64 - (i + 1)) (wordV b (sp b i) i)
    rw [sp_len, show 64 - (i + 1) + 1 = 64 - i by omega] at hs
    rw [show sp b i ++ [wordV b (sp b i) i] = sp b (i + 1) from rfl] at hs
    rw [← hs] at ih'
    rw [f208_l0_eq, ltI_t (by omega), cond_true, w64 (x := (i : Int) + 1) (by omega) (by omega)]
    by_cases h : i < 16
    · rw [ltI_t (by omega), cond_true, w64 (x := 4 * (i : Int)) (by omega) (by omega), show 4 * (i : Int) = ((4 * i : Nat) : Int) by omega, take32_at m hm hb (by omega)]
      simp only [bind_run, consV_c, nilV_n, toInt_i]
      rw [inR_nat (by omega), cond_true, Int.toNat_natCast, show tk32 b (4 * i) = wordV b (sp b i) i by simp [wordV, h]]
      exact ih'
    · have hw : wordV b (sp b i) i = (sp b i).getD (i - 16) 0 + sg0 ((sp b i).getD (i - 15) 0) + (sp b i).getD (i - 7) 0 + sg1 ((sp b i).getD (i - 2) 0) := by simp [wordV, h]
      have f1 := fldA (l := sp b i) (r := List.replicate (64 - i) (.int 0)) (i := i - 15) (by rw [sp_len]; omega)
      have f2 := fldA (l := sp b i) (r := List.replicate (64 - i) (.int 0)) (i := i - 2) (by rw [sp_len]; omega)
      have f3 := fldA (l := sp b i) (r := List.replicate (64 - i) (.int 0)) (i := i - 16) (by rw [sp_len]; omega)
      have f4 := fldA (l := sp b i) (r := List.replicate (64 - i) (.int 0)) (i := i - 7) (by rw [sp_len]; omega)
      rw [ltI_f (by omega), cond_false, w64 (x := (i : Int) - 15) (by omega) (by omega), w64 (x := (i : Int) - 2) (by omega) (by omega), w64 (x := (i : Int) - 16) (by omega) (by omega), w64 (x := (i : Int) - 7) (by omega) (by omega),
        show ((i : Int) - 15).toNat = i - 15 by omega, show ((i : Int) - 2).toNat = i - 2 by omega, show ((i : Int) - 16).toNat = i - 16 by omega, show ((i : Int) - 7).toNat = i - 7 by omega, f1, f2, f3, f4,
        show (7 : Int) = ((7 : Nat) : Int) from rfl, show (18 : Int) = ((18 : Nat) : Int) from rfl, show (17 : Int) = ((17 : Nat) : Int) from rfl, show (19 : Int) = ((19 : Nat) : Int) from rfl,
        rot_at (m + 1) _ (by omega), rot_at (m + 1) _ (by omega), rot_at (m + 1) _ (by omega), rot_at (m + 1) _ (by omega)]
      simp only [bind_run, consV_c, nilV_n, toInt_i]
      rw [inR_yes (i := (i : Int) - 15) (by omega) (by omega), inR_yes (i := (i : Int) - 2) (by omega) (by omega), inR_yes (i := (i : Int) - 16) (by omega) (by omega), inR_yes (i := (i : Int) - ((7 : Nat) : Int)) (by omega) (by omega), inR_nat (by omega), Int.toNat_natCast]
      simp only [cond_true, U_shr, u32_xor, u32_add]
      rw [hw] at ih'
      exact ih'

theorem spread_at (m : Nat) (hm : 2000 ≤ m) {b : List UInt8} (hb : b.length ≤ maxLen) : runE G ext (m + 3) 208 [.str b] = some ⟨[.agg (A (sp b 64))], [], false⟩ := by
  rw [f208_run, f208_eq]
  exact spread_l0 m _ hm b hb _ 64 _ 0 (by omega) (by omega)

end Go.Proofs.YtogehijjhibdkaaGreat.Ev

namespace Go.Proofs.YtogehijjhibdkaaGreat.Ev
open Go Go.RowKit

/- the reference's words -/
/- rounds -/
def klN : List Int := [1116352408, 1899447441, 3049323471, 3921009573, 961987163, 1508970993, 2453635748, 2870763221, 3624381080, 310598401, 607225278, 1426881987, 1925078388, 2162078206, 2614888103, 3248222580, 3835390401, 4022224774, 264347078, 604807628, 770255983, 1249150122, 1555081692, 1996064986, 2554220882, 2821834349, 2952996808, 3210313671, 3336571891, 3584528711, 113926993, 338241895, 666307205, 773529912, 1294757372, 1396182291, 1695183700, 1986661051, 2177026350, 2456956037, 2730485921, 2820302411, 3259730800, 3345764771, 3516065817, 3600352804, 4094571909, 275423344, 430227734, 506948616, 659060556, 883997877, 958139571, 1322822218, 1537002063, 1747873779, 1955562222, 2024104815, 2227730452, 2361852424, 2428436474, 2756734187, 3204031479, 3329325298]
def kl : List (BitVec 32) := klN.map (BitVec.ofInt 32)
theorem kl_A : A kl = klN.map AV.int := by kernel_rfl
theorem kl_len : kl.length = 64 := rfl

def rnd (k w : BitVec 32) : List (BitVec 32) → List (BitVec 32)
  | [a, b, c, d, e, f, g, h] =>
    [h + ((rotV e 6 ^^^ rotV e 11) ^^^ rotV e 25) + ((e &&& f) ^^^ (~~~e &&& g)) + k + w + ((rotV a 2 ^^^ rotV a 13) ^^^ rotV a 22) + (((a &&& b) ^^^ (a &&& c)) ^^^ (b &&& c)), a, b, c,
      d + (h + ((rotV e 6 ^^^ rotV e 11) ^^^ rotV e 25) + ((e &&& f) ^^^ (~~~e &&& g)) + k + w), e, f, g]
  | l => l
def rds (w : List (BitVec 32)) : Nat → Nat → List (BitVec 32) → List (BitVec 32)
  | 0, _, s => s
  | j + 1, i, s => rds w j (i + 1) (rnd (kl.getD i 0) (w.getD i 0) s)

theorem len8 {α : Type} {s : List α} (h : s.length = 8) : ∃ a b c d e f g i, s = [a, b, c, d, e, f, g, i] := by
  match s, h with
  | [a, b, c, d, e, f, g, i], _ => exact ⟨a, b, c, d, e, f, g, i, rfl⟩
theorem rnd_len (k w : BitVec 32) {s : List (BitVec 32)} (h : s.length = 8) : (rnd k w s).length = 8 := by
  obtain ⟨a, b, c, d, e, f, g, i, rfl⟩ := len8 h; rfl
theorem rds_len (w : List (BitVec 32)) : ∀ (j i : Nat) (s : List (BitVec 32)), s.length = 8 → (rds w j i s).length = 8
  | 0, _, _, h => h
  | j + 1, i, _, h => rds_len w j (i + 1) _ (rnd_len _ _ h)

theorem fldA' {l : List (BitVec 32)} {i : Nat} (h : i < l.length) : (AV.fld (.agg (A l)) i).toInt = U (l.getD i 0) := by
  have := fldA (l := l) (r := []) h
  rwa [List.append_nil] at this

def addN (i : Nat) (h v : List (BitVec 32)) : List (BitVec 32) := (List.range 8).map fun j => if j < i then h.getD j 0 + v.getD j 0 else h.getD j 0
theorem addN_len (i : Nat) (h v : List (BitVec 32)) : (addN i h v).length = 8 := by simp [addN]
theorem addN_zero {h : List (BitVec 32)} (v : List (BitVec 32)) (hl : h.length = 8) : addN 0 h v = h := by
  apply List.ext_getElem
  · simp [addN, hl]
  · intro j h1 h2; simp [addN, h2]
theorem addN_get {i : Nat} (h v : List (BitVec 32)) (hi : i < 8) : (addN i h v).getD i 0 = h.getD i 0 := by
  simp [addN, hi]
theorem addN_set {i : Nat} (h v : List (BitVec 32)) (_hi : i < 8) : (A (addN i h v)).set i (.int (U (h.getD i 0 + v.getD i 0))) = A (addN (i + 1) h v) := by
  apply List.ext_getElem
  · simp [A, addN]
  · intro j h1 h2
    have hj : j < 8 := by simpa [A, addN] using h2
    rw [List.getElem_set]
    by_cases e : i = j
    · subst e
      simp [A, addN]
    · rw [if_neg e]
      by_cases hji : j < i
      · simp [A, addN, hji, show j < i + 1 by omega]
      · simp [A, addN, hji, show ¬ j < i + 1 by omega]

theorem mix_l2 (run : Run) (n k0 : Nat) (h v : List (BitVec 32)) (hv : v.length = 8) (o : List AV) : ∀ (j k i : Nat), i + j = 8 → j < k →
    f193_l2 run n k0 k (i : Int) (A (addN i h v)) o (A v) = some ⟨[.agg (A (addN 8 h v))], [], false⟩ := by
  intro j
  induction j with
  | zero =>
    intro k i hi hk
    obtain ⟨k, rfl⟩ : ∃ j, k = j + 1 := ⟨k - 1, by omega⟩
    rw [Nat.add_zero] at hi
    subst hi
    rw [f193_l2_eq, ltI_f (by omega)]; rfl
  | succ j ih =>
    intro k i hi hk
    obtain ⟨k, rfl⟩ : ∃ j, k = j + 1 := ⟨k - 1, by omega⟩
    have ih' := ih k (i + 1) (by omega) (by omega)
    rw [show ((i + 1 : Nat) : Int) = (i : Int) + 1 by omega, ← addN_set h v (by omega)] at ih'
    rw [f193_l2_eq, ltI_t (by omega), inR_nat (by omega), w64 (x := (i : Int) + 1) (by omega) (by omega), Int.toNat_natCast, fldA' (by rw [addN_len]; omega), fldA' (by omega), addN_get h v (by omega), u32_add]
    exact ih'

theorem u32_not (a : BitVec 32) : IntKind.wrap .u32 (BitVec.toNat (BitVec.ofInt 32 4294967295 ^^^ BitVec.ofInt 32 (U a))) = U (~~~ a) := by
  rw [U32, ofInt_U, ofInt_toNat, show BitVec.ofInt 32 4294967295 = BitVec.allOnes 32 from by decide +kernel, BitVec.allOnes_xor]
theorem u32_not' (a : BitVec 32) : IntKind.wrap .u32 (4294967295 - U a) = U (~~~ a) := by
  have h := a.isLt
  rw [wrap32]; unfold U; rw [BitVec.toNat_not]; omega

theorem mix_l0 (m n : Nat) (hn : 100 ≤ n) (w h0 : List (BitVec 32)) (hw : w.length = 64) (hh : h0.length = 8) (o4 : List AV) : ∀ (j k i : Nat) (s : List (BitVec 32)), i + j = 64 → j < k → s.length = 8 →
    f193_l0 (runE G ext (m + 1)) n k (i : Int) (A h0) o4 (A w) (A kl) (A s) = some ⟨[.agg (A (addN 8 h0 (rds w j i s)))], [], false⟩ := by
  intro j
  induction j with
  | zero =>
    intro k i s hi hk hs
    obtain ⟨k, rfl⟩ : ∃ j, k = j + 1 := ⟨k - 1, by omega⟩
    rw [f193_l0_eq, ltI_f (by omega), cond_false]
    have := mix_l2 (runE G ext (m + 1)) n k h0 s hs o4 8 n 0 (by omega) (by omega)
    rw [addN_zero _ hh] at this
    exact this
  | succ j ih =>
    intro k i s hi hk hs
    obtain ⟨k, rfl⟩ : ∃ j, k = j + 1 := ⟨k - 1, by omega⟩
    have ih' := ih k (i + 1) (rnd (kl.getD i 0) (w.getD i 0) s) (by omega) (by omega) (rnd_len _ _ hs)
    rw [show ((i + 1 : Nat) : Int) = (i : Int) + 1 by omega] at ih'
    have fk := fldA' (l := kl) (i := i) (by rw [kl_len]; omega)
    have fw := fldA' (l := w) (i := i) (by omega)
    obtain ⟨a, b, c, d, e, f, g, h, rfl⟩ := len8 hs
    have e0 : (AV.fld (.agg (A [a, b, c, d, e, f, g, h])) 0).toInt = U a := rfl
    have e1 : (AV.fld (.agg (A [a, b, c, d, e, f, g, h])) 1).toInt = U b := rfl
    have e2 : (AV.fld (.agg (A [a, b, c, d, e, f, g, h])) 2).toInt = U c := rfl
    have e3 : (AV.fld (.agg (A [a, b, c, d, e, f, g, h])) 3).toInt = U d := rfl
    have e4 : (AV.fld (.agg (A [a, b, c, d, e, f, g, h])) 4).toInt = U e := rfl
    have e5 : (AV.fld (.agg (A [a, b, c, d, e, f, g, h])) 5).toInt = U f := rfl
    have e6 : (AV.fld (.agg (A [a, b, c, d, e, f, g, h])) 6).toInt = U g := rfl
    have e7 : (AV.fld (.agg (A [a, b, c, d, e, f, g, h])) 7).toInt = U h := rfl
    have r1 : runE G ext (m + 1) 210 [.int (U e), .int 6] = some ⟨[.int (U (rotV e 6))], [], false⟩ := rot_at m e (k := 6) (by omega)
    have r2 : runE G ext (m + 1) 210 [.int (U e), .int 11] = some ⟨[.int (U (rotV e 11))], [], false⟩ := rot_at m e (k := 11) (by omega)
    have r3 : runE G ext (m + 1) 210 [.int (U e), .int 25] = some ⟨[.int (U (rotV e 25))], [], false⟩ := rot_at m e (k := 25) (by omega)
    have r4 : runE G ext (m + 1) 210 [.int (U a), .int 2] = some ⟨[.int (U (rotV a 2))], [], false⟩ := rot_at m a (k := 2) (by omega)
    have r5 : runE G ext (m + 1) 210 [.int (U a), .int 13] = some ⟨[.int (U (rotV a 13))], [], false⟩ := rot_at m a (k := 13) (by omega)
    have r6 : runE G ext (m + 1) 210 [.int (U a), .int 22] = some ⟨[.int (U (rotV a 22))], [], false⟩ := rot_at m a (k := 22) (by omega)
    rw [f193_l0_eq, ltI_t (by omega), cond_true, w64 (x := (i : Int) + 1) (by omega) (by omega), e0, e1, e2, e3, e4, e5, e6, e7, r1, r2, r3, r4, r5, r6, inR_nat (by omega), Int.toNat_natCast, fk, fw]
    simp only [bind_run, consV_c, nilV_n, toInt_i, cond_true, u32_not, u32_xor, u32_and, u32_add]
    exact ih'

/-- A block, laid into eight words. -/
def mixV (s : List (BitVec 32)) (b : List UInt8) : List (BitVec 32) := addN 8 s (rds (sp b 64) 64 0 s)
theorem mixV_len (s : List (BitVec 32)) (b : List UInt8) : (mixV s b).length = 8 := addN_len _ _ _

theorem mix_at (m : Nat) (hm : 2000 ≤ m) {s : List (BitVec 32)} {b : List UInt8} (hs : s.length = 8) (hb : b.length ≤ maxLen) : runE G ext (m + 4) 193 [.agg (A s), .str b] = some ⟨[.agg (A (mixV s b))], [], false⟩ := by
  have h2 : runE G ext (m + 3) 209 [] = some ⟨[.agg (A kl)], [], false⟩ := by
    rw [f209_run, f209_eq, kl_A]; kernel_rfl
  rw [f193_run, f193_eq, spread_at m hm hb, bind_run, nilV_n, consV_c, nilV_n, h2, bind_run, nilV_n, consV_c, nilV_n, toAgg_a, toAgg_a]
  unfold mixV
  exact mix_l0 (m + 2) (m + 3) (by omega) (sp b 64) s (sp_len b 64) hs _ 64 (m + 3) 0 s (by omega) (by omega) hs

/- the reference's rounds -/
def shiftN : Nat → List AV → List AV
  | 0, l => l
  | i + 1, l => shiftN i (l.set (i + 1) (.int (AV.fld (.agg l) i).toInt))

theorem addN_comm (h v : List (BitVec 32)) : addN 8 h v = addN 8 v h := by
  unfold addN
  apply List.map_congr_left
  intro j hj
  have : j < 8 := by simpa using hj
  rw [if_pos this, if_pos this, BitVec.add_comm]

end Go.Proofs.YtogehijjhibdkaaGreat.Ev

namespace Go.Proofs.YtogehijjhibdkaaGreat.Ev
open Go Go.RowKit

def byteOf (y : BitVec 64) : UInt8 := UInt8.ofNat (y.toNat % 256)
theorem byteOf_toNat (y : BitVec 64) : ((byteOf y).toNat : Int) = U y % 256 := by
  unfold byteOf U
  rw [UInt8.toNat_ofNat_of_lt' (by simp [UInt8.size]; omega)]
  omega
/-- A number's last bytes, the highest first. -/
def bs (x : BitVec 64) : Nat → List UInt8
  | 0 => []
  | i + 1 => byteOf (x >>> (8 * i)) :: bs x i
theorem bs_len (x : BitVec 64) : ∀ i, (bs x i).length = i
  | 0 => rfl
  | i + 1 => by simp [bs, bs_len x i]

def B (l : List UInt8) : List AV := l.map fun c => .int (c.toNat : Int)
theorem bytesOf_B (l : List UInt8) : bytesOf (B l) = l := by
  unfold bytesOf B
  rw [List.map_map]
  conv => rhs; rw [← List.map_id l]
  apply List.map_congr_left
  intro c _
  simp [AV.toInt]
theorem set_rep (r : Nat) (z v : AV) (l : List AV) : (List.replicate (r + 1) z ++ l).set r v = List.replicate r z ++ (v :: l) := by
  apply List.ext_getElem
  · simp; omega
  · intro i h1 h2
    rw [List.getElem_set]
    by_cases e : r = i
    · subst e
      rw [if_pos rfl, List.getElem_append_right (by simp)]
      simp
    · rw [if_neg e]
      by_cases hi : i < r
      · rw [List.getElem_append_left (by simp; omega), List.getElem_append_left (by simp; omega)]; simp
      · rw [List.getElem_append_right (by simp; omega), List.getElem_append_right (by simp; omega)]
        simp only [List.length_replicate]
        rw [List.getElem_cons]
        rw [dif_neg (by omega)]
        congr 1

theorem put_l0 (run : Run) (n : Nat) (x : BitVec 64) (m : Nat) (hm : m ≤ 1000) : ∀ (j k i : Nat), i + j = m → j < k →
    f174_l0 run n k (U (x >>> (8 * i))) (m : Int) m (m : Int) (i : Int) (List.replicate (m - i) (.int 0) ++ B (bs x i)) = some ⟨[.str (bs x m)], [], false⟩ := by
  intro j
  induction j with
  | zero =>
    intro k i hi hk
    obtain ⟨k, rfl⟩ : ∃ j, k = j + 1 := ⟨k - 1, by omega⟩
    rw [Nat.add_zero] at hi
    subst hi
    rw [f174_l0_eq, ltI_f (by omega), cond_false, Nat.sub_self, List.replicate_zero, List.nil_append, List.drop_zero, List.take_of_length_le (by simp [B, bs_len]), bytesOf_B]
    rfl
  | succ j ih =>
    intro k i hi hk
    obtain ⟨k, rfl⟩ : ∃ j, k = j + 1 := ⟨k - 1, by omega⟩
    have ih' := ih k (i + 1) (by omega) (by omega)
    rw [show ((i + 1 : Nat) : Int) = (i : Int) + 1 by omega] at ih'
    have e1 : x >>> (8 * (i + 1)) = (x >>> (8 * i)) >>> 8 := by rw [← BitVec.shiftRight_add]; congr 1
    have e2 : IntKind.wrap .u8 (U (x >>> (8 * i))) = ((byteOf (x >>> (8 * i))).toNat : Int) := by rw [wrap8, byteOf_toNat]
    have e3 := set_rep (m - (i + 1)) (.int 0) (.int ((byteOf (x >>> (8 * i))).toNat : Int)) (B (bs x i))
    rw [show m - (i + 1) + 1 = m - i by omega, show AV.int ((byteOf (x >>> (8 * i))).toNat : Int) :: B (bs x i) = B (bs x (i + 1)) from rfl] at e3
    rw [e1, ← U_shr, ← e3] at ih'
    rw [f174_l0_eq, ltI_t (by omega), cond_true, w64 (x := (m : Int) - 1) (by omega) (by omega), w64 (x := (m : Int) - 1 - i) (by omega) (by omega), w64 (x := (i : Int) + 1) (by omega) (by omega), inR_yes (by omega) (by omega), cond_true, show ((m : Int) - 1 - i).toNat = m - (i + 1) by omega, Nat.zero_add, e2]
    exact ih'

theorem put_at (n : Nat) (hn : 2000 ≤ n) (x : BitVec 64) {m : Nat} (hm : m ≤ 1000) : runE G ext (n + 1) 174 [.int (U x), .int m] = some ⟨[.str (bs x m)], [], false⟩ := by
  rw [f174_run, f174_eq, eqI_t rfl, leI_t (by omega), Int.toNat_natCast, show Nat.ble (m * 1) 140737488355328 = true from Nat.ble_eq_true_of_le (by omega)]
  have := put_l0 (runE G ext n) n x m hm m n 0 (by omega) (by omega)
  rw [Nat.mul_zero, BitVec.ushiftRight_zero, Nat.sub_zero, show B (bs x 0) = [] from rfl, List.append_nil] at this
  exact this

/- what stands behind a text -/
def gapV (n : Nat) : Nat := (119 - n % 64) % 64
def padV (n : Nat) : List UInt8 := ([128] ++ List.replicate (gapV n) 0) ++ bs (BitVec.ofNat 64 (8 * n)) 8
theorem padV_len (n : Nat) : (padV n).length = gapV n + 9 := by simp [padV, bs_len]

theorem repeatL_rep : ∀ c : Nat, Lib.repeatL [0] c = List.replicate c 0
  | 0 => rfl
  | c + 1 => by simp [Lib.repeatL, repeatL_rep c, List.replicate_succ]

theorem ext_repeat (s : List UInt8) (c : Int) (h0 : 0 ≤ c) (h1 : c < 1048576) (hs : s.length ≤ 1048576) (n : Nat) : runE G ext n 211 [.str s, .int c] = some ⟨[.str (Lib.repeatL s c.toNat)], [], false⟩ := by
  refine ext_at ?_ n
  show repeatX [.str s, .int c] = _
  unfold repeatX
  simp only [toInt_i, toStr_s]
  rw [leI_t h0, ltI_t h1, show Nat.ble s.length 1048576 = true from Nat.ble_eq_true_of_le hs]
  rfl

theorem pad_at (m : Nat) (hm : 2000 ≤ m) {n : Nat} (hn : n ≤ 1152921504606846976) : runE G ext (m + 3) 194 [.int (n : Int)] = some ⟨[.str (padV n)], [], false⟩ := by
  have e1 : Int.tmod (n : Int) 64 = ((n % 64 : Nat) : Int) := by rw [Int.tmod_eq_emod_of_nonneg (by omega)]; omega
  have e2 : IntKind.wrap .u64 (119 - ((n % 64 : Nat) : Int)) = ((119 - n % 64 : Nat) : Int) := by rw [wrap64]; omega
  have e3 : Int.tmod ((119 - n % 64 : Nat) : Int) 64 = ((gapV n : Nat) : Int) := by unfold gapV; rw [Int.tmod_eq_emod_of_nonneg (by omega)]; omega
  have hg : gapV n < 64 := by unfold gapV; omega
  have e4 : IntKind.wrap .u64 (8 * (n : Int)) = U (BitVec.ofNat 64 (8 * n)) := by unfold U; rw [wrap64, BitVec.toNat_ofNat]; omega
  have hp : runE G ext (m + 2) 145 [.int (U (BitVec.ofNat 64 (8 * n)))] = some ⟨[.str (bs (BitVec.ofNat 64 (8 * n)) 8)], [], false⟩ := by
    have := put_at m hm (BitVec.ofNat 64 (8 * n)) (m := 8) (by omega)
    rw [f145_run, f145_eq, show (8 : Int) = ((8 : Nat) : Int) from rfl, this]
    rfl
  have hr := ext_repeat [0] (gapV n : Int) (by omega) (by omega) (by simp) (m + 2)
  rw [f194_run, f194_eq, e1, e2, e3, w64 (by omega) (by omega), hr, bind_run, nilV_n, consV_c, nilV_n, toStr_s, Int.toNat_natCast, repeatL_rep,
    show Nat.ble (1 + (List.replicate (gapV n) (0 : UInt8)).length) maxLen = true from Nat.ble_eq_true_of_le (by rw [maxLen_eq]; simp; omega), cond_true, e4, hp, bind_run, nilV_n, consV_c, nilV_n, toStr_s,
    show Nat.ble (([(128 : UInt8)] ++ List.replicate (gapV n) (0 : UInt8)).length + (bs (BitVec.ofNat 64 (8 * n)) 8).length) maxLen = true from Nat.ble_eq_true_of_le (by rw [maxLen_eq, bs_len]; simp; omega), cond_true]
  rfl

end Go.Proofs.YtogehijjhibdkaaGreat.Ev

namespace Go.Proofs.YtogehijjhibdkaaGreat.Ev
open Go Go.RowKit

def fsN : List Int := [1779033703, 3144134277, 1013904242, 2773480762, 1359893119, 2600822924, 528734635, 1541459225]
def fs : List (BitVec 32) := fsN.map (BitVec.ofInt 32)
theorem fs_A : A fs = fsN.map AV.int := by kernel_rfl
theorem fs_len : fs.length = 8 := rfl

/-- Blocks of a text, from one on. -/
def blocksV (l : List UInt8) : Nat → Nat → List (BitVec 32) → List (BitVec 32)
  | 0, _, s => s
  | j + 1, at_, s => blocksV l j (at_ + 64) (mixV s ((l.take (at_ + 64)).drop at_))
theorem blocksV_len (l : List UInt8) : ∀ (j at_ : Nat) (s : List (BitVec 32)), s.length = 8 → (blocksV l j at_ s).length = 8
  | 0, _, _, h => h
  | j + 1, _, _, _ => blocksV_len l j _ _ (mixV_len _ _)
theorem blocks_split (l : List UInt8) : ∀ (i j at_ : Nat) (s : List (BitVec 32)), blocksV l (i + j) at_ s = blocksV l j (at_ + 64 * i) (blocksV l i at_ s)
  | 0, j, at_, s => by simp [blocksV]
  | i + 1, j, at_, s => by
    rw [show i + 1 + j = (i + j) + 1 by omega]
    simp only [blocksV]
    rw [blocks_split l i j (at_ + 64), show at_ + 64 + 64 * i = at_ + 64 * (i + 1) by omega]
theorem blocks_app (b p : List UInt8) : ∀ (j at_ : Nat) (s : List (BitVec 32)), at_ + 64 * j ≤ b.length → blocksV (b ++ p) j at_ s = blocksV b j at_ s
  | 0, _, _, _ => rfl
  | j + 1, at_, s, h => by
    simp only [blocksV]
    rw [List.take_append_of_le_length (by omega), blocks_app b p j (at_ + 64) _ (by omega)]
theorem blocks_drop (l : List UInt8) (c : Nat) : ∀ (j at_ : Nat) (s : List (BitVec 32)), blocksV (l.drop c) j at_ s = blocksV l j (c + at_) s
  | 0, _, _ => rfl
  | j + 1, at_, s => by
    simp only [blocksV]
    rw [List.take_drop, List.drop_drop, blocks_drop l c j (at_ + 64), show c + (at_ + 64) = c + at_ + 64 by omega]

/- writing -/
theorem write_l0 (m n : Nat) (hm : 2000 ≤ m) (l : List UInt8) (hl : l.length ≤ 4611686018427387904) (o3 : Int) (o4 : Bool) : ∀ (j k at_ : Nat) (s : List (BitVec 32)), (l.length - at_) / 64 = j → at_ ≤ l.length → j < k → s.length = 8 →
    f171_l0 (runE G ext (m + 4)) n k (at_ : Int) (A s) l o3 o4 = some ⟨[], [.agg [.agg (A (blocksV l j at_ s)), .str (l.drop (at_ + 64 * j)), .int o3, .bool o4]], false⟩ := by
  intro j
  induction j with
  | zero =>
    intro k at_ s hj hat hk hs
    obtain ⟨k, rfl⟩ : ∃ j, k = j + 1 := ⟨k - 1, by omega⟩
    have hb : boundsOk (at_ : Int) (l.length : Int) (l.length : Int) (l.length : Int) = true := by simp [boundsOk]; omega
    rw [f171_l0_eq, w64 (x := (l.length : Int) - at_) (by omega) (by omega), leI_f (by omega), cond_false, hb, cond_true, Int.toNat_natCast, Int.toNat_natCast, List.take_length]
    rfl
  | succ j ih =>
    intro k at_ s hj hat hk hs
    obtain ⟨k, rfl⟩ : ∃ j, k = j + 1 := ⟨k - 1, by omega⟩
    have ih' := ih k (at_ + 64) (mixV s ((l.take (at_ + 64)).drop at_)) (by omega) (by omega) (by omega) (mixV_len _ _)
    rw [show ((at_ + 64 : Nat) : Int) = (at_ : Int) + 64 by omega] at ih'
    have hb : boundsOk (at_ : Int) ((at_ : Int) + 64) (l.length : Int) (l.length : Int) = true := by simp [boundsOk]; omega
    rw [f171_l0_eq, w64 (x := (l.length : Int) - at_) (by omega) (by omega), leI_t (by omega), cond_true, w64 (x := (at_ : Int) + 64) (by omega) (by omega), hb, cond_true, Int.toNat_natCast, show ((at_ : Int) + 64).toNat = at_ + 64 by omega,
      mix_at m hm hs (by rw [maxLen_eq]; simp; omega), bind_run, nilV_n, consV_c, nilV_n, toAgg_a, ih']
    simp only [blocksV]
    rw [show at_ + 64 + 64 * j = at_ + 64 * (j + 1) by omega]

/-- A sum's state behind some bytes. -/
def stateV (s : List (BitVec 32)) (rest : List UInt8) (n : Int) (on : Bool) : AV := .agg [.agg (A s), .str rest, .int n, .bool on]

theorem write_on (n : Nat) {s : List (BitVec 32)} {rest b : List UInt8} (hs : s.length = 8) (hb : rest.length + b.length ≤ 1152921504606846976) (N : Nat) (hN : N + b.length ≤ 1152921504606846976) (hn : rest.length + b.length + 3000 ≤ n) :
    runE G ext (n + 1) 171 [stateV s rest (N : Int) true, .str b] = some ⟨[], [stateV (blocksV (rest ++ b) ((rest ++ b).length / 64) 0 s) ((rest ++ b).drop (64 * ((rest ++ b).length / 64))) ((N + b.length : Nat) : Int) true], false⟩ := by
  obtain ⟨m, rfl⟩ : ∃ m, n = m + 4 := ⟨n - 4, by omega⟩
  unfold stateV
  have e1 : IntKind.wrap .u64 ((N : Int) + IntKind.wrap .u64 (b.length : Int)) = ((N + b.length : Nat) : Int) := by rw [wrap64, wrap64]; omega
  have hlen : (rest ++ b).length = rest.length + b.length := by simp
  rw [f171_run, f171_eq, not_t, cond_false, show Nat.ble (rest.length + b.length) maxLen = true from Nat.ble_eq_true_of_le (by rw [maxLen_eq]; omega), cond_true, e1]
  have := write_l0 m (m + 4) (by omega) (rest ++ b) (by omega) ((N + b.length : Nat) : Int) true ((rest ++ b).length / 64) (m + 4) 0 s (by simp) (by omega) (by omega) hs
  rw [Nat.zero_add] at this
  exact this

theorem write_off (n : Nat) {b : List UInt8} (l0 : List AV) (hb : b.length ≤ 1152921504606846976) (hn : b.length + 3000 ≤ n) :
    runE G ext (n + 1) 171 [.agg [.agg l0, .str [], .int 0, .bool false], .str b] = some ⟨[], [stateV (blocksV b (b.length / 64) 0 fs) (b.drop (64 * (b.length / 64))) (b.length : Int) true], false⟩ := by
  obtain ⟨m, rfl⟩ : ∃ m, n = m + 4 := ⟨n - 4, by omega⟩
  unfold stateV
  have e1 : IntKind.wrap .u64 ((0 : Int) + IntKind.wrap .u64 (b.length : Int)) = (b.length : Int) := by rw [wrap64, wrap64]; omega
  have hf : runE G ext (m + 4) 192 [] = some ⟨[.agg (A fs)], [], false⟩ := by
    rw [f192_run, f192_eq, fs_A]; kernel_rfl
  rw [f171_run, f171_eq, not_f, cond_true, hf, bind_run, nilV_n, consV_c, nilV_n, toAgg_a, show Nat.ble (([] : List UInt8).length + b.length) maxLen = true from Nat.ble_eq_true_of_le (by rw [maxLen_eq]; simp; omega), cond_true, e1, List.nil_append]
  have := write_l0 m (m + 4) (by omega) b (by omega) (b.length : Int) true (b.length / 64) (m + 4) 0 fs (by simp) (by omega) (by omega) fs_len
  rw [Nat.zero_add] at this
  exact this

/- the words, as bytes -/
def wordB (x : BitVec 32) : List UInt8 := bs (x.setWidth 64) 4
def outV (w : List (BitVec 32)) : List UInt8 := (w.map wordB).flatten
theorem outV_len : ∀ w : List (BitVec 32), (outV w).length = 4 * w.length
  | [] => rfl
  | x :: w => by
    have := outV_len w
    unfold outV at this ⊢
    simp only [List.map_cons, List.flatten_cons, List.length_append, List.length_cons, this, wordB, bs_len]
    omega
theorem outV_snoc (w : List (BitVec 32)) (x : BitVec 32) : outV (w ++ [x]) = outV w ++ wordB x := by simp [outV]

theorem U_set (x : BitVec 32) : IntKind.wrap .u64 (U x) = U (x.setWidth 64) := by
  have := x.isLt
  rw [wrap64]; unfold U; rw [BitVec.toNat_setWidth]; omega
theorem put32_at (m : Nat) (hm : 2000 ≤ m) (x : BitVec 32) : runE G ext (m + 2) 144 [.int (U x)] = some ⟨[.str (wordB x)], [], false⟩ := by
  have h : runE G ext (m + 1) 174 [.int (U (x.setWidth 64)), .int 4] = some ⟨[.str (wordB x)], [], false⟩ := put_at m hm _ (m := 4) (by omega)
  rw [f144_run, f144_eq, U_set, h]; rfl

theorem splice_bytes (o x : List UInt8) (k : Nat) : bytesOf (splice (ofBytes o) k (ofBytes x)) = o.take k ++ (x ++ o.drop (k + x.length)) := by
  have e : splice (ofBytes o) k (ofBytes x) = B (o.take k ++ (x ++ o.drop (k + x.length))) := by
    simp [splice, ofBytes, B, List.map_take, List.map_drop]
  rw [e, bytesOf_B]

theorem take_get (w : List (BitVec 32)) {i : Nat} (h : i < w.length) : w.take (i + 1) = w.take i ++ [w.getD i 0] := by
  rw [List.take_succ_eq_append_getElem h]; simp [h]

theorem sum_l0 (m n : Nat) (hm : 2000 ≤ m) (w : List (BitVec 32)) (hw : w.length = 8) (o1 : List AV) (o2 : List UInt8) (o3 : Int) (o4 : Bool) (o5 : List UInt8) : ∀ (j k i : Nat), i + j = 8 → j < k →
    f172_l0 (runE G ext (m + 2)) n k (A w) (i : Int) o1 o2 o3 o4 o5 (outV (w.take i) ++ List.replicate (32 - 4 * i) 0) = some ⟨[.blob (outV w)], [.agg [.agg o1, .str o2, .int o3, .bool o4]], false⟩ := by
  intro j
  induction j with
  | zero =>
    intro k i hi hk
    obtain ⟨k, rfl⟩ : ∃ j, k = j + 1 := ⟨k - 1, by omega⟩
    rw [Nat.add_zero] at hi
    subst hi
    rw [f172_l0_eq, ltI_f (by omega), cond_false, List.take_of_length_le (by omega), Nat.sub_self, List.replicate_zero, List.append_nil]
    rfl
  | succ j ih =>
    intro k i hi hk
    obtain ⟨k, rfl⟩ : ∃ j, k = j + 1 := ⟨k - 1, by omega⟩
    have ih' := ih k (i + 1) (by omega) (by omega)
    rw [show ((i + 1 : Nat) : Int) = (i : Int) + 1 by omega] at ih'
    have hb : boundsOk (4 * (i : Int)) (4 * (i : Int) + 4) (4 * (i : Int) + 4) 32 = true := by simp [boundsOk]; omega
    have hl : (outV (w.take i)).length = 4 * i := by rw [outV_len]; simp; omega
    have hx : (wordB (w.getD i 0)).length = 4 := bs_len _ _
    have e : bytesOf (splice (ofBytes (outV (w.take i) ++ List.replicate (32 - 4 * i) 0)) (4 * i) (List.take 4 (ofBytes (wordB (w.getD i 0))))) = outV (w.take (i + 1)) ++ List.replicate (32 - 4 * (i + 1)) 0 := by
      rw [List.take_of_length_le (l := ofBytes (wordB (w.getD i 0))) (i := 4) (by unfold ofBytes; rw [List.length_map]; omega), splice_bytes, List.take_append_of_le_length (by omega), List.take_of_length_le (l := outV (w.take i)) (by omega), take_get w (by omega), outV_snoc, hx, List.append_assoc]
      congr 2
      rw [List.drop_append, List.drop_eq_nil_of_le (by omega), List.nil_append, hl, List.drop_replicate]
      congr 1
      omega
    rw [f172_l0_eq, ltI_t (by omega), cond_true, inR_nat (by omega), cond_true, w64 (x := 4 * (i : Int)) (by omega) (by omega), w64 (x := 4 * (i : Int) + 4) (by omega) (by omega), w64 (x := (i : Int) + 1) (by omega) (by omega), hb, Bool.and_true, cond_true, Int.toNat_natCast, fldA' (by omega), put32_at m hm, bind_run, nilV_n, consV_c, nilV_n, toStr_s,
      show (4 * (i : Int)).toNat = 4 * i by omega, show (4 * (i : Int) + 4).toNat = 4 * i + 4 by omega, Nat.add_sub_cancel_left, e]
    exact ih'

theorem sum_on (n : Nat) {s : List (BitVec 32)} {rest : List UInt8} (hs : s.length = 8) (N : Nat) (hr : rest.length ≤ 1152921504606840000) (hN : N ≤ 1152921504606840000) (hn : rest.length + 5000 ≤ n) :
    runE G ext (n + 1) 172 [stateV s rest (N : Int) true] = some ⟨[.blob (outV (blocksV (rest ++ padV N) ((rest ++ padV N).length / 64) 0 s))], [stateV s rest (N : Int) true], false⟩ := by
  obtain ⟨m, rfl⟩ : ∃ m, n = m + 4 := ⟨n - 4, by omega⟩
  have hg : gapV N < 64 := by unfold gapV; omega
  have hp := pad_at (m + 1) (by omega) (n := N) (by omega)
  have hw := write_on (m + 3) (s := s) (rest := rest) (b := padV N) hs (by rw [padV_len]; omega) N (by rw [padV_len]; omega) (by rw [padV_len]; omega)
  unfold stateV at hw ⊢
  rw [f172_run, f172_eq, hp, bind_run, nilV_n, consV_c, nilV_n, toStr_s, hw, bind_run, consV_c, nilV_n, nilV_n]
  have := sum_l0 (m + 2) (m + 4) (by omega) (blocksV (rest ++ padV N) ((rest ++ padV N).length / 64) 0 s) (blocksV_len _ _ _ _ hs) (A s) rest (N : Int) true (List.replicate 32 0) 8 (m + 4) 0 (by omega) (by omega)
  rw [List.take_zero, show outV [] = [] from rfl, List.nil_append] at this
  exact this

/-- The sum of a text. -/
def hashV (b : List UInt8) : List UInt8 := outV (blocksV (b ++ padV b.length) ((b ++ padV b.length).length / 64) 0 fs)
theorem hashV_len (b : List UInt8) : (hashV b).length = 32 := by
  unfold hashV
  rw [outV_len, blocksV_len _ _ _ _ fs_len]

theorem two_steps (b p : List UInt8) : blocksV (b.drop (64 * (b.length / 64)) ++ p) ((b.drop (64 * (b.length / 64)) ++ p).length / 64) 0 (blocksV b (b.length / 64) 0 fs) = blocksV (b ++ p) ((b ++ p).length / 64) 0 fs := by
  have e1 : b.drop (64 * (b.length / 64)) ++ p = (b ++ p).drop (64 * (b.length / 64)) := by rw [List.drop_append_of_le_length (by omega)]
  have e2 : (b ++ p).length / 64 = b.length / 64 + ((b ++ p).drop (64 * (b.length / 64))).length / 64 := by simp; omega
  rw [e1, e2, blocks_split, blocks_drop, Nat.zero_add, Nat.add_zero, ← blocks_app b p (b.length / 64) 0 fs (by omega)]

theorem sha_at (n : Nat) {b : List UInt8} (hb : b.length ≤ 1152921504606840000) (hn : b.length + 6000 ≤ n) : runE G ext (n + 1) 142 [.str b] = some ⟨[.blob (hashV b)], [], false⟩ := by
  obtain ⟨m, rfl⟩ : ∃ m, n = m + 1 := ⟨n - 1, by omega⟩
  have h0 : runE G ext (m + 1) 170 [] = some ⟨[.agg [.agg (List.replicate 8 (.int 0)), .str [], .int 0, .bool false]], [], false⟩ := by
    rw [f170_run, f170_eq]; rfl
  have h1 := write_off m (b := b) (List.replicate 8 (.int 0)) (by omega) (by omega)
  have h2 := sum_on m (s := blocksV b (b.length / 64) 0 fs) (rest := b.drop (64 * (b.length / 64))) (blocksV_len _ _ _ _ fs_len) b.length (by simp; omega) (by omega) (by simp; omega)
  rw [two_steps] at h2
  unfold stateV at h1 h2
  rw [f142_run, f142_eq, h0, bind_run, nilV_n, consV_c, nilV_n]
  have e : runE G ext (m + 1) 171 [.agg [.agg ((AV.fld (.agg [.agg (List.replicate 8 (.int 0)), .str [], .int 0, .bool false]) 0).toAgg), .str ((AV.fld (.agg [.agg (List.replicate 8 (.int 0)), .str [], .int 0, .bool false]) 1).toStr), .int ((AV.fld (.agg [.agg (List.replicate 8 (.int 0)), .str [], .int 0, .bool false]) 2).toInt), .bool ((AV.fld (.agg [.agg (List.replicate 8 (.int 0)), .str [], .int 0, .bool false]) 3).toBool)], .str b] = _ := h1
  rw [e, bind_run, consV_c, nilV_n, nilV_n]
  have e2 : ∀ (x : List AV) (y : List UInt8) (z : Int) (o : Bool), [AV.agg [.agg ((AV.fld (.agg [.agg x, .str y, .int z, .bool o]) 0).toAgg), .str ((AV.fld (.agg [.agg x, .str y, .int z, .bool o]) 1).toStr), .int ((AV.fld (.agg [.agg x, .str y, .int z, .bool o]) 2).toInt), .bool ((AV.fld (.agg [.agg x, .str y, .int z, .bool o]) 3).toBool)]] = [.agg [.agg x, .str y, .int z, .bool o]] := fun _ _ _ _ => rfl
  rw [e2, h2, bind_run, consV_c, nilV_n, consV_c, nilV_n, toBlob_b]
  rfl

/- the reference -/
theorem set_bytes {P : List UInt8} (r : Nat) (v : UInt8) : (P ++ List.replicate (r + 1) 0).set P.length v = P ++ [v] ++ List.replicate r 0 := by
  rw [List.set_append_right _ _ (Nat.le_refl _), Nat.sub_self, List.replicate_succ, List.set_cons_zero, List.append_assoc]; rfl

end Go.Proofs.YtogehijjhibdkaaGreat.Ev
