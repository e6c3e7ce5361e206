/- The sum: both programs take words, turn them, spread and pad them, and sum up alike. -/
import Derived.Test.YtogehijjhibdkaaEvExt
import Derived.Test.YtogehijjhibdkaaEvT3
import Derived.Test.YtogehijjhibdkaaEvFZ
namespace Go.Proofs.Ytogehijjhibdkaa.Ev
open Go Go.RowKit

def byteAt (b : List UInt8) (i : Nat) : BitVec 64 := BitVec.ofNat 64 (b.getD i 0).toNat
theorem byteAt_U (b : List UInt8) (i : Nat) : ((b.getD i 0).toNat : Int) = U (byteAt b i) := by
  unfold byteAt U
  rw [BitVec.toNat_ofNat, Nat.mod_eq_of_lt]
  have := (b.getD i 0).toNat_lt
  omega
theorem wrap_U64 (a : BitVec 64) : IntKind.wrap .u64 (U a) = U a := by rw [U64, ofInt_U]
theorem wrap_U32 (a : BitVec 32) : IntKind.wrap .u32 (U a) = U a := by rw [U32, ofInt_U]

theorem add_or (x y : BitVec 64) (h : y.toNat < 256) : x <<< 8 + y = (x <<< 8) ||| y := by
  apply BitVec.add_eq_or_of_and_eq_zero
  apply BitVec.eq_of_getLsbD_eq
  intro i hi
  rw [BitVec.getLsbD_and, BitVec.getLsbD_shiftLeft]
  by_cases h8 : i < 8
  · simp [h8]
  · have : y.getLsbD i = false := by
      show y.toNat.testBit i = false
      refine Nat.testBit_lt_two_pow (Nat.lt_of_lt_of_le h ?_)
      calc 256 = 2 ^ 8 := rfl
        _ ≤ 2 ^ i := Nat.pow_le_pow_right (by omega) (by omega)
    rw [this]; simp

/-- The number of some bytes. -/
def tk (b : List UInt8) (at_ : Nat) : Nat → BitVec 64
  | 0 => 0
  | i + 1 => (tk b at_ i <<< 8) ||| byteAt b (at_ + i)

theorem byteAt_out {b : List UInt8} {i : Nat} (h : b.length ≤ i) : byteAt b i = 0 := by
  unfold byteAt
  rw [List.getD_eq_getElem?_getD, List.getElem?_eq_none h]; rfl

def tk32 (b : List UInt8) (at_ : Nat) : BitVec 32 := (tk b at_ 4).setWidth 32
theorem tk32_U (b : List UInt8) (at_ : Nat) : IntKind.wrap .u32 (U (tk b at_ 4)) = U (tk32 b at_) := by
  rw [wrap32]; unfold tk32 U; rw [BitVec.toNat_setWidth]; omega

/- turning -/
def rotV (x : BitVec 32) (k : Nat) : BitVec 32 := (x >>> k) ||| (x <<< (32 - k))

theorem wu64' {x : Int} (h1 : 0 ≤ x) (h2 : x < 18446744073709551616) : IntKind.wrap .u64 x = x := by rw [wrap64]; omega
theorem k31 : ∀ k : Nat, k < 32 → IntKind.wrap .u64 (BitVec.toNat (BitVec.ofInt 64 (IntKind.wrap .u64 (k : Int)) &&& BitVec.ofInt 64 31)) = (k : Int) := by decide +kernel
theorem turn_or (x : BitVec 32) {k : Nat} (hk : k < 32) : x >>> k + x <<< (32 - k) = rotV x k := by
  unfold rotV
  apply BitVec.add_eq_or_of_and_eq_zero
  apply BitVec.eq_of_getLsbD_eq
  intro i hi
  rw [BitVec.getLsbD_and, BitVec.getLsbD_shiftLeft, BitVec.getLsbD_ushiftRight]
  by_cases h : i < 32 - k
  · simp [h]
  · have : x.getLsbD (k + i) = false := BitVec.getLsbD_of_ge _ _ (by omega)
    rw [this]; simp

/- words in a row -/
def A (l : List (BitVec 32)) : List AV := l.map fun b => .int (U b)
theorem A_len (l : List (BitVec 32)) : (A l).length = l.length := by simp [A]
theorem fldA {l : List (BitVec 32)} {r : List AV} {i : Nat} (h : i < l.length) : (AV.fld (.agg (A l ++ r)) i).toInt = U (l.getD i 0) := by
  show (nth (A l ++ r) i).toInt = _
  unfold nth
  rw [List.getD_eq_getElem?_getD, List.getElem?_append_left (by rw [A_len]; exact h)]
  simp [A, h, AV.toInt]
theorem setA {l : List (BitVec 32)} {m : Nat} (w : BitVec 32) : (A l ++ List.replicate (m + 1) (AV.int 0)).set l.length (.int (U w)) = A (l ++ [w]) ++ List.replicate m (.int 0) := by
  rw [List.set_append_right _ _ (by rw [A_len]; exact Nat.le_refl _), A_len, Nat.sub_self, List.replicate_succ, List.set_cons_zero]
  simp [A]

def sg0 (x : BitVec 32) : BitVec 32 := (rotV x 7 ^^^ rotV x 18) ^^^ (x >>> 3)
def sg1 (x : BitVec 32) : BitVec 32 := (rotV x 17 ^^^ rotV x 19) ^^^ (x >>> 10)
def wordV (b : List UInt8) (l : List (BitVec 32)) (i : Nat) : BitVec 32 :=
  if i < 16 then tk32 b (4 * i) else l.getD (i - 16) 0 + sg0 (l.getD (i - 15) 0) + l.getD (i - 7) 0 + sg1 (l.getD (i - 2) 0)
/-- The first words of a block. -/
def sp (b : List UInt8) : Nat → List (BitVec 32)
  | 0 => []
  | i + 1 => sp b i ++ [wordV b (sp b i) i]
theorem sp_len (b : List UInt8) : ∀ i, (sp b i).length = i
  | 0 => rfl
  | i + 1 => by simp [sp, sp_len b i]

end Go.Proofs.Ytogehijjhibdkaa.Ev

namespace Go.Proofs.Ytogehijjhibdkaa.Ev
open Go Go.RowKit

/- the reference's words -/
/- rounds -/
def klN : List Int := [1116352408, 1899447441, 3049323471, 3921009573, 961987163, 1508970993, 2453635748, 2870763221, 3624381080, 310598401, 607225278, 1426881987, 1925078388, 2162078206, 2614888103, 3248222580, 3835390401, 4022224774, 264347078, 604807628, 770255983, 1249150122, 1555081692, 1996064986, 2554220882, 2821834349, 2952996808, 3210313671, 3336571891, 3584528711, 113926993, 338241895, 666307205, 773529912, 1294757372, 1396182291, 1695183700, 1986661051, 2177026350, 2456956037, 2730485921, 2820302411, 3259730800, 3345764771, 3516065817, 3600352804, 4094571909, 275423344, 430227734, 506948616, 659060556, 883997877, 958139571, 1322822218, 1537002063, 1747873779, 1955562222, 2024104815, 2227730452, 2361852424, 2428436474, 2756734187, 3204031479, 3329325298]
def kl : List (BitVec 32) := klN.map (BitVec.ofInt 32)
theorem kl_A : A kl = klN.map AV.int := by kernel_rfl
theorem kl_len : kl.length = 64 := rfl

def rnd (k w : BitVec 32) : List (BitVec 32) → List (BitVec 32)
  | [a, b, c, d, e, f, g, h] =>
    [h + ((rotV e 6 ^^^ rotV e 11) ^^^ rotV e 25) + ((e &&& f) ^^^ (~~~e &&& g)) + k + w + ((rotV a 2 ^^^ rotV a 13) ^^^ rotV a 22) + (((a &&& b) ^^^ (a &&& c)) ^^^ (b &&& c)), a, b, c,
      d + (h + ((rotV e 6 ^^^ rotV e 11) ^^^ rotV e 25) + ((e &&& f) ^^^ (~~~e &&& g)) + k + w), e, f, g]
  | l => l
def rds (w : List (BitVec 32)) : Nat → Nat → List (BitVec 32) → List (BitVec 32)
  | 0, _, s => s
  | j + 1, i, s => rds w j (i + 1) (rnd (kl.getD i 0) (w.getD i 0) s)

theorem len8 {α : Type} {s : List α} (h : s.length = 8) : ∃ a b c d e f g i, s = [a, b, c, d, e, f, g, i] := by
  match s, h with
  | [a, b, c, d, e, f, g, i], _ => exact ⟨a, b, c, d, e, f, g, i, rfl⟩
theorem rnd_len (k w : BitVec 32) {s : List (BitVec 32)} (h : s.length = 8) : (rnd k w s).length = 8 := by
  obtain ⟨a, b, c, d, e, f, g, i, rfl⟩ := len8 h; rfl
theorem rds_len (w : List (BitVec 32)) : ∀ (j i : Nat) (s : List (BitVec 32)), s.length = 8 → (rds w j i s).length = 8
  | 0, _, _, h => h
  | j + 1, i, _, h => rds_len w j (i + 1) _ (rnd_len _ _ h)

theorem fldA' {l : List (BitVec 32)} {i : Nat} (h : i < l.length) : (AV.fld (.agg (A l)) i).toInt = U (l.getD i 0) := by
  have := fldA (l := l) (r := []) h
  rwa [List.append_nil] at this

def addN (i : Nat) (h v : List (BitVec 32)) : List (BitVec 32) := (List.range 8).map fun j => if j < i then h.getD j 0 + v.getD j 0 else h.getD j 0
theorem addN_len (i : Nat) (h v : List (BitVec 32)) : (addN i h v).length = 8 := by simp [addN]
theorem addN_zero {h : List (BitVec 32)} (v : List (BitVec 32)) (hl : h.length = 8) : addN 0 h v = h := by
  apply List.ext_getElem
  · simp [addN, hl]
  · intro j h1 h2; simp [addN, h2]
theorem addN_get {i : Nat} (h v : List (BitVec 32)) (hi : i < 8) : (addN i h v).getD i 0 = h.getD i 0 := by
  simp [addN, hi]
theorem addN_set {i : Nat} (h v : List (BitVec 32)) (_hi : i < 8) : (A (addN i h v)).set i (.int (U (h.getD i 0 + v.getD i 0))) = A (addN (i + 1) h v) := by
  apply List.ext_getElem
  · simp [A, addN]
  · intro j h1 h2
    have hj : j < 8 := by simpa [A, addN] using h2
    rw [List.getElem_set]
    by_cases e : i = j
    · subst e
      simp [A, addN]
    · rw [if_neg e]
      by_cases hji : j < i
      · simp [A, addN, hji, show j < i + 1 by omega]
      · simp [A, addN, hji, show ¬ j < i + 1 by omega]

theorem u32_not (a : BitVec 32) : IntKind.wrap .u32 (BitVec.toNat (BitVec.ofInt 32 4294967295 ^^^ BitVec.ofInt 32 (U a))) = U (~~~ a) := by
  rw [U32, ofInt_U, ofInt_toNat, show BitVec.ofInt 32 4294967295 = BitVec.allOnes 32 from by decide +kernel, BitVec.allOnes_xor]
theorem u32_not' (a : BitVec 32) : IntKind.wrap .u32 (4294967295 - U a) = U (~~~ a) := by
  have h := a.isLt
  rw [wrap32]; unfold U; rw [BitVec.toNat_not]; omega

/-- A block, laid into eight words. -/
def mixV (s : List (BitVec 32)) (b : List UInt8) : List (BitVec 32) := addN 8 s (rds (sp b 64) 64 0 s)
theorem mixV_len (s : List (BitVec 32)) (b : List UInt8) : (mixV s b).length = 8 := addN_len _ _ _

/- the reference's rounds -/
def shiftN : Nat → List AV → List AV
  | 0, l => l
  | i + 1, l => shiftN i (l.set (i + 1) (.int (AV.fld (.agg l) i).toInt))

theorem addN_comm (h v : List (BitVec 32)) : addN 8 h v = addN 8 v h := by
  unfold addN
  apply List.map_congr_left
  intro j hj
  have : j < 8 := by simpa using hj
  rw [if_pos this, if_pos this, BitVec.add_comm]

end Go.Proofs.Ytogehijjhibdkaa.Ev

namespace Go.Proofs.Ytogehijjhibdkaa.Ev
open Go Go.RowKit

def byteOf (y : BitVec 64) : UInt8 := UInt8.ofNat (y.toNat % 256)
theorem byteOf_toNat (y : BitVec 64) : ((byteOf y).toNat : Int) = U y % 256 := by
  unfold byteOf U
  rw [UInt8.toNat_ofNat_of_lt' (by simp [UInt8.size]; omega)]
  omega
/-- A number's last bytes, the highest first. -/
def bs (x : BitVec 64) : Nat → List UInt8
  | 0 => []
  | i + 1 => byteOf (x >>> (8 * i)) :: bs x i
theorem bs_len (x : BitVec 64) : ∀ i, (bs x i).length = i
  | 0 => rfl
  | i + 1 => by simp [bs, bs_len x i]

def B (l : List UInt8) : List AV := l.map fun c => .int (c.toNat : Int)
theorem bytesOf_B (l : List UInt8) : bytesOf (B l) = l := by
  unfold bytesOf B
  rw [List.map_map]
  conv => rhs; rw [← List.map_id l]
  apply List.map_congr_left
  intro c _
  simp [AV.toInt]
theorem set_rep (r : Nat) (z v : AV) (l : List AV) : (List.replicate (r + 1) z ++ l).set r v = List.replicate r z ++ (v :: l) := by
  apply List.ext_getElem
  · simp; omega
  · intro i h1 h2
    rw [List.getElem_set]
    by_cases e : r = i
    · subst e
      rw [if_pos rfl, List.getElem_append_right (by simp)]
      simp
    · rw [if_neg e]
      by_cases hi : i < r
      · rw [List.getElem_append_left (by simp; omega), List.getElem_append_left (by simp; omega)]; simp
      · rw [List.getElem_append_right (by simp; omega), List.getElem_append_right (by simp; omega)]
        simp only [List.length_replicate]
        rw [List.getElem_cons]
        rw [dif_neg (by omega)]
        congr 1

/- what stands behind a text -/
def gapV (n : Nat) : Nat := (119 - n % 64) % 64
def padV (n : Nat) : List UInt8 := ([128] ++ List.replicate (gapV n) 0) ++ bs (BitVec.ofNat 64 (8 * n)) 8
theorem padV_len (n : Nat) : (padV n).length = gapV n + 9 := by simp [padV, bs_len]

theorem repeatL_rep : ∀ c : Nat, Lib.repeatL [0] c = List.replicate c 0
  | 0 => rfl
  | c + 1 => by simp [Lib.repeatL, repeatL_rep c, List.replicate_succ]

end Go.Proofs.Ytogehijjhibdkaa.Ev

namespace Go.Proofs.Ytogehijjhibdkaa.Ev
open Go Go.RowKit

def fsN : List Int := [1779033703, 3144134277, 1013904242, 2773480762, 1359893119, 2600822924, 528734635, 1541459225]
def fs : List (BitVec 32) := fsN.map (BitVec.ofInt 32)
theorem fs_A : A fs = fsN.map AV.int := by kernel_rfl
theorem fs_len : fs.length = 8 := rfl

/-- Blocks of a text, from one on. -/
def blocksV (l : List UInt8) : Nat → Nat → List (BitVec 32) → List (BitVec 32)
  | 0, _, s => s
  | j + 1, at_, s => blocksV l j (at_ + 64) (mixV s ((l.take (at_ + 64)).drop at_))
theorem blocksV_len (l : List UInt8) : ∀ (j at_ : Nat) (s : List (BitVec 32)), s.length = 8 → (blocksV l j at_ s).length = 8
  | 0, _, _, h => h
  | j + 1, _, _, _ => blocksV_len l j _ _ (mixV_len _ _)
theorem blocks_split (l : List UInt8) : ∀ (i j at_ : Nat) (s : List (BitVec 32)), blocksV l (i + j) at_ s = blocksV l j (at_ + 64 * i) (blocksV l i at_ s)
  | 0, j, at_, s => by simp [blocksV]
  | i + 1, j, at_, s => by
    rw [show i + 1 + j = (i + j) + 1 by omega]
    simp only [blocksV]
    rw [blocks_split l i j (at_ + 64), show at_ + 64 + 64 * i = at_ + 64 * (i + 1) by omega]
theorem blocks_app (b p : List UInt8) : ∀ (j at_ : Nat) (s : List (BitVec 32)), at_ + 64 * j ≤ b.length → blocksV (b ++ p) j at_ s = blocksV b j at_ s
  | 0, _, _, _ => rfl
  | j + 1, at_, s, h => by
    simp only [blocksV]
    rw [List.take_append_of_le_length (by omega), blocks_app b p j (at_ + 64) _ (by omega)]
theorem blocks_drop (l : List UInt8) (c : Nat) : ∀ (j at_ : Nat) (s : List (BitVec 32)), blocksV (l.drop c) j at_ s = blocksV l j (c + at_) s
  | 0, _, _ => rfl
  | j + 1, at_, s => by
    simp only [blocksV]
    rw [List.take_drop, List.drop_drop, blocks_drop l c j (at_ + 64), show c + (at_ + 64) = c + at_ + 64 by omega]

/- writing -/
/-- A sum's state behind some bytes. -/
def stateV (s : List (BitVec 32)) (rest : List UInt8) (n : Int) (on : Bool) : AV := .agg [.agg (A s), .str rest, .int n, .bool on]

/- the words, as bytes -/
def wordB (x : BitVec 32) : List UInt8 := bs (x.setWidth 64) 4
def outV (w : List (BitVec 32)) : List UInt8 := (w.map wordB).flatten
theorem outV_len : ∀ w : List (BitVec 32), (outV w).length = 4 * w.length
  | [] => rfl
  | x :: w => by
    have := outV_len w
    unfold outV at this ⊢
    simp only [List.map_cons, List.flatten_cons, List.length_append, List.length_cons, this, wordB, bs_len]
    omega
theorem outV_snoc (w : List (BitVec 32)) (x : BitVec 32) : outV (w ++ [x]) = outV w ++ wordB x := by simp [outV]

theorem U_set (x : BitVec 32) : IntKind.wrap .u64 (U x) = U (x.setWidth 64) := by
  have := x.isLt
  rw [wrap64]; unfold U; rw [BitVec.toNat_setWidth]; omega
theorem splice_bytes (o x : List UInt8) (k : Nat) : bytesOf (splice (ofBytes o) k (ofBytes x)) = o.take k ++ (x ++ o.drop (k + x.length)) := by
  have e : splice (ofBytes o) k (ofBytes x) = B (o.take k ++ (x ++ o.drop (k + x.length))) := by
    simp [splice, ofBytes, B, List.map_take, List.map_drop]
  rw [e, bytesOf_B]

theorem take_get (w : List (BitVec 32)) {i : Nat} (h : i < w.length) : w.take (i + 1) = w.take i ++ [w.getD i 0] := by
  rw [List.take_succ_eq_append_getElem h]; simp [h]

/-- The sum of a text. -/
def hashV (b : List UInt8) : List UInt8 := outV (blocksV (b ++ padV b.length) ((b ++ padV b.length).length / 64) 0 fs)
theorem hashV_len (b : List UInt8) : (hashV b).length = 32 := by
  unfold hashV
  rw [outV_len, blocksV_len _ _ _ _ fs_len]

theorem two_steps (b p : List UInt8) : blocksV (b.drop (64 * (b.length / 64)) ++ p) ((b.drop (64 * (b.length / 64)) ++ p).length / 64) 0 (blocksV b (b.length / 64) 0 fs) = blocksV (b ++ p) ((b ++ p).length / 64) 0 fs := by
  have e1 : b.drop (64 * (b.length / 64)) ++ p = (b ++ p).drop (64 * (b.length / 64)) := by rw [List.drop_append_of_le_length (by omega)]
  have e2 : (b ++ p).length / 64 = b.length / 64 + ((b ++ p).drop (64 * (b.length / 64))).length / 64 := by simp; omega
  rw [e1, e2, blocks_split, blocks_drop, Nat.zero_add, Nat.add_zero, ← blocks_app b p (b.length / 64) 0 fs (by omega)]

/- the reference -/
theorem set_bytes {P : List UInt8} (r : Nat) (v : UInt8) : (P ++ List.replicate (r + 1) 0).set P.length v = P ++ [v] ++ List.replicate r 0 := by
  rw [List.set_append_right _ _ (Nat.le_refl _), Nat.sub_self, List.replicate_succ, List.set_cons_zero, List.append_assoc]; rfl

end Go.Proofs.Ytogehijjhibdkaa.Ev
