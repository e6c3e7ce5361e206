/- The sum's rounds: both programs lay a block into eight words alike. -/
import Derived.Test.YtcpdiahbdmcdcaaEvPSha1
namespace Go.Proofs.Ytcpdiahbdmcdcaa.Ev
open Go Go.RowKit

/- the reference's words -/
theorem refSpread_l2 (m n k0 : Nat) (b : List UInt8) (o : List AV) : ∀ (j k i : Nat), i + j = 64 → 16 ≤ i → j < k →
    f112_l2 (runE G ext (m + 2)) n k0 k (i : Int) o (A (sp b i) ++ List.replicate (64 - i) (.int 0)) = some ⟨[.agg (A (sp b 64))], [], false⟩ := by
  intro j
  induction j with
  | zero =>
    intro k i hi _ hk
    obtain ⟨k, rfl⟩ : ∃ j, k = j + 1 := ⟨k - 1, by omega⟩
    rw [Nat.add_zero] at hi
    subst hi
    rw [f112_l2_eq, ltI_f (by omega), Nat.sub_self, List.replicate_zero, List.append_nil]; rfl
  | succ j ih =>
    intro k i hi h16 hk
    obtain ⟨k, rfl⟩ : ∃ j, k = j + 1 := ⟨k - 1, by omega⟩
    have ih' := ih k (i + 1) (by omega) (by omega) (by omega)
    rw [show ((i + 1 : Nat) : Int) = (i : Int) + 1 by omega] at ih'
    have hs := setA (l := sp b i) (m := 64 - (i + 1)) (wordV b (sp b i) i)
    rw [sp_len, show 64 - (i + 1) + 1 = 64 - i by omega, show sp b i ++ [wordV b (sp b i) i] = sp b (i + 1) from rfl] at hs
    rw [← hs] at ih'
    have h : ¬ i < 16 := by omega
    have hw : wordV b (sp b i) i = (sp b i).getD (i - 16) 0 + sg0 ((sp b i).getD (i - 15) 0) + (sp b i).getD (i - 7) 0 + sg1 ((sp b i).getD (i - 2) 0) := by simp [wordV, h]
    have f1 := fldA (l := sp b i) (r := List.replicate (64 - i) (.int 0)) (i := i - 15) (by rw [sp_len]; omega)
    have f2 := fldA (l := sp b i) (r := List.replicate (64 - i) (.int 0)) (i := i - 2) (by rw [sp_len]; omega)
    have f3 := fldA (l := sp b i) (r := List.replicate (64 - i) (.int 0)) (i := i - 16) (by rw [sp_len]; omega)
    have f4 := fldA (l := sp b i) (r := List.replicate (64 - i) (.int 0)) (i := i - 7) (by rw [sp_len]; omega)
    have r1 : ∀ x, runE G ext (m + 1 + 1) 113 [.int (U x), .int 7] = some ⟨[.int (U (rotV x 7))], [], false⟩ := fun x => turn_at (m + 1) x (k := 7) (by omega)
    have r2 : ∀ x, runE G ext (m + 1 + 1) 113 [.int (U x), .int 18] = some ⟨[.int (U (rotV x 18))], [], false⟩ := fun x => turn_at (m + 1) x (k := 18) (by omega)
    have r3 : ∀ x, runE G ext (m + 1 + 1) 113 [.int (U x), .int 17] = some ⟨[.int (U (rotV x 17))], [], false⟩ := fun x => turn_at (m + 1) x (k := 17) (by omega)
    have r4 : ∀ x, runE G ext (m + 1 + 1) 113 [.int (U x), .int 19] = some ⟨[.int (U (rotV x 19))], [], false⟩ := fun x => turn_at (m + 1) x (k := 19) (by omega)
    rw [f112_l2_eq, ltI_t (by omega), cond_true, w64 (x := (i : Int) + 1) (by omega) (by omega), w64 (x := (i : Int) - 15) (by omega) (by omega), w64 (x := (i : Int) - 2) (by omega) (by omega), w64 (x := (i : Int) - 16) (by omega) (by omega), w64 (x := (i : Int) - 7) (by omega) (by omega),
      show ((i : Int) - 15).toNat = i - 15 by omega, show ((i : Int) - 2).toNat = i - 2 by omega, show ((i : Int) - 16).toNat = i - 16 by omega, show ((i : Int) - 7).toNat = i - 7 by omega, f1, f2, f3, f4, r1, r2, r3, r4]
    simp only [bind_run, consV_c, nilV_n, toInt_i]
    rw [inR_yes (i := (i : Int) - 15) (by omega) (by omega), inR_yes (i := (i : Int) - 2) (by omega) (by omega), inR_yes (i := (i : Int) - 16) (by omega) (by omega), inR_yes (i := (i : Int) - 7) (by omega) (by omega), inR_nat (by omega), Int.toNat_natCast]
    simp only [cond_true, U_shr, u32_xor, u32_add]
    rw [hw] at ih'
    exact ih'

theorem refSpread_l0 (m n : Nat) (hm : 2000 ≤ m) (hn : 100 ≤ n) (b : List UInt8) (hb : b.length ≤ maxLen) (o : List AV) : ∀ (j k i : Nat), i + j = 16 → j < k →
    f112_l0 (runE G ext (m + 2)) n k b (i : Int) o (A (sp b i) ++ List.replicate (64 - i) (.int 0)) = some ⟨[.agg (A (sp b 64))], [], false⟩ := by
  intro j
  induction j with
  | zero =>
    intro k i hi hk
    obtain ⟨k, rfl⟩ : ∃ j, k = j + 1 := ⟨k - 1, by omega⟩
    rw [Nat.add_zero] at hi
    subst hi
    rw [f112_l0_eq, ltI_f (by omega), cond_false]
    exact refSpread_l2 m n k b o 48 n 16 (by omega) (by omega) (by omega)
  | succ j ih =>
    intro k i hi hk
    obtain ⟨k, rfl⟩ : ∃ j, k = j + 1 := ⟨k - 1, by omega⟩
    have ih' := ih k (i + 1) (by omega) (by omega)
    rw [show ((i + 1 : Nat) : Int) = (i : Int) + 1 by omega] at ih'
    have hs := setA (l := sp b i) (m := 64 - (i + 1)) (wordV b (sp b i) i)
    rw [sp_len, show 64 - (i + 1) + 1 = 64 - i by omega, show sp b i ++ [wordV b (sp b i) i] = sp b (i + 1) from rfl] at hs
    rw [← hs] at ih'
    have h : i < 16 := by omega
    have ht : runE G ext (m + 1 + 1) 124 [.str b, .int ((4 * i : Nat) : Int), .int 4] = some ⟨[.int (U (tk b (4 * i) 4))], [], false⟩ := refTake_at (m + 1) (by omega) hb (size := 4) (by omega) (by omega)
    rw [f112_l0_eq, ltI_t (by omega), cond_true, w64 (x := (i : Int) + 1) (by omega) (by omega), w64 (x := 4 * (i : Int)) (by omega) (by omega), show 4 * (i : Int) = ((4 * i : Nat) : Int) by omega, ht]
    simp only [bind_run, consV_c, nilV_n, toInt_i]
    rw [inR_nat (by omega), cond_true, Int.toNat_natCast, tk32_U, show tk32 b (4 * i) = wordV b (sp b i) i by simp [wordV, h]]
    exact ih'

theorem refSpread_at (m : Nat) (hm : 2000 ≤ m) {b : List UInt8} (hb : b.length ≤ maxLen) : runE G ext (m + 3) 112 [.str b] = some ⟨[.agg (A (sp b 64))], [], false⟩ := by
  rw [f112_run, f112_eq]
  exact refSpread_l0 m _ hm (by omega) b hb _ 16 _ 0 (by omega) (by omega)

/- rounds -/
def klN : List Int := [1116352408, 1899447441, 3049323471, 3921009573, 961987163, 1508970993, 2453635748, 2870763221, 3624381080, 310598401, 607225278, 1426881987, 1925078388, 2162078206, 2614888103, 3248222580, 3835390401, 4022224774, 264347078, 604807628, 770255983, 1249150122, 1555081692, 1996064986, 2554220882, 2821834349, 2952996808, 3210313671, 3336571891, 3584528711, 113926993, 338241895, 666307205, 773529912, 1294757372, 1396182291, 1695183700, 1986661051, 2177026350, 2456956037, 2730485921, 2820302411, 3259730800, 3345764771, 3516065817, 3600352804, 4094571909, 275423344, 430227734, 506948616, 659060556, 883997877, 958139571, 1322822218, 1537002063, 1747873779, 1955562222, 2024104815, 2227730452, 2361852424, 2428436474, 2756734187, 3204031479, 3329325298]
def kl : List (BitVec 32) := klN.map (BitVec.ofInt 32)
theorem kl_A : A kl = klN.map AV.int := by kernel_rfl
theorem kl_len : kl.length = 64 := rfl

def rnd (k w : BitVec 32) : List (BitVec 32) → List (BitVec 32)
  | [a, b, c, d, e, f, g, h] =>
    [h + ((rotV e 6 ^^^ rotV e 11) ^^^ rotV e 25) + ((e &&& f) ^^^ (~~~e &&& g)) + k + w + ((rotV a 2 ^^^ rotV a 13) ^^^ rotV a 22) + (((a &&& b) ^^^ (a &&& c)) ^^^ (b &&& c)), a, b, c,
      d + (h + ((rotV e 6 ^^^ rotV e 11) ^^^ rotV e 25) + ((e &&& f) ^^^ (~~~e &&& g)) + k + w), e, f, g]
  | l => l
def rds (w : List (BitVec 32)) : Nat → Nat → List (BitVec 32) → List (BitVec 32)
  | 0, _, s => s
  | j + 1, i, s => rds w j (i + 1) (rnd (kl.getD i 0) (w.getD i 0) s)

theorem len8 {α : Type} {s : List α} (h : s.length = 8) : ∃ a b c d e f g i, s = [a, b, c, d, e, f, g, i] := by
  match s, h with
  | [a, b, c, d, e, f, g, i], _ => exact ⟨a, b, c, d, e, f, g, i, rfl⟩
theorem rnd_len (k w : BitVec 32) {s : List (BitVec 32)} (h : s.length = 8) : (rnd k w s).length = 8 := by
  obtain ⟨a, b, c, d, e, f, g, i, rfl⟩ := len8 h; rfl
theorem rds_len (w : List (BitVec 32)) : ∀ (j i : Nat) (s : List (BitVec 32)), s.length = 8 → (rds w j i s).length = 8
  | 0, _, _, h => h
  | j + 1, i, _, h => rds_len w j (i + 1) _ (rnd_len _ _ h)

theorem fldA' {l : List (BitVec 32)} {i : Nat} (h : i < l.length) : (AV.fld (.agg (A l)) i).toInt = U (l.getD i 0) := by
  have := fldA (l := l) (r := []) h
  rwa [List.append_nil] at this

def addN (i : Nat) (h v : List (BitVec 32)) : List (BitVec 32) := (List.range 8).map fun j => if j < i then h.getD j 0 + v.getD j 0 else h.getD j 0
theorem addN_len (i : Nat) (h v : List (BitVec 32)) : (addN i h v).length = 8 := by simp [addN]
theorem addN_zero {h : List (BitVec 32)} (v : List (BitVec 32)) (hl : h.length = 8) : addN 0 h v = h := by
  apply List.ext_getElem
  · simp [addN, hl]
  · intro j h1 h2; simp [addN, h2]
theorem addN_get {i : Nat} (h v : List (BitVec 32)) (hi : i < 8) : (addN i h v).getD i 0 = h.getD i 0 := by
  simp [addN, hi]
theorem addN_set {i : Nat} (h v : List (BitVec 32)) (_hi : i < 8) : (A (addN i h v)).set i (.int (U (h.getD i 0 + v.getD i 0))) = A (addN (i + 1) h v) := by
  apply List.ext_getElem
  · simp [A, addN]
  · intro j h1 h2
    have hj : j < 8 := by simpa [A, addN] using h2
    rw [List.getElem_set]
    by_cases e : i = j
    · subst e
      simp [A, addN]
    · rw [if_neg e]
      by_cases hji : j < i
      · simp [A, addN, hji, show j < i + 1 by omega]
      · simp [A, addN, hji, show ¬ j < i + 1 by omega]

theorem mix_l2 (run : Run) (n k0 : Nat) (h v : List (BitVec 32)) (hv : v.length = 8) (o : List AV) : ∀ (j k i : Nat), i + j = 8 → j < k →
    f126_l2 run n k0 k (i : Int) (A (addN i h v)) o (A v) = some ⟨[.agg (A (addN 8 h v))], [], false⟩ := by
  intro j
  induction j with
  | zero =>
    intro k i hi hk
    obtain ⟨k, rfl⟩ : ∃ j, k = j + 1 := ⟨k - 1, by omega⟩
    rw [Nat.add_zero] at hi
    subst hi
    rw [f126_l2_eq, ltI_f (by omega)]; rfl
  | succ j ih =>
    intro k i hi hk
    obtain ⟨k, rfl⟩ : ∃ j, k = j + 1 := ⟨k - 1, by omega⟩
    have ih' := ih k (i + 1) (by omega) (by omega)
    rw [show ((i + 1 : Nat) : Int) = (i : Int) + 1 by omega, ← addN_set h v (by omega)] at ih'
    rw [f126_l2_eq, ltI_t (by omega), inR_nat (by omega), w64 (x := (i : Int) + 1) (by omega) (by omega), Int.toNat_natCast, fldA' (by rw [addN_len]; omega), fldA' (by omega), addN_get h v (by omega), u32_add]
    exact ih'

theorem refMix_l4 (run : Run) (n k0 : Nat) (h v : List (BitVec 32)) (hv : v.length = 8) (o : List AV) : ∀ (j k i : Nat), i + j = 8 → j < k →
    f93_l4 run n k0 k (i : Int) (A (addN i h v)) o (A v) = some ⟨[.agg (A (addN 8 h v))], [], false⟩ := by
  intro j
  induction j with
  | zero =>
    intro k i hi hk
    obtain ⟨k, rfl⟩ : ∃ j, k = j + 1 := ⟨k - 1, by omega⟩
    rw [Nat.add_zero] at hi
    subst hi
    rw [f93_l4_eq, ltI_f (by omega)]; rfl
  | succ j ih =>
    intro k i hi hk
    obtain ⟨k, rfl⟩ : ∃ j, k = j + 1 := ⟨k - 1, by omega⟩
    have ih' := ih k (i + 1) (by omega) (by omega)
    rw [show ((i + 1 : Nat) : Int) = (i : Int) + 1 by omega, ← addN_set h v (by omega)] at ih'
    rw [f93_l4_eq, ltI_t (by omega), inR_nat (by omega), w64 (x := (i : Int) + 1) (by omega) (by omega), Int.toNat_natCast, fldA' (by rw [addN_len]; omega), fldA' (by omega), addN_get h v (by omega), u32_add]
    exact ih'

theorem u32_not (a : BitVec 32) : IntKind.wrap .u32 (BitVec.toNat (BitVec.ofInt 32 4294967295 ^^^ BitVec.ofInt 32 (U a))) = U (~~~ a) := by
  rw [U32, ofInt_U, ofInt_toNat, show BitVec.ofInt 32 4294967295 = BitVec.allOnes 32 from by decide +kernel, BitVec.allOnes_xor]
theorem u32_not' (a : BitVec 32) : IntKind.wrap .u32 (4294967295 - U a) = U (~~~ a) := by
  have h := a.isLt
  rw [wrap32]; unfold U; rw [BitVec.toNat_not]; omega

theorem mix_l0 (m n : Nat) (hn : 100 ≤ n) (w h0 : List (BitVec 32)) (hw : w.length = 64) (hh : h0.length = 8) (o4 : List AV) : ∀ (j k i : Nat) (s : List (BitVec 32)), i + j = 64 → j < k → s.length = 8 →
    f126_l0 (runE G ext (m + 1)) n k (i : Int) (A h0) o4 (A w) (A kl) (A s) = some ⟨[.agg (A (addN 8 h0 (rds w j i s)))], [], false⟩ := by
  intro j
  induction j with
  | zero =>
    intro k i s hi hk hs
    obtain ⟨k, rfl⟩ : ∃ j, k = j + 1 := ⟨k - 1, by omega⟩
    rw [f126_l0_eq, ltI_f (by omega), cond_false]
    have := mix_l2 (runE G ext (m + 1)) n k h0 s hs o4 8 n 0 (by omega) (by omega)
    rw [addN_zero _ hh] at this
    exact this
  | succ j ih =>
    intro k i s hi hk hs
    obtain ⟨k, rfl⟩ : ∃ j, k = j + 1 := ⟨k - 1, by omega⟩
    have ih' := ih k (i + 1) (rnd (kl.getD i 0) (w.getD i 0) s) (by omega) (by omega) (rnd_len _ _ hs)
    rw [show ((i + 1 : Nat) : Int) = (i : Int) + 1 by omega] at ih'
    have fk := fldA' (l := kl) (i := i) (by rw [kl_len]; omega)
    have fw := fldA' (l := w) (i := i) (by omega)
    obtain ⟨a, b, c, d, e, f, g, h, rfl⟩ := len8 hs
    have e0 : (AV.fld (.agg (A [a, b, c, d, e, f, g, h])) 0).toInt = U a := rfl
    have e1 : (AV.fld (.agg (A [a, b, c, d, e, f, g, h])) 1).toInt = U b := rfl
    have e2 : (AV.fld (.agg (A [a, b, c, d, e, f, g, h])) 2).toInt = U c := rfl
    have e3 : (AV.fld (.agg (A [a, b, c, d, e, f, g, h])) 3).toInt = U d := rfl
    have e4 : (AV.fld (.agg (A [a, b, c, d, e, f, g, h])) 4).toInt = U e := rfl
    have e5 : (AV.fld (.agg (A [a, b, c, d, e, f, g, h])) 5).toInt = U f := rfl
    have e6 : (AV.fld (.agg (A [a, b, c, d, e, f, g, h])) 6).toInt = U g := rfl
    have e7 : (AV.fld (.agg (A [a, b, c, d, e, f, g, h])) 7).toInt = U h := rfl
    have r1 : runE G ext (m + 1) 133 [.int (U e), .int 6] = some ⟨[.int (U (rotV e 6))], [], false⟩ := rot_at m e (k := 6) (by omega)
    have r2 : runE G ext (m + 1) 133 [.int (U e), .int 11] = some ⟨[.int (U (rotV e 11))], [], false⟩ := rot_at m e (k := 11) (by omega)
    have r3 : runE G ext (m + 1) 133 [.int (U e), .int 25] = some ⟨[.int (U (rotV e 25))], [], false⟩ := rot_at m e (k := 25) (by omega)
    have r4 : runE G ext (m + 1) 133 [.int (U a), .int 2] = some ⟨[.int (U (rotV a 2))], [], false⟩ := rot_at m a (k := 2) (by omega)
    have r5 : runE G ext (m + 1) 133 [.int (U a), .int 13] = some ⟨[.int (U (rotV a 13))], [], false⟩ := rot_at m a (k := 13) (by omega)
    have r6 : runE G ext (m + 1) 133 [.int (U a), .int 22] = some ⟨[.int (U (rotV a 22))], [], false⟩ := rot_at m a (k := 22) (by omega)
    rw [f126_l0_eq, ltI_t (by omega), cond_true, w64 (x := (i : Int) + 1) (by omega) (by omega), e0, e1, e2, e3, e4, e5, e6, e7, r1, r2, r3, r4, r5, r6, inR_nat (by omega), Int.toNat_natCast, fk, fw]
    simp only [bind_run, consV_c, nilV_n, toInt_i, cond_true, u32_not, u32_xor, u32_and, u32_add]
    exact ih'

/-- A block, laid into eight words. -/
def mixV (s : List (BitVec 32)) (b : List UInt8) : List (BitVec 32) := addN 8 s (rds (sp b 64) 64 0 s)
theorem mixV_len (s : List (BitVec 32)) (b : List UInt8) : (mixV s b).length = 8 := addN_len _ _ _

theorem mix_at (m : Nat) (hm : 2000 ≤ m) {s : List (BitVec 32)} {b : List UInt8} (hs : s.length = 8) (hb : b.length ≤ maxLen) : runE G ext (m + 4) 126 [.agg (A s), .str b] = some ⟨[.agg (A (mixV s b))], [], false⟩ := by
  have h2 : runE G ext (m + 3) 132 [] = some ⟨[.agg (A kl)], [], false⟩ := by
    rw [f132_run, f132_eq, kl_A]; kernel_rfl
  rw [f126_run, f126_eq, spread_at m hm hb, bind_run, nilV_n, consV_c, nilV_n, h2, bind_run, nilV_n, consV_c, nilV_n, toAgg_a, toAgg_a]
  unfold mixV
  exact mix_l0 (m + 2) (m + 3) (by omega) (sp b 64) s (sp_len b 64) hs _ 64 (m + 3) 0 s (by omega) (by omega) hs

/- the reference's rounds -/
def shiftN : Nat → List AV → List AV
  | 0, l => l
  | i + 1, l => shiftN i (l.set (i + 1) (.int (AV.fld (.agg l) i).toInt))

theorem refMix_l2 (run : Run) (n k0 : Nat) (x7 x10 x11 : Int) (o4 o5 o6 : List AV) : ∀ (i k : Nat) (l : List AV), i < k → i ≤ 7 →
    f93_l2 run n k0 k x7 x10 x11 (i : Int) l o4 o5 o6 =
      f93_l0 run n k0 (IntKind.wrap .i64 (x7 + 1)) (((shiftN i l).set 4 (.int (IntKind.wrap .u32 ((AV.fld (.agg (shiftN i l)) 4).toInt + x10)))).set 0 (.int (IntKind.wrap .u32 (x10 + x11)))) o4 o5 o6 := by
  intro i
  induction i with
  | zero =>
    intro k l hk _
    obtain ⟨k, rfl⟩ : ∃ j, k = j + 1 := ⟨k - 1, by omega⟩
    rw [f93_l2_eq, ltI_f (by omega)]; rfl
  | succ i ih =>
    intro k l hk h7
    obtain ⟨k, rfl⟩ : ∃ j, k = j + 1 := ⟨k - 1, by omega⟩
    rw [f93_l2_eq, ltI_t (by omega), cond_true, w64 (x := ((i + 1 : Nat) : Int) - 1) (by omega) (by omega), show ((i + 1 : Nat) : Int) - 1 = (i : Int) by omega, inR_nat (by omega), inR_nat (by omega), cond_true, cond_true, Int.toNat_natCast, Int.toNat_natCast,
      ih k (l.set (i + 1) (.int (AV.fld (.agg l) i).toInt)) (by omega) (by omega)]
    simp only [shiftN]

theorem refMix_l0 (m n : Nat) (hn : 100 ≤ n) (w h0 : List (BitVec 32)) (hw : w.length = 64) (hh : h0.length = 8) (o4 : List AV) : ∀ (j k i : Nat) (s : List (BitVec 32)), i + j = 64 → j < k → s.length = 8 →
    f93_l0 (runE G ext (m + 1)) n k (i : Int) (A s) o4 (A w) (A h0) = some ⟨[.agg (A (addN 8 (rds w j i s) h0))], [], false⟩ := by
  intro j
  induction j with
  | zero =>
    intro k i s hi hk hs
    obtain ⟨k, rfl⟩ : ∃ j, k = j + 1 := ⟨k - 1, by omega⟩
    rw [f93_l0_eq, ltI_f (by omega), cond_false]
    have := refMix_l4 (runE G ext (m + 1)) n k s h0 hh o4 8 n 0 (by omega) (by omega)
    rw [addN_zero _ hs] at this
    exact this
  | succ j ih =>
    intro k i s hi hk hs
    obtain ⟨k, rfl⟩ : ∃ j, k = j + 1 := ⟨k - 1, by omega⟩
    have ih' := ih k (i + 1) (rnd (kl.getD i 0) (w.getD i 0) s) (by omega) (by omega) (rnd_len _ _ hs)
    rw [show ((i + 1 : Nat) : Int) = (i : Int) + 1 by omega] at ih'
    have fk : (nth (klN.map AV.int) i).toInt = U (kl.getD i 0) := by rw [← kl_A]; exact fldA' (l := kl) (i := i) (by rw [kl_len]; omega)
    have hnum : runE G ext (m + 1) 114 [.int (i : Int)] = some ⟨[.int (U (kl.getD i 0))], [], false⟩ := by
      rw [f114_run, f114_eq, inR_nat (by omega), cond_true, Int.toNat_natCast, ← fk]; rfl
    have fw := fldA' (l := w) (i := i) (by omega)
    obtain ⟨a, b, c, d, e, f, g, h, rfl⟩ := len8 hs
    have e0 : (AV.fld (.agg (A [a, b, c, d, e, f, g, h])) 0).toInt = U a := rfl
    have e1 : (AV.fld (.agg (A [a, b, c, d, e, f, g, h])) 1).toInt = U b := rfl
    have e2 : (AV.fld (.agg (A [a, b, c, d, e, f, g, h])) 2).toInt = U c := rfl
    have e4 : (AV.fld (.agg (A [a, b, c, d, e, f, g, h])) 4).toInt = U e := rfl
    have e5 : (AV.fld (.agg (A [a, b, c, d, e, f, g, h])) 5).toInt = U f := rfl
    have e6 : (AV.fld (.agg (A [a, b, c, d, e, f, g, h])) 6).toInt = U g := rfl
    have e7 : (AV.fld (.agg (A [a, b, c, d, e, f, g, h])) 7).toInt = U h := rfl
    have r1 : runE G ext (m + 1) 113 [.int (U e), .int 6] = some ⟨[.int (U (rotV e 6))], [], false⟩ := turn_at m e (k := 6) (by omega)
    have r2 : runE G ext (m + 1) 113 [.int (U e), .int 11] = some ⟨[.int (U (rotV e 11))], [], false⟩ := turn_at m e (k := 11) (by omega)
    have r3 : runE G ext (m + 1) 113 [.int (U e), .int 25] = some ⟨[.int (U (rotV e 25))], [], false⟩ := turn_at m e (k := 25) (by omega)
    have r4 : runE G ext (m + 1) 113 [.int (U a), .int 2] = some ⟨[.int (U (rotV a 2))], [], false⟩ := turn_at m a (k := 2) (by omega)
    have r5 : runE G ext (m + 1) 113 [.int (U a), .int 13] = some ⟨[.int (U (rotV a 13))], [], false⟩ := turn_at m a (k := 13) (by omega)
    have r6 : runE G ext (m + 1) 113 [.int (U a), .int 22] = some ⟨[.int (U (rotV a 22))], [], false⟩ := turn_at m a (k := 22) (by omega)
    rw [f93_l0_eq, ltI_t (by omega), cond_true, e0, e1, e2, e4, e5, e6, e7, r1, r2, r3, r4, r5, r6, hnum, inR_nat (by omega), Int.toNat_natCast, fw]
    simp only [bind_run, consV_c, nilV_n, toInt_i, cond_true, u32_not', u32_xor, u32_and, u32_add]
    have hsh : shiftN 7 (A [a, b, c, d, e, f, g, h]) = A [a, a, b, c, d, e, f, g] := by kernel_rfl
    have e3 : (AV.fld (.agg (A [a, a, b, c, d, e, f, g])) 4).toInt = U d := rfl
    have h2 : ∀ T S M : BitVec 32, f93_l2 (runE G ext (m + 1)) n k n (i : Int) (U T) (U (S + M)) 7 (A [a, b, c, d, e, f, g, h]) o4 (A w) (A h0) =
        f93_l0 (runE G ext (m + 1)) n k ((i : Int) + 1) (A [T + S + M, a, b, c, d + T, e, f, g]) o4 (A w) (A h0) := by
      intro T S M
      have := refMix_l2 (runE G ext (m + 1)) n k (i : Int) (U T) (U (S + M)) o4 (A w) (A h0) 7 n (A [a, b, c, d, e, f, g, h]) (by omega) (by omega)
      rw [hsh, e3, u32_add, u32_add, w64 (by omega) (by omega), ← BitVec.add_assoc] at this
      exact this
    exact (h2 _ _ _).trans ih'

theorem addN_comm (h v : List (BitVec 32)) : addN 8 h v = addN 8 v h := by
  unfold addN
  apply List.map_congr_left
  intro j hj
  have : j < 8 := by simpa using hj
  rw [if_pos this, if_pos this, BitVec.add_comm]

theorem refMix_at (m : Nat) (hm : 2000 ≤ m) {s : List (BitVec 32)} {b : List UInt8} (hs : s.length = 8) (hb : b.length ≤ maxLen) : runE G ext (m + 4) 93 [.agg (A s), .str b] = some ⟨[.agg (A (mixV s b))], [], false⟩ := by
  rw [f93_run, f93_eq, refSpread_at m hm hb, bind_run, nilV_n, consV_c, nilV_n, toAgg_a]
  unfold mixV
  rw [addN_comm]
  exact refMix_l0 (m + 2) (m + 3) (by omega) (sp b 64) s (sp_len b 64) hs _ 64 (m + 3) 0 s (by omega) (by omega) hs

end Go.Proofs.Ytcpdiahbdmcdcaa.Ev
