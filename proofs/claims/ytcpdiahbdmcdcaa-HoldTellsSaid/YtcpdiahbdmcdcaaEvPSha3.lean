/- Numbers as bytes, and what stands behind a text. -/
import Derived.Test.YtcpdiahbdmcdcaaEvPSha2
namespace Go.Proofs.Ytcpdiahbdmcdcaa.Ev
open Go Go.RowKit

def byteOf (y : BitVec 64) : UInt8 := UInt8.ofNat (y.toNat % 256)
theorem byteOf_toNat (y : BitVec 64) : ((byteOf y).toNat : Int) = U y % 256 := by
  unfold byteOf U
  rw [UInt8.toNat_ofNat_of_lt' (by simp [UInt8.size]; omega)]
  omega
/-- A number's last bytes, the highest first. -/
def bs (x : BitVec 64) : Nat → List UInt8
  | 0 => []
  | i + 1 => byteOf (x >>> (8 * i)) :: bs x i
theorem bs_len (x : BitVec 64) : ∀ i, (bs x i).length = i
  | 0 => rfl
  | i + 1 => by simp [bs, bs_len x i]

def B (l : List UInt8) : List AV := l.map fun c => .int (c.toNat : Int)
theorem bytesOf_B (l : List UInt8) : bytesOf (B l) = l := by
  unfold bytesOf B
  rw [List.map_map]
  conv => rhs; rw [← List.map_id l]
  apply List.map_congr_left
  intro c _
  simp [AV.toInt]
theorem set_rep (r : Nat) (z v : AV) (l : List AV) : (List.replicate (r + 1) z ++ l).set r v = List.replicate r z ++ (v :: l) := by
  apply List.ext_getElem
  · simp; omega
  · intro i h1 h2
    rw [List.getElem_set]
    by_cases e : r = i
    · subst e
      rw [if_pos rfl, List.getElem_append_right (by simp)]
      simp
    · rw [if_neg e]
      by_cases hi : i < r
      · rw [List.getElem_append_left (by simp; omega), List.getElem_append_left (by simp; omega)]; simp
      · rw [List.getElem_append_right (by simp; omega), List.getElem_append_right (by simp; omega)]
        simp only [List.length_replicate]
        rw [List.getElem_cons]
        rw [dif_neg (by omega)]
        congr 1

theorem put_l0 (run : Run) (n : Nat) (x : BitVec 64) (m : Nat) (hm : m ≤ 1000) : ∀ (j k i : Nat), i + j = m → j < k →
    f130_l0 run n k (U (x >>> (8 * i))) (m : Int) m (m : Int) (i : Int) (List.replicate (m - i) (.int 0) ++ B (bs x i)) = some ⟨[.str (bs x m)], [], false⟩ := by
  intro j
  induction j with
  | zero =>
    intro k i hi hk
    obtain ⟨k, rfl⟩ : ∃ j, k = j + 1 := ⟨k - 1, by omega⟩
    rw [Nat.add_zero] at hi
    subst hi
    rw [f130_l0_eq, ltI_f (by omega), cond_false, Nat.sub_self, List.replicate_zero, List.nil_append, List.drop_zero, List.take_of_length_le (by simp [B, bs_len]), bytesOf_B]
    rfl
  | succ j ih =>
    intro k i hi hk
    obtain ⟨k, rfl⟩ : ∃ j, k = j + 1 := ⟨k - 1, by omega⟩
    have ih' := ih k (i + 1) (by omega) (by omega)
    rw [show ((i + 1 : Nat) : Int) = (i : Int) + 1 by omega] at ih'
    have e1 : x >>> (8 * (i + 1)) = (x >>> (8 * i)) >>> 8 := by rw [← BitVec.shiftRight_add]; congr 1
    have e2 : IntKind.wrap .u8 (U (x >>> (8 * i))) = ((byteOf (x >>> (8 * i))).toNat : Int) := by rw [wrap8, byteOf_toNat]
    have e3 := set_rep (m - (i + 1)) (.int 0) (.int ((byteOf (x >>> (8 * i))).toNat : Int)) (B (bs x i))
    rw [show m - (i + 1) + 1 = m - i by omega, show AV.int ((byteOf (x >>> (8 * i))).toNat : Int) :: B (bs x i) = B (bs x (i + 1)) from rfl] at e3
    rw [e1, ← U_shr, ← e3] at ih'
    rw [f130_l0_eq, ltI_t (by omega), cond_true, w64 (x := (m : Int) - 1) (by omega) (by omega), w64 (x := (m : Int) - 1 - i) (by omega) (by omega), w64 (x := (i : Int) + 1) (by omega) (by omega), inR_yes (by omega) (by omega), cond_true, show ((m : Int) - 1 - i).toNat = m - (i + 1) by omega, Nat.zero_add, e2]
    exact ih'

theorem put_at (n : Nat) (hn : 2000 ≤ n) (x : BitVec 64) {m : Nat} (hm : m ≤ 1000) : runE G ext (n + 1) 130 [.int (U x), .int m] = some ⟨[.str (bs x m)], [], false⟩ := by
  rw [f130_run, f130_eq, eqI_t rfl, leI_t (by omega), Int.toNat_natCast, show Nat.ble (m * 1) 140737488355328 = true from Nat.ble_eq_true_of_le (by omega)]
  have := put_l0 (runE G ext n) n x m hm m n 0 (by omega) (by omega)
  rw [Nat.mul_zero, BitVec.ushiftRight_zero, Nat.sub_zero, show B (bs x 0) = [] from rfl, List.append_nil] at this
  exact this

theorem refByte_at (n : Nat) (c : Int) : runE G ext (n + 1) 102 [.int c] = some ⟨[.str (bytesOf [.int (IntKind.wrap .u8 c)])], [], false⟩ := by
  rw [f102_run, f102_eq]; rfl

theorem refPut_l0 (m n : Nat) (x : BitVec 64) (size : Nat) (hm : size ≤ 1000) : ∀ (j k i : Nat), i + j = size → j < k →
    f94_l0 (runE G ext (m + 1)) n k (U (x >>> (8 * i))) (size : Int) (bs x i) (i : Int) = some ⟨[.str (bs x size)], [], false⟩ := by
  intro j
  induction j with
  | zero =>
    intro k i hi hk
    obtain ⟨k, rfl⟩ : ∃ j, k = j + 1 := ⟨k - 1, by omega⟩
    rw [Nat.add_zero] at hi
    subst hi
    rw [f94_l0_eq, ltI_f (by omega)]; rfl
  | succ j ih =>
    intro k i hi hk
    obtain ⟨k, rfl⟩ : ∃ j, k = j + 1 := ⟨k - 1, by omega⟩
    have ih' := ih k (i + 1) (by omega) (by omega)
    rw [show ((i + 1 : Nat) : Int) = (i : Int) + 1 by omega] at ih'
    have e1 : x >>> (8 * (i + 1)) = (x >>> (8 * i)) >>> 8 := by rw [← BitVec.shiftRight_add]; congr 1
    obtain ⟨u1, u2⟩ := U_lt (x >>> (8 * i))
    have u3 : U (x >>> (8 * i)) < 18446744073709551616 := u2
    have e2 : bytesOf [.int (IntKind.wrap .u8 (IntKind.wrap .i64 (Int.tmod (U (x >>> (8 * i))) 256)))] = [byteOf (x >>> (8 * i))] := by
      rw [Int.tmod_eq_emod_of_nonneg u1, w64 (by omega) (by omega), wrap8, Int.emod_emod_of_dvd _ (by decide), ← byteOf_toNat]
      exact bytesOf_B [byteOf (x >>> (8 * i))]
    have e3 : IntKind.wrap .u64 (Int.tdiv (U (x >>> (8 * i))) 256) = U ((x >>> (8 * i)) >>> 8) := by
      have h8 := U_shr (x >>> (8 * i)) 8
      rw [Int.fdiv_eq_ediv_of_nonneg _ (by decide), show (2 : Int) ^ 8 = 256 from rfl] at h8
      rw [Int.tdiv_eq_ediv_of_nonneg u1, wrap64, ← h8]; omega
    rw [e1] at ih'
    rw [f94_l0_eq, ltI_t (by omega), cond_true, refByte_at, e2, bind_run, nilV_n, consV_c, nilV_n, toStr_s, show Nat.ble ([byteOf (x >>> (8 * i))].length + (bs x i).length) maxLen = true from Nat.ble_eq_true_of_le (by rw [bs_len, maxLen_eq]; simp; omega), cond_true, w64 (x := (i : Int) + 1) (by omega) (by omega), e3]
    exact ih'

theorem refPut_at (n : Nat) (hn : 2000 ≤ n) (x : BitVec 64) {m : Nat} (hm : m ≤ 1000) : runE G ext (n + 2) 94 [.int (U x), .int m] = some ⟨[.str (bs x m)], [], false⟩ := by
  rw [f94_run, f94_eq]
  have := refPut_l0 n (n + 1) x m hm m (n + 1) 0 (by omega) (by omega)
  rw [Nat.mul_zero, BitVec.ushiftRight_zero] at this
  exact this

/- what stands behind a text -/
def gapV (n : Nat) : Nat := (119 - n % 64) % 64
def padV (n : Nat) : List UInt8 := ([128] ++ List.replicate (gapV n) 0) ++ bs (BitVec.ofNat 64 (8 * n)) 8
theorem padV_len (n : Nat) : (padV n).length = gapV n + 9 := by simp [padV, bs_len]

theorem repeatL_rep : ∀ c : Nat, Lib.repeatL [0] c = List.replicate c 0
  | 0 => rfl
  | c + 1 => by simp [Lib.repeatL, repeatL_rep c, List.replicate_succ]

theorem ext_repeat (s : List UInt8) (c : Int) (h0 : 0 ≤ c) (h1 : c < 1048576) (hs : s.length ≤ 1048576) (n : Nat) : runE G ext n 134 [.str s, .int c] = some ⟨[.str (Lib.repeatL s c.toNat)], [], false⟩ := by
  refine ext_at ?_ n
  show repeatX [.str s, .int c] = _
  unfold repeatX
  simp only [toInt_i, toStr_s]
  rw [leI_t h0, ltI_t h1, show Nat.ble s.length 1048576 = true from Nat.ble_eq_true_of_le hs]
  rfl

theorem pad_at (m : Nat) (hm : 2000 ≤ m) {n : Nat} (hn : n ≤ 1152921504606846976) : runE G ext (m + 3) 127 [.int (n : Int)] = some ⟨[.str (padV n)], [], false⟩ := by
  have e1 : Int.tmod (n : Int) 64 = ((n % 64 : Nat) : Int) := by rw [Int.tmod_eq_emod_of_nonneg (by omega)]; omega
  have e2 : IntKind.wrap .u64 (119 - ((n % 64 : Nat) : Int)) = ((119 - n % 64 : Nat) : Int) := by rw [wrap64]; omega
  have e3 : Int.tmod ((119 - n % 64 : Nat) : Int) 64 = ((gapV n : Nat) : Int) := by unfold gapV; rw [Int.tmod_eq_emod_of_nonneg (by omega)]; omega
  have hg : gapV n < 64 := by unfold gapV; omega
  have e4 : IntKind.wrap .u64 (8 * (n : Int)) = U (BitVec.ofNat 64 (8 * n)) := by unfold U; rw [wrap64, BitVec.toNat_ofNat]; omega
  have hp : runE G ext (m + 2) 119 [.int (U (BitVec.ofNat 64 (8 * n)))] = some ⟨[.str (bs (BitVec.ofNat 64 (8 * n)) 8)], [], false⟩ := by
    have := put_at m hm (BitVec.ofNat 64 (8 * n)) (m := 8) (by omega)
    rw [f119_run, f119_eq, show (8 : Int) = ((8 : Nat) : Int) from rfl, this]
    rfl
  have hr := ext_repeat [0] (gapV n : Int) (by omega) (by omega) (by simp) (m + 2)
  rw [f127_run, f127_eq, e1, e2, e3, w64 (by omega) (by omega), hr, bind_run, nilV_n, consV_c, nilV_n, toStr_s, Int.toNat_natCast, repeatL_rep,
    show Nat.ble (1 + (List.replicate (gapV n) (0 : UInt8)).length) maxLen = true from Nat.ble_eq_true_of_le (by rw [maxLen_eq]; simp; omega), cond_true, e4, hp, bind_run, nilV_n, consV_c, nilV_n, toStr_s,
    show Nat.ble (([(128 : UInt8)] ++ List.replicate (gapV n) (0 : UInt8)).length + (bs (BitVec.ofNat 64 (8 * n)) 8).length) maxLen = true from Nat.ble_eq_true_of_le (by rw [maxLen_eq, bs_len]; simp; omega), cond_true]
  rfl

theorem refPad_l0 (m n : Nat) (hm : 2000 ≤ m) {x : Nat} (hx : x ≤ 1152921504606846976) : ∀ (j k i : Nat), i + j = gapV x → j < k →
    f92_l0 (runE G ext (m + 2)) n k (x : Int) ([128] ++ List.replicate i 0) = some ⟨[.str (padV x)], [], false⟩ := by
  have hg : gapV x < 64 := by unfold gapV; omega
  intro j
  induction j with
  | zero =>
    intro k i hi hk
    obtain ⟨k, rfl⟩ : ∃ j, k = j + 1 := ⟨k - 1, by omega⟩
    rw [Nat.add_zero] at hi
    subst hi
    have e1 : Int.tmod (x : Int) 64 = ((x % 64 : Nat) : Int) := by rw [Int.tmod_eq_emod_of_nonneg (by omega)]; omega
    have el : ((([(128 : UInt8)] ++ List.replicate (gapV x) (0 : UInt8)).length : Nat) : Int) = ((1 + gapV x : Nat) : Int) := by simp; omega
    have e2 : IntKind.wrap .u64 ((1 + gapV x : Nat) : Int) = ((1 + gapV x : Nat) : Int) := by rw [wrap64]; omega
    have e3 : IntKind.wrap .u64 (((x % 64 : Nat) : Int) + ((1 + gapV x : Nat) : Int)) = ((x % 64 + (1 + gapV x) : Nat) : Int) := by rw [wrap64]; omega
    have e4 : IntKind.wrap .u64 (((x % 64 + (1 + gapV x) : Nat) : Int) + 8) = ((x % 64 + (1 + gapV x) + 8 : Nat) : Int) := by rw [wrap64]; omega
    have e5 : Int.tmod ((x % 64 + (1 + gapV x) + 8 : Nat) : Int) 64 = 0 := by rw [Int.tmod_eq_emod_of_nonneg (by omega)]; unfold gapV; omega
    have e6 : IntKind.wrap .u64 ((x : Int) * 8) = U (BitVec.ofNat 64 (8 * x)) := by unfold U; rw [wrap64, BitVec.toNat_ofNat]; omega
    have hp : runE G ext (m + 2) 94 [.int (U (BitVec.ofNat 64 (8 * x))), .int 8] = some ⟨[.str (bs (BitVec.ofNat 64 (8 * x)) 8)], [], false⟩ := refPut_at m hm _ (m := 8) (by omega)
    rw [f92_l0_eq, e1, el, e2, e3, e4, e5, eqI_t rfl, not_t, cond_false, e6, hp, bind_run, nilV_n, consV_c, nilV_n, toStr_s,
      show Nat.ble (([(128 : UInt8)] ++ List.replicate (gapV x) (0 : UInt8)).length + (bs (BitVec.ofNat 64 (8 * x)) 8).length) maxLen = true from Nat.ble_eq_true_of_le (by rw [maxLen_eq, bs_len]; simp; omega), cond_true]
    rfl
  | succ j ih =>
    intro k i hi hk
    obtain ⟨k, rfl⟩ : ∃ j, k = j + 1 := ⟨k - 1, by omega⟩
    have ih' := ih k (i + 1) (by omega) (by omega)
    have e1 : Int.tmod (x : Int) 64 = ((x % 64 : Nat) : Int) := by rw [Int.tmod_eq_emod_of_nonneg (by omega)]; omega
    have el : ((([(128 : UInt8)] ++ List.replicate i (0 : UInt8)).length : Nat) : Int) = ((1 + i : Nat) : Int) := by simp; omega
    have e2 : IntKind.wrap .u64 ((1 + i : Nat) : Int) = ((1 + i : Nat) : Int) := by rw [wrap64]; omega
    have e3 : IntKind.wrap .u64 (((x % 64 : Nat) : Int) + ((1 + i : Nat) : Int)) = ((x % 64 + (1 + i) : Nat) : Int) := by rw [wrap64]; omega
    have e4 : IntKind.wrap .u64 (((x % 64 + (1 + i) : Nat) : Int) + 8) = ((x % 64 + (1 + i) + 8 : Nat) : Int) := by rw [wrap64]; omega
    have e5 : ¬ Int.tmod ((x % 64 + (1 + i) + 8 : Nat) : Int) 64 = 0 := by rw [Int.tmod_eq_emod_of_nonneg (by omega)]; unfold gapV at hi; omega
    have e7 : bytesOf [.int (IntKind.wrap .u8 0)] = [(0 : UInt8)] := by decide +kernel
    have e8 : ([128] ++ List.replicate i (0 : UInt8)) ++ [0] = [128] ++ List.replicate (i + 1) 0 := by rw [List.replicate_succ', List.append_assoc]
    rw [f92_l0_eq, e1, el, e2, e3, e4, eqI_f e5, not_f, cond_true, refByte_at, e7, bind_run, nilV_n, consV_c, nilV_n, toStr_s,
      show Nat.ble (([(128 : UInt8)] ++ List.replicate i (0 : UInt8)).length + [(0 : UInt8)].length) maxLen = true from Nat.ble_eq_true_of_le (by rw [maxLen_eq]; simp; omega), cond_true, e8]
    exact ih'

theorem refPad_at (m : Nat) (hm : 2000 ≤ m) {n : Nat} (hn : n ≤ 1152921504606846976) : runE G ext (m + 3) 92 [.int (n : Int)] = some ⟨[.str (padV n)], [], false⟩ := by
  have hg : gapV n < 64 := by unfold gapV; omega
  have e7 : bytesOf [.int (IntKind.wrap .u8 128)] = [(128 : UInt8)] := by decide +kernel
  rw [f92_run, f92_eq, refByte_at, e7, bind_run, nilV_n, consV_c, nilV_n, toStr_s]
  have := refPad_l0 m (m + 2) hm hn (gapV n) (m + 2) 0 (by omega) (by omega)
  rw [List.replicate_zero, List.append_nil] at this
  exact this

end Go.Proofs.Ytcpdiahbdmcdcaa.Ev
