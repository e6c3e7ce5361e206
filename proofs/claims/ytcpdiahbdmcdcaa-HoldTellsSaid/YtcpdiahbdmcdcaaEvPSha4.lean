/- The two sums are one. -/
import Derived.Test.YtcpdiahbdmcdcaaEvPSha3
namespace Go.Proofs.Ytcpdiahbdmcdcaa.Ev
open Go Go.RowKit

def fsN : List Int := [1779033703, 3144134277, 1013904242, 2773480762, 1359893119, 2600822924, 528734635, 1541459225]
def fs : List (BitVec 32) := fsN.map (BitVec.ofInt 32)
theorem fs_A : A fs = fsN.map AV.int := by kernel_rfl
theorem fs_len : fs.length = 8 := rfl

/-- Blocks of a text, from one on. -/
def blocksV (l : List UInt8) : Nat → Nat → List (BitVec 32) → List (BitVec 32)
  | 0, _, s => s
  | j + 1, at_, s => blocksV l j (at_ + 64) (mixV s ((l.take (at_ + 64)).drop at_))
theorem blocksV_len (l : List UInt8) : ∀ (j at_ : Nat) (s : List (BitVec 32)), s.length = 8 → (blocksV l j at_ s).length = 8
  | 0, _, _, h => h
  | j + 1, _, _, _ => blocksV_len l j _ _ (mixV_len _ _)
theorem blocks_split (l : List UInt8) : ∀ (i j at_ : Nat) (s : List (BitVec 32)), blocksV l (i + j) at_ s = blocksV l j (at_ + 64 * i) (blocksV l i at_ s)
  | 0, j, at_, s => by simp [blocksV]
  | i + 1, j, at_, s => by
    rw [show i + 1 + j = (i + j) + 1 by omega]
    simp only [blocksV]
    rw [blocks_split l i j (at_ + 64), show at_ + 64 + 64 * i = at_ + 64 * (i + 1) by omega]
theorem blocks_app (b p : List UInt8) : ∀ (j at_ : Nat) (s : List (BitVec 32)), at_ + 64 * j ≤ b.length → blocksV (b ++ p) j at_ s = blocksV b j at_ s
  | 0, _, _, _ => rfl
  | j + 1, at_, s, h => by
    simp only [blocksV]
    rw [List.take_append_of_le_length (by omega), blocks_app b p j (at_ + 64) _ (by omega)]
theorem blocks_drop (l : List UInt8) (c : Nat) : ∀ (j at_ : Nat) (s : List (BitVec 32)), blocksV (l.drop c) j at_ s = blocksV l j (c + at_) s
  | 0, _, _ => rfl
  | j + 1, at_, s => by
    simp only [blocksV]
    rw [List.take_drop, List.drop_drop, blocks_drop l c j (at_ + 64), show c + (at_ + 64) = c + at_ + 64 by omega]

/- writing -/
theorem write_l0 (m n : Nat) (hm : 2000 ≤ m) (l : List UInt8) (hl : l.length ≤ 4611686018427387904) (o3 : Int) (o4 : Bool) : ∀ (j k at_ : Nat) (s : List (BitVec 32)), (l.length - at_) / 64 = j → at_ ≤ l.length → j < k → s.length = 8 →
    f116_l0 (runE G ext (m + 4)) n k (at_ : Int) (A s) l o3 o4 = some ⟨[], [.agg [.agg (A (blocksV l j at_ s)), .str (l.drop (at_ + 64 * j)), .int o3, .bool o4]], false⟩ := by
  intro j
  induction j with
  | zero =>
    intro k at_ s hj hat hk hs
    obtain ⟨k, rfl⟩ : ∃ j, k = j + 1 := ⟨k - 1, by omega⟩
    have hb : boundsOk (at_ : Int) (l.length : Int) (l.length : Int) (l.length : Int) = true := by simp [boundsOk]; omega
    rw [f116_l0_eq, w64 (x := (l.length : Int) - at_) (by omega) (by omega), leI_f (by omega), cond_false, hb, cond_true, Int.toNat_natCast, Int.toNat_natCast, List.take_length]
    rfl
  | succ j ih =>
    intro k at_ s hj hat hk hs
    obtain ⟨k, rfl⟩ : ∃ j, k = j + 1 := ⟨k - 1, by omega⟩
    have ih' := ih k (at_ + 64) (mixV s ((l.take (at_ + 64)).drop at_)) (by omega) (by omega) (by omega) (mixV_len _ _)
    rw [show ((at_ + 64 : Nat) : Int) = (at_ : Int) + 64 by omega] at ih'
    have hb : boundsOk (at_ : Int) ((at_ : Int) + 64) (l.length : Int) (l.length : Int) = true := by simp [boundsOk]; omega
    rw [f116_l0_eq, w64 (x := (l.length : Int) - at_) (by omega) (by omega), leI_t (by omega), cond_true, w64 (x := (at_ : Int) + 64) (by omega) (by omega), hb, cond_true, Int.toNat_natCast, show ((at_ : Int) + 64).toNat = at_ + 64 by omega,
      mix_at m hm hs (by rw [maxLen_eq]; simp; omega), bind_run, nilV_n, consV_c, nilV_n, toAgg_a, ih']
    simp only [blocksV]
    rw [show at_ + 64 + 64 * j = at_ + 64 * (j + 1) by omega]

/-- A sum's state behind some bytes. -/
def stateV (s : List (BitVec 32)) (rest : List UInt8) (n : Int) (on : Bool) : AV := .agg [.agg (A s), .str rest, .int n, .bool on]

theorem write_on (n : Nat) {s : List (BitVec 32)} {rest b : List UInt8} (hs : s.length = 8) (hb : rest.length + b.length ≤ 1152921504606846976) (N : Nat) (hN : N + b.length ≤ 1152921504606846976) (hn : rest.length + b.length + 3000 ≤ n) :
    runE G ext (n + 1) 116 [stateV s rest (N : Int) true, .str b] = some ⟨[], [stateV (blocksV (rest ++ b) ((rest ++ b).length / 64) 0 s) ((rest ++ b).drop (64 * ((rest ++ b).length / 64))) ((N + b.length : Nat) : Int) true], false⟩ := by
  obtain ⟨m, rfl⟩ : ∃ m, n = m + 4 := ⟨n - 4, by omega⟩
  unfold stateV
  have e1 : IntKind.wrap .u64 ((N : Int) + IntKind.wrap .u64 (b.length : Int)) = ((N + b.length : Nat) : Int) := by rw [wrap64, wrap64]; omega
  have hlen : (rest ++ b).length = rest.length + b.length := by simp
  rw [f116_run, f116_eq, not_t, cond_false, show Nat.ble (rest.length + b.length) maxLen = true from Nat.ble_eq_true_of_le (by rw [maxLen_eq]; omega), cond_true, e1]
  have := write_l0 m (m + 4) (by omega) (rest ++ b) (by omega) ((N + b.length : Nat) : Int) true ((rest ++ b).length / 64) (m + 4) 0 s (by simp) (by omega) (by omega) hs
  rw [Nat.zero_add] at this
  exact this

theorem write_off (n : Nat) {b : List UInt8} (l0 : List AV) (hb : b.length ≤ 1152921504606846976) (hn : b.length + 3000 ≤ n) :
    runE G ext (n + 1) 116 [.agg [.agg l0, .str [], .int 0, .bool false], .str b] = some ⟨[], [stateV (blocksV b (b.length / 64) 0 fs) (b.drop (64 * (b.length / 64))) (b.length : Int) true], false⟩ := by
  obtain ⟨m, rfl⟩ : ∃ m, n = m + 4 := ⟨n - 4, by omega⟩
  unfold stateV
  have e1 : IntKind.wrap .u64 ((0 : Int) + IntKind.wrap .u64 (b.length : Int)) = (b.length : Int) := by rw [wrap64, wrap64]; omega
  have hf : runE G ext (m + 4) 125 [] = some ⟨[.agg (A fs)], [], false⟩ := by
    rw [f125_run, f125_eq, fs_A]; kernel_rfl
  rw [f116_run, f116_eq, not_f, cond_true, hf, bind_run, nilV_n, consV_c, nilV_n, toAgg_a, show Nat.ble (([] : List UInt8).length + b.length) maxLen = true from Nat.ble_eq_true_of_le (by rw [maxLen_eq]; simp; omega), cond_true, e1, List.nil_append]
  have := write_l0 m (m + 4) (by omega) b (by omega) (b.length : Int) true (b.length / 64) (m + 4) 0 fs (by simp) (by omega) (by omega) fs_len
  rw [Nat.zero_add] at this
  exact this

/- the words, as bytes -/
def wordB (x : BitVec 32) : List UInt8 := bs (x.setWidth 64) 4
def outV (w : List (BitVec 32)) : List UInt8 := (w.map wordB).flatten
theorem outV_len : ∀ w : List (BitVec 32), (outV w).length = 4 * w.length
  | [] => rfl
  | x :: w => by
    have := outV_len w
    unfold outV at this ⊢
    simp only [List.map_cons, List.flatten_cons, List.length_append, List.length_cons, this, wordB, bs_len]
    omega
theorem outV_snoc (w : List (BitVec 32)) (x : BitVec 32) : outV (w ++ [x]) = outV w ++ wordB x := by simp [outV]

theorem U_set (x : BitVec 32) : IntKind.wrap .u64 (U x) = U (x.setWidth 64) := by
  have := x.isLt
  rw [wrap64]; unfold U; rw [BitVec.toNat_setWidth]; omega
theorem put32_at (m : Nat) (hm : 2000 ≤ m) (x : BitVec 32) : runE G ext (m + 2) 128 [.int (U x)] = some ⟨[.str (wordB x)], [], false⟩ := by
  have h : runE G ext (m + 1) 130 [.int (U (x.setWidth 64)), .int 4] = some ⟨[.str (wordB x)], [], false⟩ := put_at m hm _ (m := 4) (by omega)
  rw [f128_run, f128_eq, U_set, h]; rfl

theorem splice_bytes (o x : List UInt8) (k : Nat) : bytesOf (splice (ofBytes o) k (ofBytes x)) = o.take k ++ (x ++ o.drop (k + x.length)) := by
  have e : splice (ofBytes o) k (ofBytes x) = B (o.take k ++ (x ++ o.drop (k + x.length))) := by
    simp [splice, ofBytes, B, List.map_take, List.map_drop]
  rw [e, bytesOf_B]

theorem take_get (w : List (BitVec 32)) {i : Nat} (h : i < w.length) : w.take (i + 1) = w.take i ++ [w.getD i 0] := by
  rw [List.take_succ_eq_append_getElem h]; simp [h]

theorem sum_l0 (m n : Nat) (hm : 2000 ≤ m) (w : List (BitVec 32)) (hw : w.length = 8) (o1 : List AV) (o2 : List UInt8) (o3 : Int) (o4 : Bool) (o5 : List UInt8) : ∀ (j k i : Nat), i + j = 8 → j < k →
    f117_l0 (runE G ext (m + 2)) n k (A w) (i : Int) o1 o2 o3 o4 o5 (outV (w.take i) ++ List.replicate (32 - 4 * i) 0) = some ⟨[.blob (outV w)], [.agg [.agg o1, .str o2, .int o3, .bool o4]], false⟩ := by
  intro j
  induction j with
  | zero =>
    intro k i hi hk
    obtain ⟨k, rfl⟩ : ∃ j, k = j + 1 := ⟨k - 1, by omega⟩
    rw [Nat.add_zero] at hi
    subst hi
    rw [f117_l0_eq, ltI_f (by omega), cond_false, List.take_of_length_le (by omega), Nat.sub_self, List.replicate_zero, List.append_nil]
    rfl
  | succ j ih =>
    intro k i hi hk
    obtain ⟨k, rfl⟩ : ∃ j, k = j + 1 := ⟨k - 1, by omega⟩
    have ih' := ih k (i + 1) (by omega) (by omega)
    rw [show ((i + 1 : Nat) : Int) = (i : Int) + 1 by omega] at ih'
    have hb : boundsOk (4 * (i : Int)) (4 * (i : Int) + 4) (4 * (i : Int) + 4) 32 = true := by simp [boundsOk]; omega
    have hl : (outV (w.take i)).length = 4 * i := by rw [outV_len]; simp; omega
    have hx : (wordB (w.getD i 0)).length = 4 := bs_len _ _
    have e : bytesOf (splice (ofBytes (outV (w.take i) ++ List.replicate (32 - 4 * i) 0)) (4 * i) (List.take 4 (ofBytes (wordB (w.getD i 0))))) = outV (w.take (i + 1)) ++ List.replicate (32 - 4 * (i + 1)) 0 := by
      rw [List.take_of_length_le (l := ofBytes (wordB (w.getD i 0))) (i := 4) (by unfold ofBytes; rw [List.length_map]; omega), splice_bytes, List.take_append_of_le_length (by omega), List.take_of_length_le (l := outV (w.take i)) (by omega), take_get w (by omega), outV_snoc, hx, List.append_assoc]
      congr 2
      rw [List.drop_append, List.drop_eq_nil_of_le (by omega), List.nil_append, hl, List.drop_replicate]
      congr 1
      omega
    rw [f117_l0_eq, ltI_t (by omega), cond_true, inR_nat (by omega), cond_true, w64 (x := 4 * (i : Int)) (by omega) (by omega), w64 (x := 4 * (i : Int) + 4) (by omega) (by omega), w64 (x := (i : Int) + 1) (by omega) (by omega), hb, Bool.and_true, cond_true, Int.toNat_natCast, fldA' (by omega), put32_at m hm, bind_run, nilV_n, consV_c, nilV_n, toStr_s,
      show (4 * (i : Int)).toNat = 4 * i by omega, show (4 * (i : Int) + 4).toNat = 4 * i + 4 by omega, Nat.add_sub_cancel_left, e]
    exact ih'

theorem sum_on (n : Nat) {s : List (BitVec 32)} {rest : List UInt8} (hs : s.length = 8) (N : Nat) (hr : rest.length ≤ 1152921504606840000) (hN : N ≤ 1152921504606840000) (hn : rest.length + 5000 ≤ n) :
    runE G ext (n + 1) 117 [stateV s rest (N : Int) true] = some ⟨[.blob (outV (blocksV (rest ++ padV N) ((rest ++ padV N).length / 64) 0 s))], [stateV s rest (N : Int) true], false⟩ := by
  obtain ⟨m, rfl⟩ : ∃ m, n = m + 4 := ⟨n - 4, by omega⟩
  have hg : gapV N < 64 := by unfold gapV; omega
  have hp := pad_at (m + 1) (by omega) (n := N) (by omega)
  have hw := write_on (m + 3) (s := s) (rest := rest) (b := padV N) hs (by rw [padV_len]; omega) N (by rw [padV_len]; omega) (by rw [padV_len]; omega)
  unfold stateV at hw ⊢
  rw [f117_run, f117_eq, hp, bind_run, nilV_n, consV_c, nilV_n, toStr_s, hw, bind_run, consV_c, nilV_n, nilV_n]
  have := sum_l0 (m + 2) (m + 4) (by omega) (blocksV (rest ++ padV N) ((rest ++ padV N).length / 64) 0 s) (blocksV_len _ _ _ _ hs) (A s) rest (N : Int) true (List.replicate 32 0) 8 (m + 4) 0 (by omega) (by omega)
  rw [List.take_zero, show outV [] = [] from rfl, List.nil_append] at this
  exact this

/-- The sum of a text. -/
def hashV (b : List UInt8) : List UInt8 := outV (blocksV (b ++ padV b.length) ((b ++ padV b.length).length / 64) 0 fs)
theorem hashV_len (b : List UInt8) : (hashV b).length = 32 := by
  unfold hashV
  rw [outV_len, blocksV_len _ _ _ _ fs_len]

theorem two_steps (b p : List UInt8) : blocksV (b.drop (64 * (b.length / 64)) ++ p) ((b.drop (64 * (b.length / 64)) ++ p).length / 64) 0 (blocksV b (b.length / 64) 0 fs) = blocksV (b ++ p) ((b ++ p).length / 64) 0 fs := by
  have e1 : b.drop (64 * (b.length / 64)) ++ p = (b ++ p).drop (64 * (b.length / 64)) := by rw [List.drop_append_of_le_length (by omega)]
  have e2 : (b ++ p).length / 64 = b.length / 64 + ((b ++ p).drop (64 * (b.length / 64))).length / 64 := by simp; omega
  rw [e1, e2, blocks_split, blocks_drop, Nat.zero_add, Nat.add_zero, ← blocks_app b p (b.length / 64) 0 fs (by omega)]

theorem sha_at (n : Nat) {b : List UInt8} (hb : b.length ≤ 1152921504606840000) (hn : b.length + 6000 ≤ n) : runE G ext (n + 1) 95 [.str b] = some ⟨[.blob (hashV b)], [], false⟩ := by
  obtain ⟨m, rfl⟩ : ∃ m, n = m + 1 := ⟨n - 1, by omega⟩
  have h0 : runE G ext (m + 1) 115 [] = some ⟨[.agg [.agg (List.replicate 8 (.int 0)), .str [], .int 0, .bool false]], [], false⟩ := by
    rw [f115_run, f115_eq]; rfl
  have h1 := write_off m (b := b) (List.replicate 8 (.int 0)) (by omega) (by omega)
  have h2 := sum_on m (s := blocksV b (b.length / 64) 0 fs) (rest := b.drop (64 * (b.length / 64))) (blocksV_len _ _ _ _ fs_len) b.length (by simp; omega) (by omega) (by simp; omega)
  rw [two_steps] at h2
  unfold stateV at h1 h2
  rw [f95_run, f95_eq, h0, bind_run, nilV_n, consV_c, nilV_n]
  have e : runE G ext (m + 1) 116 [.agg [.agg ((AV.fld (.agg [.agg (List.replicate 8 (.int 0)), .str [], .int 0, .bool false]) 0).toAgg), .str ((AV.fld (.agg [.agg (List.replicate 8 (.int 0)), .str [], .int 0, .bool false]) 1).toStr), .int ((AV.fld (.agg [.agg (List.replicate 8 (.int 0)), .str [], .int 0, .bool false]) 2).toInt), .bool ((AV.fld (.agg [.agg (List.replicate 8 (.int 0)), .str [], .int 0, .bool false]) 3).toBool)], .str b] = _ := h1
  rw [e, bind_run, consV_c, nilV_n, nilV_n]
  have e2 : ∀ (x : List AV) (y : List UInt8) (z : Int) (o : Bool), [AV.agg [.agg ((AV.fld (.agg [.agg x, .str y, .int z, .bool o]) 0).toAgg), .str ((AV.fld (.agg [.agg x, .str y, .int z, .bool o]) 1).toStr), .int ((AV.fld (.agg [.agg x, .str y, .int z, .bool o]) 2).toInt), .bool ((AV.fld (.agg [.agg x, .str y, .int z, .bool o]) 3).toBool)]] = [.agg [.agg x, .str y, .int z, .bool o]] := fun _ _ _ _ => rfl
  rw [e2, h2, bind_run, consV_c, nilV_n, consV_c, nilV_n, toBlob_b]
  rfl

/- the reference -/
theorem set_bytes {P : List UInt8} (r : Nat) (v : UInt8) : (P ++ List.replicate (r + 1) 0).set P.length v = P ++ [v] ++ List.replicate r 0 := by
  rw [List.set_append_right _ _ (Nat.le_refl _), Nat.sub_self, List.replicate_succ, List.set_cons_zero, List.append_assoc]; rfl

theorem refSum_l4 (run : Run) (n k0 k2 : Nat) (P v : List UInt8) (i : Nat) (hi : i < 8) (hP : P.length = 4 * i) (hv : v.length = 4) (o2 : List UInt8) (o3 : List AV) : ∀ (j k c : Nat), c + j = 4 → j < k →
    f60_l4 run n k0 k2 k (i : Int) v (c : Int) o2 o3 (P ++ v.take c ++ List.replicate (32 - 4 * i - c) 0) = f60_l2 run n k0 k2 ((i : Int) + 1) o2 o3 (P ++ v ++ List.replicate (32 - 4 * (i + 1)) 0) := by
  intro j
  induction j with
  | zero =>
    intro k c hc hk
    obtain ⟨k, rfl⟩ : ∃ j, k = j + 1 := ⟨k - 1, by omega⟩
    rw [Nat.add_zero] at hc
    subst hc
    rw [f60_l4_eq, ltI_f (by omega), cond_false, List.take_of_length_le (by omega), w64 (by omega) (by omega), show 32 - 4 * i - 4 = 32 - 4 * (i + 1) by omega]
  | succ j ih =>
    intro k c hc hk
    obtain ⟨k, rfl⟩ : ∃ j, k = j + 1 := ⟨k - 1, by omega⟩
    have ih' := ih k (c + 1) (by omega) (by omega)
    rw [show ((c + 1 : Nat) : Int) = (c : Int) + 1 by omega] at ih'
    have hl : (P ++ v.take c).length = 4 * i + c := by simp; omega
    have e := set_bytes (P := P ++ v.take c) (32 - 4 * i - (c + 1)) (v.getD c 0)
    rw [show 32 - 4 * i - (c + 1) + 1 = 32 - 4 * i - c by omega, hl, List.append_assoc P (v.take c) [v.getD c 0], show v.take c ++ [v.getD c 0] = v.take (c + 1) from by rw [List.take_succ_eq_append_getElem (by omega)]; simp [show c < v.length by omega]] at e
    rw [f60_l4_eq, ltI_t (by omega), cond_true, inR_nat (by omega), cond_true, w64 (x := 4 * (i : Int)) (by omega) (by omega), w64 (x := 4 * (i : Int) + c) (by omega) (by omega), inR_yes (by omega) (by omega), cond_true, w64 (x := (c : Int) + 1) (by omega) (by omega), show (4 * (i : Int) + c).toNat = 4 * i + c by omega, Int.toNat_natCast, Int.toNat_natCast, UInt8.ofNat_toNat, e]
    exact ih'

theorem refSum_l2 (m n k0 : Nat) (hm : 2000 ≤ m) (hn : 100 ≤ n) (w : List (BitVec 32)) (hw : w.length = 8) (o2 : List UInt8) : ∀ (j k i : Nat), i + j = 8 → j < k →
    f60_l2 (runE G ext (m + 2)) n k0 k (i : Int) o2 (A w) (outV (w.take i) ++ List.replicate (32 - 4 * i) 0) = some ⟨[.blob (outV w)], [], false⟩ := by
  intro j
  induction j with
  | zero =>
    intro k i hi hk
    obtain ⟨k, rfl⟩ : ∃ j, k = j + 1 := ⟨k - 1, by omega⟩
    rw [Nat.add_zero] at hi
    subst hi
    rw [f60_l2_eq, ltI_f (by omega), cond_false, List.take_of_length_le (by omega), Nat.sub_self, List.replicate_zero, List.append_nil]
    rfl
  | succ j ih =>
    intro k i hi hk
    obtain ⟨k, rfl⟩ : ∃ j, k = j + 1 := ⟨k - 1, by omega⟩
    have ih' := ih k (i + 1) (by omega) (by omega)
    rw [show ((i + 1 : Nat) : Int) = (i : Int) + 1 by omega, take_get w (by omega), outV_snoc] at ih'
    have hl : (outV (w.take i)).length = 4 * i := by rw [outV_len]; simp; omega
    have hp : runE G ext (m + 2) 94 [.int (U ((w.getD i 0).setWidth 64)), .int 4] = some ⟨[.str (wordB (w.getD i 0))], [], false⟩ := refPut_at m hm _ (m := 4) (by omega)
    have h4 := refSum_l4 (runE G ext (m + 2)) n k0 k (outV (w.take i)) (wordB (w.getD i 0)) i (by omega) hl (bs_len _ _) o2 (A w) 4 n 0 (by omega) (by omega)
    rw [List.take_zero, List.append_nil, Nat.sub_zero] at h4
    rw [f60_l2_eq, ltI_t (by omega), cond_true, inR_nat (by omega), cond_true, Int.toNat_natCast, fldA' (by omega), U_set, hp, bind_run, nilV_n, consV_c, nilV_n, toStr_s]
    exact h4.trans ih'

theorem refSum_l0 (m n : Nat) (hm : 2000 ≤ m) (hn : 100 ≤ n) (l : List UInt8) (Q : Nat) (hl : l.length = 64 * Q) (hQ : Q ≤ 100000000000000000) (o2 : List UInt8) : ∀ (j k i : Nat) (s : List (BitVec 32)), i + j = Q → j < k → s.length = 8 →
    f60_l0 (runE G ext (m + 4)) n k l ((64 * i : Nat) : Int) o2 (A s) = some ⟨[.blob (outV (blocksV l j (64 * i) s))], [], false⟩ := by
  intro j
  induction j with
  | zero =>
    intro k i s hi hk hs
    obtain ⟨k, rfl⟩ : ∃ j, k = j + 1 := ⟨k - 1, by omega⟩
    rw [f60_l0_eq, ltI_f (by omega), cond_false]
    have := refSum_l2 (m + 2) n k (by omega) hn s hs o2 8 n 0 (by omega) (by omega)
    rw [List.take_zero, show outV [] = [] from rfl, List.nil_append] at this
    exact this
  | succ j ih =>
    intro k i s hi hk hs
    obtain ⟨k, rfl⟩ : ∃ j, k = j + 1 := ⟨k - 1, by omega⟩
    have ih' := ih k (i + 1) (mixV s ((l.take (64 * i + 64)).drop (64 * i))) (by omega) (by omega) (mixV_len _ _)
    rw [show 64 * (i + 1) = 64 * i + 64 by omega, show ((64 * i + 64 : Nat) : Int) = ((64 * i : Nat) : Int) + 64 by omega] at ih'
    have hb : boundsOk ((64 * i : Nat) : Int) (((64 * i : Nat) : Int) + 64) (l.length : Int) (l.length : Int) = true := by simp [boundsOk]; omega
    rw [f60_l0_eq, ltI_t (by omega), cond_true, w64 (x := ((64 * i : Nat) : Int) + 64) (by omega) (by omega), hb, cond_true, Int.toNat_natCast, show (((64 * i : Nat) : Int) + 64).toNat = 64 * i + 64 by omega,
      refMix_at m hm hs (by rw [maxLen_eq]; simp; omega), bind_run, nilV_n, consV_c, nilV_n, toAgg_a, ih']
    rfl

theorem refSha_at (n : Nat) {b : List UInt8} (hb : b.length ≤ 1152921504606840000) (hn : b.length + 6000 ≤ n) : runE G ext (n + 1) 60 [.str b] = some ⟨[.blob (hashV b)], [], false⟩ := by
  obtain ⟨m, rfl⟩ : ∃ m, n = m + 4 := ⟨n - 4, by omega⟩
  have hg : gapV b.length < 64 := by unfold gapV; omega
  have hf : runE G ext (m + 4) 91 [] = some ⟨[.agg (A fs)], [], false⟩ := by
    rw [f91_run, f91_eq, fs_A]; kernel_rfl
  have hp := refPad_at (m + 1) (by omega) (n := b.length) (by omega)
  have hlen : (b ++ padV b.length).length = b.length + (gapV b.length + 9) := by rw [List.length_append, padV_len]
  have hmod : (b.length + (gapV b.length + 9)) % 64 = 0 := by unfold gapV; omega
  have e1 : IntKind.wrap .u64 (b.length : Int) = (b.length : Int) := by rw [wrap64]; omega
  rw [f60_run, f60_eq, hf, bind_run, nilV_n, consV_c, nilV_n, e1, hp, bind_run, nilV_n, consV_c, nilV_n, toStr_s, toAgg_a, show Nat.ble (b.length + (padV b.length).length) maxLen = true from Nat.ble_eq_true_of_le (by rw [maxLen_eq, padV_len]; omega), cond_true]
  unfold hashV
  exact refSum_l0 m (m + 4) (by omega) (by omega) (b ++ padV b.length) ((b ++ padV b.length).length / 64) (by omega) (by omega) _ _ (m + 4) 0 fs (by omega) (by omega) fs_len

end Go.Proofs.Ytcpdiahbdmcdcaa.Ev
