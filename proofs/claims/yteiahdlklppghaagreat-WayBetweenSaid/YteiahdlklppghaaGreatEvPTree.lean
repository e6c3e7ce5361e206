/- Tags and trees: both programs tell the same. -/
import Derived.Test.YteiahdlklppghaaGreatEvPSha
namespace Go.Proofs.YteiahdlklppghaaGreat.Ev
open Go Go.RowKit

theorem step1 {α : Type} (v : AV) (fr : Bool) (K : AV → Option α) : (some (⟨[v], [], fr⟩ : Res)).bind (fun r => nilV r.outs (consV r.vals fun v vs => nilV vs (K v))) = K v := rfl
theorem step1f {α : Type} (v : AV) (K : AV → Option α) : (some (⟨[v], [], true⟩ : Res)).bind (fun r => bif r.fresh then nilV r.outs (consV r.vals fun v vs => nilV vs (K v)) else none) = K v := rfl
theorem step2 {α : Type} (v u : AV) (fr : Bool) (K : AV → AV → Option α) : (some (⟨[v, u], [], fr⟩ : Res)).bind (fun r => nilV r.outs (consV r.vals fun v vs => consV vs fun u us => nilV us (K v u))) = K v u := rfl

theorem sha_runs {b : List UInt8} (hb : b.length ≤ 1152921504606840000) : RunsX 135 [.str b] ⟨[.blob (hashV b)], [], false⟩ :=
  Evt.succ ((Evt.ge (b.length + 6000)).mono fun n hn => sha_at n hb hn)
theorem refSha_runs {b : List UInt8} (hb : b.length ≤ 1152921504606840000) : RunsX 91 [.str b] ⟨[.blob (hashV b)], [], false⟩ :=
  Evt.succ ((Evt.ge (b.length + 6000)).mono fun n hn => refSha_at n hb hn)

/- texts -/
def leafT (s : List UInt8) : List UInt8 := [0] ++ s
def nodeT (a b : List UInt8) : List UInt8 := [1] ++ a ++ b
def rootT (n : Nat) (h : List UInt8) : List UInt8 := [2] ++ bs (BitVec.ofNat 64 n) 8 ++ h
def leafH (s : List UInt8) : List UInt8 := hashV (leafT s)
def nodeH (a b : List UInt8) : List UInt8 := hashV (nodeT a b)
def rootH (n : Nat) (h : List UInt8) : List UInt8 := hashV (rootT n h)

theorem ext_join (l : List AV) (hl : l.length ≤ 1048576) (hb : (Lib.join (l.map AV.toStr) []).length ≤ 140737488355328) (n : Nat) : runE G ext n 172 [.slice l, .str []] = some ⟨[.str (Lib.join (l.map AV.toStr) [])], [], false⟩ := by
  refine ext_at ?_ n
  show joinX [.slice l, .str []] = _
  unfold joinX
  simp only [toSlice_s, toStr_s]
  rw [show Nat.ble l.length 1048576 = true from Nat.ble_eq_true_of_le hl, show Nat.ble (Lib.join (l.map AV.toStr) []).length 140737488355328 = true from Nat.ble_eq_true_of_le hb]
  rfl

theorem join1 (a : List UInt8) : Lib.join ([AV.str a].map AV.toStr) [] = a := by simp [Lib.join, List.intercalate, AV.toStr]
theorem join2 (a b : List UInt8) : Lib.join ([AV.str a, AV.str b].map AV.toStr) [] = a ++ b := by simp [Lib.join, List.intercalate, AV.toStr]

theorem text_at (n : Nat) (t : Int) (l : List AV) (hl : l.length ≤ 1048576) (hb : (Lib.join (l.map AV.toStr) []).length ≤ 140737488355328) : runE G ext (n + 1) 157 [.int t, .slice l] = some ⟨[.str (bytesOf [.int t] ++ Lib.join (l.map AV.toStr) [])], [], false⟩ := by
  rw [f157_run, f157_eq, ext_join l hl hb, step1, toStr_s, show Nat.ble ((bytesOf [.int t]).length + (Lib.join (l.map AV.toStr) []).length) maxLen = true from Nat.ble_eq_true_of_le (by rw [maxLen_eq]; simp [bytesOf]; omega), cond_true]
  rfl

theorem leafText_at (n : Nat) {s : List UInt8} (hs : s.length ≤ 140737488355328) : runE G ext (n + 2) 150 [.str s] = some ⟨[.str (leafT s)], [], false⟩ := by
  have h := text_at n 0 [.str s] (by simp) (by rw [join1]; exact hs)
  rw [join1, show bytesOf [.int 0] = [0] by decide +kernel] at h
  rw [f150_run, f150_eq, h, step1]
  rfl

theorem raw32 {a : List UInt8} (h : a.length = 32) : bytesOf (List.drop 0 (List.take 32 (ofBytes a))) = a := by
  rw [List.drop_zero, List.take_of_length_le (by simp [ofBytes, h])]
  exact bytesOf_B a

theorem nodeText_at (n : Nat) {a b : List UInt8} (ha : a.length = 32) (hb : b.length = 32) : runE G ext (n + 2) 166 [.blob a, .blob b] = some ⟨[.str (nodeT a b)], [], false⟩ := by
  have h := text_at n 1 [.str a, .str b] (by simp) (by rw [join2]; simp; omega)
  rw [join2, show bytesOf [.int 1] = [1] by decide +kernel] at h
  rw [f166_run, f166_eq, raw32 ha, raw32 hb, h, step1, toStr_s, ← List.append_assoc]
  rfl

theorem put64_at (m : Nat) (hm : 2000 ≤ m) (x : BitVec 64) : runE G ext (m + 2) 138 [.int (U x)] = some ⟨[.str (bs x 8)], [], false⟩ := by
  have h : runE G ext (m + 1) 158 [.int (U x), .int 8] = some ⟨[.str (bs x 8)], [], false⟩ := put_at m hm x (m := 8) (by omega)
  rw [f138_run, f138_eq, h, step1]
  rfl

theorem rootText_at (m : Nat) (hm : 2000 ≤ m) (n : Nat) {a : List UInt8} (ha : a.length = 32) : runE G ext (m + 3) 184 [.int (U (BitVec.ofNat 64 n)), .blob a] = some ⟨[.str (rootT n a)], [], false⟩ := by
  have h := text_at (m + 1) 2 [.str (bs (BitVec.ofNat 64 n) 8), .str a] (by simp) (by rw [join2]; simp [bs_len]; omega)
  rw [join2, show bytesOf [.int 2] = [2] by decide +kernel] at h
  rw [f184_run, f184_eq, put64_at m hm, step1, raw32 ha, toStr_s, h, step1, toStr_s, ← List.append_assoc]
  rfl

theorem leafT_len (s : List UInt8) : (leafT s).length = s.length + 1 := by simp [leafT]
theorem nodeT_len {a b : List UInt8} (ha : a.length = 32) (hb : b.length = 32) : (nodeT a b).length = 65 := by simp [nodeT, ha, hb]
theorem rootT_len (n : Nat) {a : List UInt8} (ha : a.length = 32) : (rootT n a).length = 41 := by simp [rootT, ha, bs_len]

theorem leafSum_runs {s : List UInt8} (hs : s.length ≤ 140737488355328) : RunsX 128 [.str s] ⟨[.blob (leafH s)], [], false⟩ := by
  refine Evt.succ (((sha_runs (b := leafT s) (by rw [leafT_len]; omega)).and (Evt.ge 10)).mono fun n hn => ?_)
  obtain ⟨m, rfl⟩ : ∃ m, n = m + 2 := ⟨n - 2, by omega⟩
  rw [f128_run, f128_eq, leafText_at m hs, step1, toStr_s, hn.1, step1]
  rfl
theorem nodeSum_runs {a b : List UInt8} (ha : a.length = 32) (hb : b.length = 32) : RunsX 149 [.blob a, .blob b] ⟨[.blob (nodeH a b)], [], false⟩ := by
  refine Evt.succ (((sha_runs (b := nodeT a b) (by rw [nodeT_len ha hb]; omega)).and (Evt.ge 10)).mono fun n hn => ?_)
  obtain ⟨m, rfl⟩ : ∃ m, n = m + 2 := ⟨n - 2, by omega⟩
  rw [f149_run, f149_eq, nodeText_at m ha hb, step1, toStr_s, hn.1, step1]
  rfl
theorem rootSum_runs (k : Nat) {a : List UInt8} (ha : a.length = 32) : RunsX 175 [.int (U (BitVec.ofNat 64 k)), .blob a] ⟨[.blob (rootH k a)], [], false⟩ := by
  refine Evt.succ (((sha_runs (b := rootT k a) (by rw [rootT_len k ha]; omega)).and (Evt.ge 3000)).mono fun n hn => ?_)
  obtain ⟨m, rfl⟩ : ∃ m, n = m + 3 := ⟨n - 3, by omega⟩
  rw [f175_run, f175_eq, rootText_at m (by omega) k ha, step1, toStr_s, hn.1, step1]
  rfl

/- the reference's -/
theorem setB {l : List UInt8} {m : Nat} (v : UInt8) : (B l ++ List.replicate (m + 1) (AV.int 0)).set l.length (.int (v.toNat : Int)) = B (l ++ [v]) ++ List.replicate m (.int 0) := by
  have hl : (B l).length = l.length := by simp [B]
  rw [List.set_append_right _ _ (by omega), hl, Nat.sub_self, List.replicate_succ, List.set_cons_zero]
  simp [B]

theorem raw_l0 (run : Run) (n : Nat) {a : List UInt8} (ha : a.length = 32) : ∀ (j k i : Nat), i + j = 32 → j < k →
    f109_l0 run n k (i : Int) a (B (a.take i) ++ List.replicate (32 - i) (.int 0)) = some ⟨[.str a], [], false⟩ := by
  intro j
  induction j with
  | zero =>
    intro k i hi hk
    obtain ⟨k, rfl⟩ : ∃ j, k = j + 1 := ⟨k - 1, by omega⟩
    rw [Nat.add_zero] at hi
    subst hi
    rw [f109_l0_eq, ltI_f (by omega), cond_false, Nat.sub_self, List.replicate_zero, List.append_nil, List.take_of_length_le (l := a) (i := 32) (by omega), List.drop_zero, List.take_of_length_le (by simp [B, ha]), bytesOf_B]
    rfl
  | succ j ih =>
    intro k i hi hk
    obtain ⟨k, rfl⟩ : ∃ j, k = j + 1 := ⟨k - 1, by omega⟩
    have ih' := ih k (i + 1) (by omega) (by omega)
    rw [show ((i + 1 : Nat) : Int) = (i : Int) + 1 by omega] at ih'
    have hl : (a.take i).length = i := by simp; omega
    have e := setB (l := a.take i) (m := 32 - (i + 1)) (a.getD i 0)
    rw [hl, show 32 - (i + 1) + 1 = 32 - i by omega, show a.take i ++ [a.getD i 0] = a.take (i + 1) from by rw [List.take_succ_eq_append_getElem (by omega)]; simp [show i < a.length by omega]] at e
    rw [f109_l0_eq, ltI_t (by omega), cond_true, inR_nat (by omega), cond_true, cond_true, w64 (by omega) (by omega), Int.toNat_natCast, Nat.zero_add, e]
    exact ih'

theorem raw_at (n : Nat) (hn : 100 ≤ n) {a : List UInt8} (ha : a.length = 32) : runE G ext (n + 1) 109 [.blob a] = some ⟨[.str a], [], false⟩ := by
  rw [f109_run, f109_eq]
  exact raw_l0 _ _ ha 32 n 0 (by omega) (by omega)

theorem refByte0 (n : Nat) (c : Int) (v : UInt8) (h : bytesOf [.int (IntKind.wrap .u8 c)] = [v]) : runE G ext (n + 1) 122 [.int c] = some ⟨[.str [v]], [], false⟩ := by rw [refByte_at, h]

theorem refLeafText_at (n : Nat) {s : List UInt8} (hs : s.length ≤ 140737488355328) : runE G ext (n + 2) 130 [.str s] = some ⟨[.str (leafT s)], [], false⟩ := by
  rw [f130_run, f130_eq, refByte0 n 0 0 (by decide +kernel), step1, toStr_s, show Nat.ble ([(0 : UInt8)].length + s.length) maxLen = true from Nat.ble_eq_true_of_le (by rw [maxLen_eq]; simp; omega), cond_true]
  rfl
theorem refNodeText_at (n : Nat) (hn : 100 ≤ n) {a b : List UInt8} (ha : a.length = 32) (hb : b.length = 32) : runE G ext (n + 2) 151 [.blob a, .blob b] = some ⟨[.str (nodeT a b)], [], false⟩ := by
  rw [f151_run, f151_eq, refByte0 n 1 1 (by decide +kernel), step1, raw_at n hn ha, step1, toStr_s, toStr_s, show Nat.ble ([(1 : UInt8)].length + a.length) maxLen = true from Nat.ble_eq_true_of_le (by rw [maxLen_eq]; simp; omega), cond_true,
    raw_at n hn hb, step1, toStr_s, show Nat.ble (([(1 : UInt8)] ++ a).length + b.length) maxLen = true from Nat.ble_eq_true_of_le (by rw [maxLen_eq]; simp; omega), cond_true]
  rfl
theorem refRootText_at (n : Nat) (hn : 2000 ≤ n) (k : Nat) {a : List UInt8} (ha : a.length = 32) : runE G ext (n + 3) 165 [.int (U (BitVec.ofNat 64 k)), .blob a] = some ⟨[.str (rootT k a)], [], false⟩ := by
  have hp : runE G ext (n + 2) 121 [.int (U (BitVec.ofNat 64 k)), .int 8] = some ⟨[.str (bs (BitVec.ofNat 64 k) 8)], [], false⟩ := refPut_at n hn _ (m := 8) (by omega)
  rw [f165_run, f165_eq, refByte0 (n + 1) 2 2 (by decide +kernel), step1, hp, step1, toStr_s, toStr_s, show Nat.ble ([(2 : UInt8)].length + (bs (BitVec.ofNat 64 k) 8).length) maxLen = true from Nat.ble_eq_true_of_le (by rw [maxLen_eq, bs_len]; simp), cond_true,
    raw_at (n + 1) (by omega) ha, step1, toStr_s, show Nat.ble (([(2 : UInt8)] ++ bs (BitVec.ofNat 64 k) 8).length + a.length) maxLen = true from Nat.ble_eq_true_of_le (by rw [maxLen_eq]; simp [bs_len]; omega), cond_true]
  rfl

theorem refLeaf_runs {s : List UInt8} (hs : s.length ≤ 140737488355328) : RunsX 108 [.str s] ⟨[.blob (leafH s)], [], false⟩ := by
  refine Evt.succ (((refSha_runs (b := leafT s) (by rw [leafT_len]; omega)).and (Evt.ge 10)).mono fun n hn => ?_)
  obtain ⟨m, rfl⟩ : ∃ m, n = m + 2 := ⟨n - 2, by omega⟩
  rw [f108_run, f108_eq, refLeafText_at m hs, step1, toStr_s, hn.1, step1]
  rfl
theorem refNode_runs {a b : List UInt8} (ha : a.length = 32) (hb : b.length = 32) : RunsX 129 [.blob a, .blob b] ⟨[.blob (nodeH a b)], [], false⟩ := by
  refine Evt.succ (((refSha_runs (b := nodeT a b) (by rw [nodeT_len ha hb]; omega)).and (Evt.ge 200)).mono fun n hn => ?_)
  obtain ⟨m, rfl⟩ : ∃ m, n = m + 2 := ⟨n - 2, by omega⟩
  rw [f129_run, f129_eq, refNodeText_at m (by omega) ha hb, step1, toStr_s, hn.1, step1]
  rfl
theorem refRoot_runs (k : Nat) {a : List UInt8} (ha : a.length = 32) : RunsX 147 [.int (U (BitVec.ofNat 64 k)), .blob a] ⟨[.blob (rootH k a)], [], false⟩ := by
  refine Evt.succ (((refSha_runs (b := rootT k a) (by rw [rootT_len k ha]; omega)).and (Evt.ge 3000)).mono fun n hn => ?_)
  obtain ⟨m, rfl⟩ : ∃ m, n = m + 3 := ⟨n - 3, by omega⟩
  rw [f147_run, f147_eq, refRootText_at m (by omega) k ha, step1, toStr_s, hn.1, step1]
  rfl

/- the left side's size -/
theorem lv_range : ∀ (j : Nat) (n p : Int), 1 ≤ p → p < n → 1 ≤ lv j n p ∧ lv j n p < n
  | 0, n, p, h1, h2 => ⟨h1, h2⟩
  | j + 1, n, p, h1, h2 => by
    simp only [lv]
    split
    · exact lv_range j n (2 * p) (by omega) (by assumption)
    · exact ⟨h1, h2⟩
theorem leftV_range {n : Int} (h : 2 ≤ n) : 1 ≤ leftV n ∧ leftV n < n := by
  unfold leftV
  rw [if_neg (by omega)]
  exact lv_range 64 n 1 (by omega) (by omega)

theorem pow_step {n p : Int} {j : Nat} (h : n ≤ p * 2 ^ (j + 1)) : n ≤ 2 * p * 2 ^ j := by
  rw [Int.pow_succ, Int.mul_comm (2 ^ j) 2, ← Int.mul_assoc, Int.mul_comm p 2] at h
  exact h

theorem left_l0 (run : Run) (m : Nat) (n : Int) (hn : n ≤ 1152921504606846976) : ∀ (j k : Nat) (p : Int), n ≤ p * 2 ^ j → 1 ≤ p → p < n → j < k → f125_l0 run m k n p = some ⟨[.int (lv j n p)], [], false⟩ := by
  intro j
  induction j with
  | zero =>
    intro k p h1 h2 h3 hk
    rw [Int.pow_zero] at h1
    omega
  | succ j ih =>
    intro k p h1 h2 h3 hk
    obtain ⟨k, rfl⟩ : ∃ j, k = j + 1 := ⟨k - 1, by omega⟩
    have e : Int.tdiv (n - 1) 2 = (n - 1) / 2 := Int.tdiv_eq_ediv_of_nonneg (by omega)
    rw [f125_l0_eq, w64 (x := n - 1) (by omega) (by omega), e, w64 (x := (n - 1) / 2) (by omega) (by omega), w64 (x := p * 2) (by omega) (by omega)]
    simp only [lv]
    by_cases h : 2 * p < n
    · rw [leI_t (by omega), if_pos h, cond_true, show p * 2 = 2 * p by omega]
      exact ih k (2 * p) (pow_step h1) (by omega) h (by omega)
    · rw [leI_f (by omega), if_neg h]; rfl

theorem refLeft_l0 (run : Run) (m : Nat) (n : Int) (hn : n ≤ 1152921504606846976) : ∀ (j k : Nat) (p : Int), n ≤ p * 2 ^ j → 1 ≤ p → p < n → j < k → f106_l0 run m k n p (2 * p) = some ⟨[.int (lv j n p)], [], false⟩ := by
  intro j
  induction j with
  | zero =>
    intro k p h1 h2 h3 hk
    rw [Int.pow_zero] at h1
    omega
  | succ j ih =>
    intro k p h1 h2 h3 hk
    obtain ⟨k, rfl⟩ : ∃ j, k = j + 1 := ⟨k - 1, by omega⟩
    rw [f106_l0_eq, w64 (x := 2 * p * 2) (by omega) (by omega)]
    simp only [lv]
    by_cases h : 2 * p < n
    · rw [ltI_t h, ltI_t (by omega), if_pos h, cond_true, cond_true, show 2 * p * 2 = 2 * (2 * p) by omega]
      exact ih k (2 * p) (pow_step h1) (by omega) h (by omega)
    · rw [ltI_f h, if_neg h]; rfl

theorem left_at (m : Nat) (hm : 100 ≤ m) {n : Int} (h2 : n ≤ 1152921504606846976) : runE G ext (m + 1) 125 [.int n] = some ⟨[.int (leftV n)], [], false⟩ := by
  unfold leftV
  rw [f125_run, f125_eq]
  by_cases h : n < 2
  · rw [ltI_t h, if_pos h]; rfl
  · rw [ltI_f h, if_neg h]
    exact left_l0 _ _ n h2 64 m 1 (by rw [Int.one_mul, show (2 : Int) ^ 64 = 18446744073709551616 from rfl]; omega) (by omega) (by omega) (by omega)

theorem refLeft_at (m : Nat) (hm : 100 ≤ m) {n : Int} (h2 : n ≤ 1152921504606846976) : runE G ext (m + 1) 106 [.int n] = some ⟨[.int (leftV n)], [], false⟩ := by
  unfold leftV
  obtain ⟨m, rfl⟩ : ∃ j, m = j + 1 := ⟨m - 1, by omega⟩
  rw [f106_run, f106_eq, f106_l0_eq]
  by_cases h : n < 2
  · rw [if_pos h, ltI_f (by omega)]; rfl
  · rw [ltI_t (by omega), ltI_t (by omega), if_neg h, cond_true, cond_true, w64 (by omega) (by omega), show (1 : Int) * 2 = 2 * 1 by omega]
    exact refLeft_l0 _ _ n h2 64 m 1 (by rw [Int.one_mul, show (2 : Int) ^ 64 = 18446744073709551616 from rfl]; omega) (by omega) (by omega) (by omega)

/- trees -/
def Blob32 (l : List AV) : Prop := ∀ y ∈ l, ∃ b, y = .blob b ∧ b.length = 32
def zero32 : List UInt8 := [0, 0, 0, 0, 0, 0, 0, 0, 0, 0, 0, 0, 0, 0, 0, 0, 0, 0, 0, 0, 0, 0, 0, 0, 0, 0, 0, 0, 0, 0, 0, 0]
def topV : Nat → List AV → List UInt8
  | 0, _ => zero32
  | k + 1, l => if l.length = 0 then zero32 else if l.length = 1 then (nth l 0).toBlob else nodeH (topV k (l.take (leftV l.length).toNat)) (topV k (l.drop (leftV l.length).toNat))

theorem topV_len : ∀ (k : Nat) (l : List AV), Blob32 l → (topV k l).length = 32
  | 0, _, _ => rfl
  | k + 1, l, h => by
    simp only [topV]
    split
    · rfl
    · split
      · rename_i h1
        obtain ⟨b, hb, hl⟩ := h l[0] (List.getElem_mem _)
        rw [nth_lt (by omega), hb]; exact hl
      · exact hashV_len _

theorem top_runs : ∀ (k : Nat) (l : List AV), l.length ≤ k → l.length ≤ 1152921504606846976 → Blob32 l → RunsX 126 [.slice l] ⟨[.blob (topV k l)], [], false⟩
  | 0, l, hk, _, _ => by
    refine Evt.succ (.of fun n => ?_)
    rw [f126_run, f126_eq, eqI_t (by omega)]; rfl
  | k + 1, l, hk, hl, h => by
    simp only [topV]
    by_cases h0 : l.length = 0
    · refine Evt.succ (.of fun n => ?_)
      rw [if_pos h0, f126_run, f126_eq, eqI_t (by omega)]; rfl
    · by_cases h1 : l.length = 1
      · refine Evt.succ (.of fun n => ?_)
        rw [if_neg h0, if_pos h1, f126_run, f126_eq, eqI_f (by omega), eqI_t (by omega), inR_yes (by omega) (by omega)]; rfl
      · rw [if_neg h0, if_neg h1]
        obtain ⟨p1, p2⟩ := leftV_range (n := (l.length : Int)) (by omega)
        have pe : (leftV (l.length : Int)) = (((leftV (l.length : Int)).toNat : Nat) : Int) := by omega
        have hL := fun m hm => left_at m hm (n := (l.length : Int)) (by omega)
        generalize (leftV (l.length : Int)).toNat = p at pe
        rw [pe] at hL p1 p2
        have ha : Blob32 (l.take p) := fun y hy => h y (List.mem_of_mem_take hy)
        have hb : Blob32 (l.drop p) := fun y hy => h y (List.mem_of_mem_drop hy)
        have r1 := top_runs k (l.take p) (by simp; omega) (by simp; omega) ha
        have r2 := top_runs k (l.drop p) (by simp; omega) (by simp; omega) hb
        have r3 := nodeSum_runs (topV_len k _ ha) (topV_len k _ hb)
        refine Evt.succ ((((r1.and r2).and r3).and (Evt.ge 200)).mono fun n hn => ?_)
        obtain ⟨⟨⟨g1, g2⟩, g3⟩, g4⟩ := hn
        obtain ⟨m, rfl⟩ : ∃ m, n = m + 2 := ⟨n - 2, by omega⟩
        have hp : runE G ext (m + 2) 148 [.slice l] = some ⟨[.slice (l.take p), .slice (l.drop p)], [], false⟩ := by
          have b1 : boundsOk 0 (p : Int) (l.length : Int) (l.length : Int) = true := by simp [boundsOk]; omega
          have b2 : boundsOk (p : Int) (l.length : Int) (l.length : Int) (l.length : Int) = true := by simp [boundsOk]; omega
          rw [f148_run, f148_eq, hL m (by omega), step1, toInt_i, b1, b2, Int.toNat_natCast, Int.toNat_natCast, List.drop_zero, List.take_length]
          rfl
        rw [f126_run, f126_eq, eqI_f (by omega), eqI_f (by omega), cond_false, cond_false, hp, step2, toSlice_s, toSlice_s, g1, step1, g2, step1, toBlob_b, toBlob_b, g3, step1]
        rfl

theorem refTop_runs : ∀ (k : Nat) (l : List AV), l.length ≤ k → l.length ≤ 1152921504606846976 → Blob32 l → RunsX 107 [.slice l] ⟨[.blob (topV k l)], [], false⟩
  | 0, l, hk, _, _ => by
    refine Evt.succ (.of fun n => ?_)
    rw [f107_run, f107_eq, eqI_t (by omega)]; rfl
  | k + 1, l, hk, hl, h => by
    simp only [topV]
    by_cases h0 : l.length = 0
    · refine Evt.succ (.of fun n => ?_)
      rw [if_pos h0, f107_run, f107_eq, eqI_t (by omega)]; rfl
    · by_cases h1 : l.length = 1
      · refine Evt.succ (.of fun n => ?_)
        rw [if_neg h0, if_pos h1, f107_run, f107_eq, eqI_f (by omega), eqI_t (by omega), inR_yes (by omega) (by omega)]; rfl
      · rw [if_neg h0, if_neg h1]
        obtain ⟨p1, p2⟩ := leftV_range (n := (l.length : Int)) (by omega)
        have pe : (leftV (l.length : Int)) = (((leftV (l.length : Int)).toNat : Nat) : Int) := by omega
        have hL := fun m hm => refLeft_at m hm (n := (l.length : Int)) (by omega)
        generalize (leftV (l.length : Int)).toNat = p at pe
        rw [pe] at hL p1 p2
        have ha : Blob32 (l.take p) := fun y hy => h y (List.mem_of_mem_take hy)
        have hb : Blob32 (l.drop p) := fun y hy => h y (List.mem_of_mem_drop hy)
        have r1 := refTop_runs k (l.take p) (by simp; omega) (by simp; omega) ha
        have r2 := refTop_runs k (l.drop p) (by simp; omega) (by simp; omega) hb
        have r3 := refNode_runs (topV_len k _ ha) (topV_len k _ hb)
        refine Evt.succ ((((r1.and r2).and r3).and (Evt.ge 200)).mono fun n hn => ?_)
        obtain ⟨⟨⟨g1, g2⟩, g3⟩, g4⟩ := hn
        obtain ⟨m, rfl⟩ : ∃ m, n = m + 1 := ⟨n - 1, by omega⟩
        have b1 : boundsOk 0 (p : Int) (l.length : Int) (l.length : Int) = true := by simp [boundsOk]; omega
        have b2 : boundsOk (p : Int) (l.length : Int) (l.length : Int) (l.length : Int) = true := by simp [boundsOk]; omega
        rw [f107_run, f107_eq, eqI_f (by omega), eqI_f (by omega), cond_false, cond_false, hL m (by omega), step1, toInt_i, b1, b2, Int.toNat_natCast, Int.toNat_natCast, List.drop_zero, List.take_length, Bool.and_true, cond_true, g1, step1, cond_true, g2, step1, toBlob_b, toBlob_b, g3, step1]
        rfl

/- leaves -/
def leavesV (l : List AV) : List AV := l.map fun y => .blob (leafH y.toStr)
theorem leavesV_len (l : List AV) : (leavesV l).length = l.length := by simp [leavesV]
theorem leavesV_blob (l : List AV) : Blob32 (leavesV l) := by
  intro y hy
  obtain ⟨x, _, rfl⟩ := List.mem_map.1 hy
  exact ⟨_, rfl, hashV_len _⟩
theorem leavesV_take {l : List AV} {i : Nat} (h : i < l.length) : leavesV (l.take i) ++ [.blob (leafH (nth l i).toStr)] = leavesV (l.take (i + 1)) := by
  rw [List.take_succ_eq_append_getElem h, nth_lt h]; simp only [leavesV, List.map_append, List.map_cons, List.map_nil]

/-- Texts that are not too long. -/
def Short (l : List AV) : Prop := ∀ i, i < l.length → (nth l i).toStr.length ≤ 140737488355328

theorem leaves_runs {l : List AV} (hl : l.length ≤ 100000) (hs : Short l) : RunsX 103 [.slice l] ⟨[.slice (leavesV l)], [], true⟩ := by
  have hall := Evt.all l.length fun i hi => leafSum_runs (hs i hi)
  have h61 : RunsX 127 [.slice l, .fn 128] ⟨[.slice (leavesV l)], [], true⟩ := by
    refine Evt.succ ((hall.and (Evt.ge (l.length + 1))).mono fun n hn => ?_)
    have key : ∀ (j k i : Nat), i + j = l.length → j < k → f127_s128_l0 (runE G ext n) n k (leavesV (l.take i)) l (l.length : Int) (i : Int) = some ⟨[.slice (leavesV l)], [], true⟩ := by
      intro j
      induction j with
      | zero =>
        intro k i hi hk
        obtain ⟨k, rfl⟩ : ∃ j, k = j + 1 := ⟨k - 1, by omega⟩
        rw [f127_s128_l0_eq, ltI_f (by omega), cond_false, List.take_of_length_le (by omega)]
        rfl
      | succ j ih =>
        intro k i hi hk
        obtain ⟨k, rfl⟩ : ∃ j, k = j + 1 := ⟨k - 1, by omega⟩
        have ih' := ih k (i + 1) (by omega) (by omega)
        rw [show ((i + 1 : Nat) : Int) = (i : Int) + 1 by omega, ← leavesV_take (by omega)] at ih'
        rw [f127_s128_l0_eq, ltI_t (by omega), cond_true, inR_nat (by omega), cond_true, Int.toNat_natCast, hn.1 i (by omega), step1, toBlob_b, show Nat.ble (((leavesV (l.take i)).length + 1) * 32) 140737488355328 = true from Nat.ble_eq_true_of_le (by rw [leavesV_len]; simp; omega), cond_true, w64 (by omega) (by omega)]
        exact ih'
    rw [f127_s128_run, f127_s128_eq]
    exact key l.length n 0 (by omega) (by omega)
  refine Evt.succ (h61.mono fun n hn => ?_)
  rw [f103_run, f103_eq, hn, step1f]
  rfl

theorem refLeaves_runs {l : List AV} (hl : l.length ≤ 100000) (hs : Short l) : RunsX 78 [.slice l] ⟨[.slice (leavesV l)], [], true⟩ := by
  have hall := Evt.all l.length fun i hi => refLeaf_runs (hs i hi)
  refine Evt.succ ((hall.and (Evt.ge (l.length + 1))).mono fun n hn => ?_)
  have key : ∀ (j k i : Nat), i + j = l.length → j < k → f78_l0 (runE G ext n) n k l (leavesV (l.take i)) (i : Int) = some ⟨[.slice (leavesV l)], [], true⟩ := by
    intro j
    induction j with
    | zero =>
      intro k i hi hk
      obtain ⟨k, rfl⟩ : ∃ j, k = j + 1 := ⟨k - 1, by omega⟩
      rw [f78_l0_eq, ltI_f (by omega), cond_false, List.take_of_length_le (by omega)]
      rfl
    | succ j ih =>
      intro k i hi hk
      obtain ⟨k, rfl⟩ : ∃ j, k = j + 1 := ⟨k - 1, by omega⟩
      have ih' := ih k (i + 1) (by omega) (by omega)
      rw [show ((i + 1 : Nat) : Int) = (i : Int) + 1 by omega, ← leavesV_take (by omega)] at ih'
      rw [f78_l0_eq, ltI_t (by omega), cond_true, inR_nat (by omega), cond_true, Int.toNat_natCast, hn.1 i (by omega), step1, toBlob_b, show Nat.ble (((leavesV (l.take i)).length + 1) * 32) 140737488355328 = true from Nat.ble_eq_true_of_le (by rw [leavesV_len]; simp; omega), cond_true, w64 (by omega) (by omega)]
      exact ih'
  rw [f78_run, f78_eq]
  exact key l.length n 0 (by omega) (by omega)

def rootV (l : List AV) : List UInt8 := rootH l.length (topV l.length (leavesV l))
theorem rootV_len (l : List AV) : (rootV l).length = 32 := hashV_len _

theorem wrapLen {n : Nat} (_h : n ≤ 1152921504606846976) : IntKind.wrap .u64 (n : Int) = U (BitVec.ofNat 64 n) := by
  unfold U; rw [wrap64, BitVec.toNat_ofNat]; omega

theorem root_runs {l : List AV} (hl : l.length ≤ 100000) (hs : Short l) : RunsX 164 [.slice l] ⟨[.blob (rootV l)], [], false⟩ := by
  refine Evt.succ ((((leaves_runs hl hs).and (top_runs l.length (leavesV l) (by rw [leavesV_len]; omega) (by rw [leavesV_len]; omega) (leavesV_blob l))).and (rootSum_runs l.length (topV_len l.length _ (leavesV_blob l)))).mono fun n hn => ?_)
  obtain ⟨⟨h1, h2⟩, h3⟩ := hn
  rw [f164_run, f164_eq, h1, step1f, toSlice_s, h2, step1, wrapLen (by omega), toBlob_b, h3, step1]
  rfl
theorem refTreeRoot_runs {l : List AV} (hl : l.length ≤ 100000) (hs : Short l) : RunsX 124 [.slice l] ⟨[.blob (rootV l)], [], false⟩ := by
  refine Evt.succ ((((refLeaves_runs hl hs).and (refTop_runs l.length (leavesV l) (by rw [leavesV_len]; omega) (by rw [leavesV_len]; omega) (leavesV_blob l))).and (refRoot_runs l.length (topV_len l.length _ (leavesV_blob l)))).mono fun n hn => ?_)
  obtain ⟨⟨h1, h2⟩, h3⟩ := hn
  rw [f124_run, f124_eq, h1, step1f, toSlice_s, h2, step1, wrapLen (by omega), toBlob_b, h3, step1]
  rfl

theorem hashes_l0 (run : Run) (n : Nat) (l : List AV) (hl : l.length ≤ maxLen) : ∀ (j k i : Nat), i + j = l.length → j < k → f75_l0 run n k l l (i : Int) = some ⟨[.bool true], [], false⟩ := by
  rw [maxLen_eq] at hl
  intro j
  induction j with
  | zero =>
    intro k i hi hk
    obtain ⟨k, rfl⟩ : ∃ j, k = j + 1 := ⟨k - 1, by omega⟩
    rw [f75_l0_eq, ltI_f (by omega)]; rfl
  | succ j ih =>
    intro k i hi hk
    obtain ⟨k, rfl⟩ : ∃ j, k = j + 1 := ⟨k - 1, by omega⟩
    rw [f75_l0_eq, ltI_t (by omega), cond_true, inR_nat (by omega), cond_true, cond_true, eqS_t rfl, not_t, cond_false, w64 (by omega) (by omega)]
    exact ih k (i + 1) (by omega) (by omega)

theorem hashes_runs {l : List AV} (hl : l.length ≤ maxLen) : RunsX 75 [.slice l, .slice l] ⟨[.bool true], [], false⟩ := by
  refine Evt.succ ((Evt.ge (l.length + 1)).mono fun n hn => ?_)
  rw [f75_run, f75_eq, eqI_t rfl, not_t, cond_false]
  exact hashes_l0 _ _ _ hl l.length n 0 (by omega) (by omega)

end Go.Proofs.YteiahdlklppghaaGreat.Ev
