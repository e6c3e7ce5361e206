/- Tags and trees: both programs tell the same. -/
import Derived.Test.YtogehijjhibdkaaGreatEvPSha
namespace Go.Proofs.YtogehijjhibdkaaGreat.Ev
open Go Go.RowKit

theorem step1 {α : Type} (v : AV) (fr : Bool) (K : AV → Option α) : (some (⟨[v], [], fr⟩ : Res)).bind (fun r => nilV r.outs (consV r.vals fun v vs => nilV vs (K v))) = K v := rfl
theorem step1f {α : Type} (v : AV) (K : AV → Option α) : (some (⟨[v], [], true⟩ : Res)).bind (fun r => bif r.fresh then nilV r.outs (consV r.vals fun v vs => nilV vs (K v)) else none) = K v := rfl
theorem step2 {α : Type} (v u : AV) (fr : Bool) (K : AV → AV → Option α) : (some (⟨[v, u], [], fr⟩ : Res)).bind (fun r => nilV r.outs (consV r.vals fun v vs => consV vs fun u us => nilV us (K v u))) = K v u := rfl

theorem sha_runs {b : List UInt8} (hb : b.length ≤ 1152921504606840000) : RunsX 142 [.str b] ⟨[.blob (hashV b)], [], false⟩ :=
  Evt.succ ((Evt.ge (b.length + 6000)).mono fun n hn => sha_at n hb hn)
/- texts -/
def leafT (s : List UInt8) : List UInt8 := [0] ++ s
def nodeT (a b : List UInt8) : List UInt8 := [1] ++ a ++ b
def rootT (n : Nat) (h : List UInt8) : List UInt8 := [2] ++ bs (BitVec.ofNat 64 n) 8 ++ h
def leafH (s : List UInt8) : List UInt8 := hashV (leafT s)
def nodeH (a b : List UInt8) : List UInt8 := hashV (nodeT a b)
def rootH (n : Nat) (h : List UInt8) : List UInt8 := hashV (rootT n h)

theorem ext_join (l : List AV) (hl : l.length ≤ 1048576) (hb : (Lib.join (l.map AV.toStr) []).length ≤ 140737488355328) (n : Nat) : runE G ext n 195 [.slice l, .str []] = some ⟨[.str (Lib.join (l.map AV.toStr) [])], [], false⟩ := by
  refine ext_at ?_ n
  show joinX [.slice l, .str []] = _
  unfold joinX
  simp only [toSlice_s, toStr_s]
  rw [show Nat.ble l.length 1048576 = true from Nat.ble_eq_true_of_le hl, show Nat.ble (Lib.join (l.map AV.toStr) []).length 140737488355328 = true from Nat.ble_eq_true_of_le hb]
  rfl

theorem join1 (a : List UInt8) : Lib.join ([AV.str a].map AV.toStr) [] = a := by simp [Lib.join, List.intercalate, AV.toStr]
theorem join2 (a b : List UInt8) : Lib.join ([AV.str a, AV.str b].map AV.toStr) [] = a ++ b := by simp [Lib.join, List.intercalate, AV.toStr]

theorem text_at (n : Nat) (t : Int) (l : List AV) (hl : l.length ≤ 1048576) (hb : (Lib.join (l.map AV.toStr) []).length ≤ 140737488355328) : runE G ext (n + 1) 173 [.int t, .slice l] = some ⟨[.str (bytesOf [.int t] ++ Lib.join (l.map AV.toStr) [])], [], false⟩ := by
  rw [f173_run, f173_eq, ext_join l hl hb, step1, toStr_s, show Nat.ble ((bytesOf [.int t]).length + (Lib.join (l.map AV.toStr) []).length) maxLen = true from Nat.ble_eq_true_of_le (by rw [maxLen_eq]; simp [bytesOf]; omega), cond_true]
  rfl

theorem leafText_at (n : Nat) {s : List UInt8} (hs : s.length ≤ 140737488355328) : runE G ext (n + 2) 188 [.str s] = some ⟨[.str (leafT s)], [], false⟩ := by
  have h := text_at n 0 [.str s] (by simp) (by rw [join1]; exact hs)
  rw [join1, show bytesOf [.int 0] = [0] by decide +kernel] at h
  rw [f188_run, f188_eq, h, step1]
  rfl

theorem raw32 {a : List UInt8} (h : a.length = 32) : bytesOf (List.drop 0 (List.take 32 (ofBytes a))) = a := by
  rw [List.drop_zero, List.take_of_length_le (by simp [ofBytes, h])]
  exact bytesOf_B a

theorem nodeText_at (n : Nat) {a b : List UInt8} (ha : a.length = 32) (hb : b.length = 32) : runE G ext (n + 2) 205 [.blob a, .blob b] = some ⟨[.str (nodeT a b)], [], false⟩ := by
  have h := text_at n 1 [.str a, .str b] (by simp) (by rw [join2]; simp; omega)
  rw [join2, show bytesOf [.int 1] = [1] by decide +kernel] at h
  rw [f205_run, f205_eq, raw32 ha, raw32 hb, h, step1, toStr_s, ← List.append_assoc]
  rfl

theorem put64_at (m : Nat) (hm : 2000 ≤ m) (x : BitVec 64) : runE G ext (m + 2) 145 [.int (U x)] = some ⟨[.str (bs x 8)], [], false⟩ := by
  have h : runE G ext (m + 1) 174 [.int (U x), .int 8] = some ⟨[.str (bs x 8)], [], false⟩ := put_at m hm x (m := 8) (by omega)
  rw [f145_run, f145_eq, h, step1]
  rfl

theorem rootText_at (m : Nat) (hm : 2000 ≤ m) (n : Nat) {a : List UInt8} (ha : a.length = 32) : runE G ext (m + 3) 191 [.int (U (BitVec.ofNat 64 n)), .blob a] = some ⟨[.str (rootT n a)], [], false⟩ := by
  have h := text_at (m + 1) 2 [.str (bs (BitVec.ofNat 64 n) 8), .str a] (by simp) (by rw [join2]; simp [bs_len]; omega)
  rw [join2, show bytesOf [.int 2] = [2] by decide +kernel] at h
  rw [f191_run, f191_eq, put64_at m hm, step1, raw32 ha, toStr_s, h, step1, toStr_s, ← List.append_assoc]
  rfl

theorem leafT_len (s : List UInt8) : (leafT s).length = s.length + 1 := by simp [leafT]
theorem nodeT_len {a b : List UInt8} (ha : a.length = 32) (hb : b.length = 32) : (nodeT a b).length = 65 := by simp [nodeT, ha, hb]
theorem rootT_len (n : Nat) {a : List UInt8} (ha : a.length = 32) : (rootT n a).length = 41 := by simp [rootT, ha, bs_len]

theorem leafSum_runs {s : List UInt8} (hs : s.length ≤ 140737488355328) : RunsX 165 [.str s] ⟨[.blob (leafH s)], [], false⟩ := by
  refine Evt.succ (((sha_runs (b := leafT s) (by rw [leafT_len]; omega)).and (Evt.ge 10)).mono fun n hn => ?_)
  obtain ⟨m, rfl⟩ : ∃ m, n = m + 2 := ⟨n - 2, by omega⟩
  rw [f165_run, f165_eq, leafText_at m hs, step1, toStr_s, hn.1, step1]
  rfl
theorem nodeSum_runs {a b : List UInt8} (ha : a.length = 32) (hb : b.length = 32) : RunsX 187 [.blob a, .blob b] ⟨[.blob (nodeH a b)], [], false⟩ := by
  refine Evt.succ (((sha_runs (b := nodeT a b) (by rw [nodeT_len ha hb]; omega)).and (Evt.ge 10)).mono fun n hn => ?_)
  obtain ⟨m, rfl⟩ : ∃ m, n = m + 2 := ⟨n - 2, by omega⟩
  rw [f187_run, f187_eq, nodeText_at m ha hb, step1, toStr_s, hn.1, step1]
  rfl
theorem rootSum_runs (k : Nat) {a : List UInt8} (ha : a.length = 32) : RunsX 168 [.int (U (BitVec.ofNat 64 k)), .blob a] ⟨[.blob (rootH k a)], [], false⟩ := by
  refine Evt.succ (((sha_runs (b := rootT k a) (by rw [rootT_len k ha]; omega)).and (Evt.ge 3000)).mono fun n hn => ?_)
  obtain ⟨m, rfl⟩ : ∃ m, n = m + 3 := ⟨n - 3, by omega⟩
  rw [f168_run, f168_eq, rootText_at m (by omega) k ha, step1, toStr_s, hn.1, step1]
  rfl

/- the reference's -/
theorem setB {l : List UInt8} {m : Nat} (v : UInt8) : (B l ++ List.replicate (m + 1) (AV.int 0)).set l.length (.int (v.toNat : Int)) = B (l ++ [v]) ++ List.replicate m (.int 0) := by
  have hl : (B l).length = l.length := by simp [B]
  rw [List.set_append_right _ _ (by omega), hl, Nat.sub_self, List.replicate_succ, List.set_cons_zero]
  simp [B]

/- the left side's size -/
theorem lv_range : ∀ (j : Nat) (n p : Int), 1 ≤ p → p < n → 1 ≤ lv j n p ∧ lv j n p < n
  | 0, n, p, h1, h2 => ⟨h1, h2⟩
  | j + 1, n, p, h1, h2 => by
    simp only [lv]
    split
    · exact lv_range j n (2 * p) (by omega) (by assumption)
    · exact ⟨h1, h2⟩
theorem leftV_range {n : Int} (h : 2 ≤ n) : 1 ≤ leftV n ∧ leftV n < n := by
  unfold leftV
  rw [if_neg (by omega)]
  exact lv_range 64 n 1 (by omega) (by omega)

theorem pow_step {n p : Int} {j : Nat} (h : n ≤ p * 2 ^ (j + 1)) : n ≤ 2 * p * 2 ^ j := by
  rw [Int.pow_succ, Int.mul_comm (2 ^ j) 2, ← Int.mul_assoc, Int.mul_comm p 2] at h
  exact h

theorem left_l0 (run : Run) (m : Nat) (n : Int) (hn : n ≤ 1152921504606846976) : ∀ (j k : Nat) (p : Int), n ≤ p * 2 ^ j → 1 ≤ p → p < n → j < k → f162_l0 run m k n p = some ⟨[.int (lv j n p)], [], false⟩ := by
  intro j
  induction j with
  | zero =>
    intro k p h1 h2 h3 hk
    rw [Int.pow_zero] at h1
    omega
  | succ j ih =>
    intro k p h1 h2 h3 hk
    obtain ⟨k, rfl⟩ : ∃ j, k = j + 1 := ⟨k - 1, by omega⟩
    have e : Int.tdiv (n - 1) 2 = (n - 1) / 2 := Int.tdiv_eq_ediv_of_nonneg (by omega)
    rw [f162_l0_eq, w64 (x := n - 1) (by omega) (by omega), e, w64 (x := (n - 1) / 2) (by omega) (by omega), w64 (x := p * 2) (by omega) (by omega)]
    simp only [lv]
    by_cases h : 2 * p < n
    · rw [leI_t (by omega), if_pos h, cond_true, show p * 2 = 2 * p by omega]
      exact ih k (2 * p) (pow_step h1) (by omega) h (by omega)
    · rw [leI_f (by omega), if_neg h]; rfl

theorem left_at (m : Nat) (hm : 100 ≤ m) {n : Int} (h2 : n ≤ 1152921504606846976) : runE G ext (m + 1) 162 [.int n] = some ⟨[.int (leftV n)], [], false⟩ := by
  unfold leftV
  rw [f162_run, f162_eq]
  by_cases h : n < 2
  · rw [ltI_t h, if_pos h]; rfl
  · rw [ltI_f h, if_neg h]
    exact left_l0 _ _ n h2 64 m 1 (by rw [Int.one_mul, show (2 : Int) ^ 64 = 18446744073709551616 from rfl]; omega) (by omega) (by omega) (by omega)

/- trees -/
def Blob32 (l : List AV) : Prop := ∀ y ∈ l, ∃ b, y = .blob b ∧ b.length = 32
def zero32 : List UInt8 := [0, 0, 0, 0, 0, 0, 0, 0, 0, 0, 0, 0, 0, 0, 0, 0, 0, 0, 0, 0, 0, 0, 0, 0, 0, 0, 0, 0, 0, 0, 0, 0]
def topV : Nat → List AV → List UInt8
  | 0, _ => zero32
  | k + 1, l => if l.length = 0 then zero32 else if l.length = 1 then (nth l 0).toBlob else nodeH (topV k (l.take (leftV l.length).toNat)) (topV k (l.drop (leftV l.length).toNat))

theorem topV_len : ∀ (k : Nat) (l : List AV), Blob32 l → (topV k l).length = 32
  | 0, _, _ => rfl
  | k + 1, l, h => by
    simp only [topV]
    split
    · rfl
    · split
      · rename_i h1
        obtain ⟨b, hb, hl⟩ := h l[0] (List.getElem_mem _)
        rw [nth_lt (by omega), hb]; exact hl
      · exact hashV_len _

theorem top_runs : ∀ (k : Nat) (l : List AV), l.length ≤ k → l.length ≤ 1152921504606846976 → Blob32 l → RunsX 163 [.slice l] ⟨[.blob (topV k l)], [], false⟩
  | 0, l, hk, _, _ => by
    refine Evt.succ (.of fun n => ?_)
    rw [f163_run, f163_eq, eqI_t (by omega)]; rfl
  | k + 1, l, hk, hl, h => by
    simp only [topV]
    by_cases h0 : l.length = 0
    · refine Evt.succ (.of fun n => ?_)
      rw [if_pos h0, f163_run, f163_eq, eqI_t (by omega)]; rfl
    · by_cases h1 : l.length = 1
      · refine Evt.succ (.of fun n => ?_)
        rw [if_neg h0, if_pos h1, f163_run, f163_eq, eqI_f (by omega), eqI_t (by omega), inR_yes (by omega) (by omega)]; rfl
      · rw [if_neg h0, if_neg h1]
        obtain ⟨p1, p2⟩ := leftV_range (n := (l.length : Int)) (by omega)
        have pe : (leftV (l.length : Int)) = (((leftV (l.length : Int)).toNat : Nat) : Int) := by omega
        have hL := fun m hm => left_at m hm (n := (l.length : Int)) (by omega)
        generalize (leftV (l.length : Int)).toNat = p at pe
        rw [pe] at hL p1 p2
        have ha : Blob32 (l.take p) := fun y hy => h y (List.mem_of_mem_take hy)
        have hb : Blob32 (l.drop p) := fun y hy => h y (List.mem_of_mem_drop hy)
        have r1 := top_runs k (l.take p) (by simp; omega) (by simp; omega) ha
        have r2 := top_runs k (l.drop p) (by simp; omega) (by simp; omega) hb
        have r3 := nodeSum_runs (topV_len k _ ha) (topV_len k _ hb)
        refine Evt.succ ((((r1.and r2).and r3).and (Evt.ge 200)).mono fun n hn => ?_)
        obtain ⟨⟨⟨g1, g2⟩, g3⟩, g4⟩ := hn
        obtain ⟨m, rfl⟩ : ∃ m, n = m + 2 := ⟨n - 2, by omega⟩
        have hp : runE G ext (m + 2) 186 [.slice l] = some ⟨[.slice (l.take p), .slice (l.drop p)], [], false⟩ := by
          have b1 : boundsOk 0 (p : Int) (l.length : Int) (l.length : Int) = true := by simp [boundsOk]; omega
          have b2 : boundsOk (p : Int) (l.length : Int) (l.length : Int) (l.length : Int) = true := by simp [boundsOk]; omega
          rw [f186_run, f186_eq, hL m (by omega), step1, toInt_i, b1, b2, Int.toNat_natCast, Int.toNat_natCast, List.drop_zero, List.take_length]
          rfl
        rw [f163_run, f163_eq, eqI_f (by omega), eqI_f (by omega), cond_false, cond_false, hp, step2, toSlice_s, toSlice_s, g1, step1, g2, step1, toBlob_b, toBlob_b, g3, step1]
        rfl

/- leaves -/
def leavesV (l : List AV) : List AV := l.map fun y => .blob (leafH y.toStr)
theorem leavesV_len (l : List AV) : (leavesV l).length = l.length := by simp [leavesV]
theorem leavesV_blob (l : List AV) : Blob32 (leavesV l) := by
  intro y hy
  obtain ⟨x, _, rfl⟩ := List.mem_map.1 hy
  exact ⟨_, rfl, hashV_len _⟩
theorem leavesV_take {l : List AV} {i : Nat} (h : i < l.length) : leavesV (l.take i) ++ [.blob (leafH (nth l i).toStr)] = leavesV (l.take (i + 1)) := by
  rw [List.take_succ_eq_append_getElem h, nth_lt h]; simp only [leavesV, List.map_append, List.map_cons, List.map_nil]

/-- Texts that are not too long. -/
def Short (l : List AV) : Prop := ∀ i, i < l.length → (nth l i).toStr.length ≤ 140737488355328

theorem leaves_runs {l : List AV} (hl : l.length ≤ 100000) (hs : Short l) : RunsX 134 [.slice l] ⟨[.slice (leavesV l)], [], true⟩ := by
  have hall := Evt.all l.length fun i hi => leafSum_runs (hs i hi)
  have h61 : RunsX 164 [.slice l, .fn 165] ⟨[.slice (leavesV l)], [], true⟩ := by
    refine Evt.succ ((hall.and (Evt.ge (l.length + 1))).mono fun n hn => ?_)
    have key : ∀ (j k i : Nat), i + j = l.length → j < k → f164_s165_l0 (runE G ext n) n k (leavesV (l.take i)) l (l.length : Int) (i : Int) = some ⟨[.slice (leavesV l)], [], true⟩ := by
      intro j
      induction j with
      | zero =>
        intro k i hi hk
        obtain ⟨k, rfl⟩ : ∃ j, k = j + 1 := ⟨k - 1, by omega⟩
        rw [f164_s165_l0_eq, ltI_f (by omega), cond_false, List.take_of_length_le (by omega)]
        rfl
      | succ j ih =>
        intro k i hi hk
        obtain ⟨k, rfl⟩ : ∃ j, k = j + 1 := ⟨k - 1, by omega⟩
        have ih' := ih k (i + 1) (by omega) (by omega)
        rw [show ((i + 1 : Nat) : Int) = (i : Int) + 1 by omega, ← leavesV_take (by omega)] at ih'
        rw [f164_s165_l0_eq, ltI_t (by omega), cond_true, inR_nat (by omega), cond_true, Int.toNat_natCast, hn.1 i (by omega), step1, toBlob_b, show Nat.ble (((leavesV (l.take i)).length + 1) * 32) 140737488355328 = true from Nat.ble_eq_true_of_le (by rw [leavesV_len]; simp; omega), cond_true, w64 (by omega) (by omega)]
        exact ih'
    rw [f164_s165_run, f164_s165_eq]
    exact key l.length n 0 (by omega) (by omega)
  refine Evt.succ (h61.mono fun n hn => ?_)
  rw [f134_run, f134_eq, hn, step1f]
  rfl

def rootV (l : List AV) : List UInt8 := rootH l.length (topV l.length (leavesV l))
theorem rootV_len (l : List AV) : (rootV l).length = 32 := hashV_len _

theorem wrapLen {n : Nat} (_h : n ≤ 1152921504606846976) : IntKind.wrap .u64 (n : Int) = U (BitVec.ofNat 64 n) := by
  unfold U; rw [wrap64, BitVec.toNat_ofNat]; omega

theorem root_runs {l : List AV} (hl : l.length ≤ 100000) (hs : Short l) : RunsX 169 [.slice l] ⟨[.blob (rootV l)], [], false⟩ := by
  refine Evt.succ ((((leaves_runs hl hs).and (top_runs l.length (leavesV l) (by rw [leavesV_len]; omega) (by rw [leavesV_len]; omega) (leavesV_blob l))).and (rootSum_runs l.length (topV_len l.length _ (leavesV_blob l)))).mono fun n hn => ?_)
  obtain ⟨⟨h1, h2⟩, h3⟩ := hn
  rw [f169_run, f169_eq, h1, step1f, toSlice_s, h2, step1, wrapLen (by omega), toBlob_b, h3, step1]
  rfl
end Go.Proofs.YtogehijjhibdkaaGreat.Ev
