/- Tags and trees: both programs tell the same. -/
import Derived.Test.YtogehijjhibdkaaEvPSha
namespace Go.Proofs.Ytogehijjhibdkaa.Ev
open Go Go.RowKit

theorem step1 {α : Type} (v : AV) (fr : Bool) (K : AV → Option α) : (some (⟨[v], [], fr⟩ : Res)).bind (fun r => nilV r.outs (consV r.vals fun v vs => nilV vs (K v))) = K v := rfl
theorem step1f {α : Type} (v : AV) (K : AV → Option α) : (some (⟨[v], [], true⟩ : Res)).bind (fun r => bif r.fresh then nilV r.outs (consV r.vals fun v vs => nilV vs (K v)) else none) = K v := rfl
theorem step2 {α : Type} (v u : AV) (fr : Bool) (K : AV → AV → Option α) : (some (⟨[v, u], [], fr⟩ : Res)).bind (fun r => nilV r.outs (consV r.vals fun v vs => consV vs fun u us => nilV us (K v u))) = K v u := rfl

/- texts -/
def leafT (s : List UInt8) : List UInt8 := [0] ++ s
def nodeT (a b : List UInt8) : List UInt8 := [1] ++ a ++ b
def rootT (n : Nat) (h : List UInt8) : List UInt8 := [2] ++ bs (BitVec.ofNat 64 n) 8 ++ h
def leafH (s : List UInt8) : List UInt8 := hashV (leafT s)
def nodeH (a b : List UInt8) : List UInt8 := hashV (nodeT a b)
def rootH (n : Nat) (h : List UInt8) : List UInt8 := hashV (rootT n h)

theorem join1 (a : List UInt8) : Lib.join ([AV.str a].map AV.toStr) [] = a := by simp [Lib.join, List.intercalate, AV.toStr]
theorem join2 (a b : List UInt8) : Lib.join ([AV.str a, AV.str b].map AV.toStr) [] = a ++ b := by simp [Lib.join, List.intercalate, AV.toStr]

theorem raw32 {a : List UInt8} (h : a.length = 32) : bytesOf (List.drop 0 (List.take 32 (ofBytes a))) = a := by
  rw [List.drop_zero, List.take_of_length_le (by simp [ofBytes, h])]
  exact bytesOf_B a

theorem leafT_len (s : List UInt8) : (leafT s).length = s.length + 1 := by simp [leafT]
theorem nodeT_len {a b : List UInt8} (ha : a.length = 32) (hb : b.length = 32) : (nodeT a b).length = 65 := by simp [nodeT, ha, hb]
theorem rootT_len (n : Nat) {a : List UInt8} (ha : a.length = 32) : (rootT n a).length = 41 := by simp [rootT, ha, bs_len]

/- the reference's -/
theorem setB {l : List UInt8} {m : Nat} (v : UInt8) : (B l ++ List.replicate (m + 1) (AV.int 0)).set l.length (.int (v.toNat : Int)) = B (l ++ [v]) ++ List.replicate m (.int 0) := by
  have hl : (B l).length = l.length := by simp [B]
  rw [List.set_append_right _ _ (by omega), hl, Nat.sub_self, List.replicate_succ, List.set_cons_zero]
  simp [B]

/- the left side's size -/
theorem lv_range : ∀ (j : Nat) (n p : Int), 1 ≤ p → p < n → 1 ≤ lv j n p ∧ lv j n p < n
  | 0, n, p, h1, h2 => ⟨h1, h2⟩
  | j + 1, n, p, h1, h2 => by
    simp only [lv]
    split
    · exact lv_range j n (2 * p) (by omega) (by assumption)
    · exact ⟨h1, h2⟩
theorem leftV_range {n : Int} (h : 2 ≤ n) : 1 ≤ leftV n ∧ leftV n < n := by
  unfold leftV
  rw [if_neg (by omega)]
  exact lv_range 64 n 1 (by omega) (by omega)

theorem pow_step {n p : Int} {j : Nat} (h : n ≤ p * 2 ^ (j + 1)) : n ≤ 2 * p * 2 ^ j := by
  rw [Int.pow_succ, Int.mul_comm (2 ^ j) 2, ← Int.mul_assoc, Int.mul_comm p 2] at h
  exact h

/- trees -/
def Blob32 (l : List AV) : Prop := ∀ y ∈ l, ∃ b, y = .blob b ∧ b.length = 32
def zero32 : List UInt8 := [0, 0, 0, 0, 0, 0, 0, 0, 0, 0, 0, 0, 0, 0, 0, 0, 0, 0, 0, 0, 0, 0, 0, 0, 0, 0, 0, 0, 0, 0, 0, 0]
def topV : Nat → List AV → List UInt8
  | 0, _ => zero32
  | k + 1, l => if l.length = 0 then zero32 else if l.length = 1 then (nth l 0).toBlob else nodeH (topV k (l.take (leftV l.length).toNat)) (topV k (l.drop (leftV l.length).toNat))

theorem topV_len : ∀ (k : Nat) (l : List AV), Blob32 l → (topV k l).length = 32
  | 0, _, _ => rfl
  | k + 1, l, h => by
    simp only [topV]
    split
    · rfl
    · split
      · rename_i h1
        obtain ⟨b, hb, hl⟩ := h l[0] (List.getElem_mem _)
        rw [nth_lt (by omega), hb]; exact hl
      · exact hashV_len _

/- leaves -/
def leavesV (l : List AV) : List AV := l.map fun y => .blob (leafH y.toStr)
theorem leavesV_len (l : List AV) : (leavesV l).length = l.length := by simp [leavesV]
theorem leavesV_blob (l : List AV) : Blob32 (leavesV l) := by
  intro y hy
  obtain ⟨x, _, rfl⟩ := List.mem_map.1 hy
  exact ⟨_, rfl, hashV_len _⟩
theorem leavesV_take {l : List AV} {i : Nat} (h : i < l.length) : leavesV (l.take i) ++ [.blob (leafH (nth l i).toStr)] = leavesV (l.take (i + 1)) := by
  rw [List.take_succ_eq_append_getElem h, nth_lt h]; simp only [leavesV, List.map_append, List.map_cons, List.map_nil]

/-- Texts that are not too long. -/
def Short (l : List AV) : Prop := ∀ i, i < l.length → (nth l i).toStr.length ≤ 140737488355328

def rootV (l : List AV) : List UInt8 := rootH l.length (topV l.length (leavesV l))
theorem rootV_len (l : List AV) : (rootV l).length = 32 := hashV_len _

theorem wrapLen {n : Nat} (_h : n ≤ 1152921504606846976) : IntKind.wrap .u64 (n : Int) = U (BitVec.ofNat 64 n) := by
  unfold U; rw [wrap64, BitVec.toNat_ofNat]; omega

end Go.Proofs.Ytogehijjhibdkaa.Ev
