/- Chains: the laws. -/
import Derived.Test.YtogehijjhibdkaaGreatEvPChain
import Derived.Test.YtogehijjhibdkaaGreatEvPTxC
namespace Go.Proofs.YtogehijjhibdkaaGreat.Ev
open Go Go.RowKit

abbrev blockTy : Ty := .struct [headTy, .slice .str]
theorem block_of {y : AV} (h : blockTy.Has y) : HeadA (y.fld 0) ∧ Shorter ((y.fld 1).toSlice) ∧ ((y.fld 1).toSlice).length ≤ maxLen := by
  obtain ⟨l0, rfl, y0, s0, rfl, hh, y1, s1, rfl, ⟨l, rfl, hl, _, hx⟩, rfl⟩ := h
  exact ⟨headA_of hh, shorter_of hx, hl⟩
def Blocks0 (l : List AV) : Prop := ∀ i, i < l.length → HeadA ((nth l i).fld 0) ∧ Shorter (((nth l i).fld 1).toSlice) ∧ (((nth l i).fld 1).toSlice).length ≤ maxLen
theorem blocks0_of {l : List AV} (h : ∀ (i : Nat) y, l[i]? = some y → blockTy.Has y) : Blocks0 l := by
  intro i hi
  rw [nth_lt hi]
  exact block_of (h i _ (List.getElem?_eq_getElem hi))

/- too much -/
noncomputable def mB (l : List AV) (h : Blocks0 l) (i : Nat) : Bool := if hi : i < l.length then Classical.choose (mu22_runs (h i hi).2.2) else false
theorem mB_spec {l : List AV} (h : Blocks0 l) {i : Nat} (hi : i < l.length) : (mB l h i = false → (((nth l i).fld 1).toSlice).length ≤ 1050) ∧ RunsX 37 [.slice (((nth l i).fld 1).toSlice)] ⟨[.bool (mB l h i)], [], false⟩ := by
  have := Classical.choose_spec (mu22_runs (h i hi).2.2)
  unfold mB
  rw [dif_pos hi]
  exact ⟨fun hb => (this.1 hb).1, this.2⟩
theorem mu24_l0 {l : List AV} (h : Blocks0 l) (hl : l.length ≤ maxLen) : ∀ (j i : Nat) (x : Int), 31 - i = j → i ≤ l.length → (∀ m, m < i → (((nth l m).fld 1).toSlice).length ≤ 1050) → ∃ b, (b = false → l.length ≤ 24 ∧ ∀ m, m < l.length → (((nth l m).fld 1).toSlice).length ≤ 1050) ∧
    ∀ (n k : Nat), (∀ m, m < min l.length 30 → runE G ext n 37 [.slice (((nth l m).fld 1).toSlice)] = some ⟨[.bool (mB l h m)], [], false⟩) → j < k → f9_l0 (runE G ext n) n k l x (i : Int) = some ⟨[.bool b], [], false⟩ := by
  rw [maxLen_eq] at hl
  intro j
  induction j with
  | zero =>
    intro i x hj hi hm
    by_cases h24 : 24 < (l.length : Int)
    · refine ⟨true, (fun h => by cases h), fun n k hr hk => ?_⟩
      obtain ⟨k, rfl⟩ : ∃ j, k = j + 1 := ⟨k - 1, by omega⟩
      rw [f9_l0_eq, ltI_f (a := (i : Int)) (b := 30) (by omega), ltI_t h24]
      cases ltI (i : Int) (l.length : Int) <;> rfl
    · omega
  | succ j ih =>
    intro i x hj hi hm
    by_cases h1 : i < l.length
    · by_cases h2 : (i : Int) < 30
      · cases hb : mB l h i with
        | true =>
          refine ⟨true, (fun h => by cases h), fun n k hr hk => ?_⟩
          obtain ⟨k, rfl⟩ : ∃ j, k = j + 1 := ⟨k - 1, by omega⟩
          have e := hr i (by omega)
          rw [hb] at e
          rw [f9_l0_eq, ltI_t (by omega), ltI_t h2, cond_true, cond_true, inR_nat h1, cond_true, Int.toNat_natCast, e, step1, toBool_b, cond_true]; rfl
        | false =>
          obtain ⟨b, hb1, hb2⟩ := ih (i + 1) (IntKind.wrap .i64 (x + ((((nth l i).fld 1).toSlice).length : Int))) (by omega) (by omega) (fun m hm' => by
            by_cases he : m = i
            · subst he; exact (mB_spec h h1).1 hb
            · exact hm m (by omega))
          refine ⟨b, hb1, fun n k hr hk => ?_⟩
          obtain ⟨k, rfl⟩ : ∃ j, k = j + 1 := ⟨k - 1, by omega⟩
          have e := hr i (by omega)
          rw [hb] at e
          have ih' := hb2 n k hr (by omega)
          rw [show ((i + 1 : Nat) : Int) = (i : Int) + 1 by omega] at ih'
          rw [f9_l0_eq, ltI_t (by omega), ltI_t h2, cond_true, cond_true, inR_nat h1, cond_true, Int.toNat_natCast, e, step1, toBool_b, cond_false, w64 (x := (i : Int) + 1) (by omega) (by omega), cond_true]
          exact ih'
      · by_cases h24 : 24 < (l.length : Int)
        · refine ⟨true, (fun h => by cases h), fun n k hr hk => ?_⟩
          obtain ⟨k, rfl⟩ : ∃ j, k = j + 1 := ⟨k - 1, by omega⟩
          rw [f9_l0_eq, ltI_f h2, ltI_t h24]
          cases ltI (i : Int) (l.length : Int) <;> rfl
        · omega
    · by_cases h24 : 24 < (l.length : Int)
      · refine ⟨true, (fun h => by cases h), fun n k hr hk => ?_⟩
        obtain ⟨k, rfl⟩ : ∃ j, k = j + 1 := ⟨k - 1, by omega⟩
        rw [f9_l0_eq, ltI_f (a := (i : Int)) (by omega), ltI_t h24]; rfl
      · refine ⟨ltI 100 x, (fun _ => ⟨by omega, fun m hm' => hm m (by omega)⟩), fun n k hr hk => ?_⟩
        obtain ⟨k, rfl⟩ : ∃ j, k = j + 1 := ⟨k - 1, by omega⟩
        rw [f9_l0_eq, ltI_f (a := (i : Int)) (by omega), ltI_f h24]; rfl
theorem mu24_runs {l : List AV} (h : Blocks0 l) (hl : l.length ≤ maxLen) : ∃ b, (b = false → l.length ≤ 24 ∧ Blocks l) ∧ RunsX 9 [.slice l] ⟨[.bool b], [], false⟩ := by
  obtain ⟨b, h1, h2⟩ := mu24_l0 h hl 31 0 0 (by omega) (by omega) (fun m hm => by omega)
  refine ⟨b, fun hb => ⟨(h1 hb).1, fun i hi => ⟨(h i hi).1, (h i hi).2.1, Nat.le_trans ((h1 hb).2 i hi) (by omega)⟩⟩, ?_⟩
  have hall := Evt.all (min l.length 30) fun m hm => (mB_spec h (i := m) (by omega)).2
  refine Evt.succ ((hall.and (Evt.ge 40)).mono fun n hn => ?_)
  rw [f9_run, f9_eq]
  exact h2 n n hn.1 (by omega)

/- prefixes -/
theorem nth_take {l : List AV} {i m : Nat} (h : i < m) : nth (l.take m) i = nth l i := by
  unfold nth
  simp [List.getD, h]
theorem vecV_take {t : List UInt8} {l : List AV} {m : Nat} : ∀ i, i ≤ m → vecV t (l.take m) i = vecV t l i
  | 0, _ => rfl
  | i + 1, h => by
    simp only [vecV]
    rw [vecV_take i (by omega), nth_take (by omega)]
theorem blkErr_take {gh : Int} {gl gt : List UInt8} {gn : Int} {t : List UInt8} {l : List AV} {i m : Nat} (h : i < m) : blkErr gh gl gt gn t (l.take m) i = blkErr gh gl gt gn t l i := by
  unfold blkErr
  rw [nth_take h, vecV_take i (by omega)]
theorem Blocks.take {l : List AV} (h : Blocks l) (m : Nat) : Blocks (l.take m) := by
  intro i hi
  have : i < m ∧ i < l.length := by rw [List.length_take] at hi; omega
  rw [nth_take this.1]
  exact h i this.2

section
variable {gh : Int} {gl gt : List UInt8} {gn : Int} {t : List UInt8} {c1 c2 c3 c4 c5 c6 : Int}
theorem faultV_ok {l : List AV} : ∀ (j i : Nat), (∀ k, i ≤ k → k < i + j → blkErr gh gl gt gn t l k = 0) → faultV gh gl gt gn t l j i = .agg [.int 0, .int 0]
  | 0, _, _ => rfl
  | j + 1, i, h => by
    simp only [faultV]
    rw [h i (by omega) (by omega), eqI_t rfl, not_t, cond_false]
    exact faultV_ok j (i + 1) fun k h1 h2 => h k (by omega) (by omega)
theorem faultV_spec {l : List AV} : ∀ (j i : Nat), (faultV gh gl gt gn t l j i = .agg [.int 0, .int 0] ∧ ∀ k, i ≤ k → k < i + j → blkErr gh gl gt gn t l k = 0) ∨
    ∃ k, i ≤ k ∧ k < i + j ∧ blkErr gh gl gt gn t l k ≠ 0 ∧ faultV gh gl gt gn t l j i = .agg [.int (blkErr gh gl gt gn t l k), .int (k : Int)] ∧ ∀ m, i ≤ m → m < k → blkErr gh gl gt gn t l m = 0
  | 0, _ => .inl ⟨rfl, fun k h1 h2 => by omega⟩
  | j + 1, i => by
    simp only [faultV]
    by_cases hb : blkErr gh gl gt gn t l i = 0
    · rw [eqI_t hb, not_t, cond_false]
      rcases faultV_spec (l := l) j (i + 1) with ⟨h1, h2⟩ | ⟨k, h1, h2, h3, h4, h5⟩
      · refine .inl ⟨h1, fun k k1 k2 => ?_⟩
        by_cases he : k = i
        · rw [he]; exact hb
        · exact h2 k (by omega) (by omega)
      · refine .inr ⟨k, by omega, by omega, h3, h4, fun m m1 m2 => ?_⟩
        by_cases he : m = i
        · rw [he]; exact hb
        · exact h5 m (by omega) m2
    · rw [eqI_f hb, not_f, cond_true]
      exact .inr ⟨i, Nat.le_refl _, by omega, hb, rfl, fun m m1 m2 => by omega⟩
theorem chainV_prefix {l : List AV} {m : Nat} (h1 : 1 ≤ m) (h2 : m ≤ l.length) (h3 : m ≤ 1024) (h : ∀ k, k < m → blkErr gh gl gt gn t l k = 0) : chainV gh gl gt gn t (l.take m) = .agg [.int 0, .int 0] := by
  unfold chainV
  have e : (l.take m).length = m := by rw [List.length_take]; omega
  rw [if_neg (by omega), if_neg (by omega), e]
  exact faultV_ok m 0 fun k k1 k2 => by rw [blkErr_take (by omega)]; exact h k (by omega)
/-- What a chain's check tells: the longest beginning that may be. -/
theorem chainV_spec {l : List AV} (h1 : 1 ≤ l.length) (h2 : l.length ≤ 1024) : (chainV gh gl gt gn t l = .agg [.int 0, .int 0] ∧ ∀ k, k < l.length → blkErr gh gl gt gn t l k = 0) ∨
    ∃ k, k < l.length ∧ blkErr gh gl gt gn t l k ≠ 0 ∧ chainV gh gl gt gn t l = .agg [.int (blkErr gh gl gt gn t l k), .int (k : Int)] ∧ ∀ m, m < k → blkErr gh gl gt gn t l m = 0 := by
  unfold chainV
  rw [if_neg (by omega), if_neg (by omega)]
  rcases faultV_spec (gh := gh) (gl := gl) (gt := gt) (gn := gn) (t := t) (l := l) l.length 0 with ⟨h3, h4⟩ | ⟨k, _, h4, h5, h6, h7⟩
  · exact .inl ⟨h3, fun k hk => h4 k (by omega) (by omega)⟩
  · exact .inr ⟨k, by omega, h5, h6, fun m hm => h7 m (by omega) hm⟩
end

theorem zeros32_len : (List.replicate 32 (0 : UInt8)).length = 32 := by simp
theorem no_blocks : Blocks [] := fun i hi => by simp at hi
def zblk : AV := .agg [.agg [.int 0, .blob (List.replicate 32 0), .blob (List.replicate 32 0), .int 0], .slice []]
theorem zblks (k : Nat) : Blocks (List.replicate k zblk) := by
  intro i hi
  rw [nth_lt hi, List.getElem_replicate]
  refine ⟨⟨by decide, by decide, by decide, by decide, by decide, by decide⟩, nil_short, by decide⟩
theorem z_root : eqS (linkR []) (List.replicate 32 0) = false := by decide +kernel
theorem zblk_bad {gh : Int} {gl gt : List UInt8} {gn : Int} {t : List UInt8} {l : List AV} (h : nth l 0 = zblk) : blkErr gh gl gt gn t l 0 = 7 ∨ blkErr gh gl gt gn t l 0 = 12 := by
  have hf : formV (nth l 0) 0 (vecV t l 0) = 12 := by
    rw [h]
    show checkV 0 (List.replicate 32 0) (List.replicate 32 0) [] ((0 : Nat) : Int) [] = 12
    unfold checkV
    rw [z_root]; rfl
  by_cases ha : ancV gh gl gt gn ((nth l 0).fld 0) 0 = 0
  · right
    rw [blkErr_f (eqI_t ha) (by rw [hf]; rfl), hf]
  · left
    rw [blkErr_a (eqI_f ha)]
    unfold ancV at ha ⊢
    rw [eqI_t (show ((0 : Nat) : Int) = 0 from rfl), cond_true] at ha ⊢
    cases hc : !(eqI (((nth l 0).fld 0).fld 0).toInt gh && (eqS (((nth l 0).fld 0).fld 1).toBlob gl && (eqS (((nth l 0).fld 0).fld 2).toBlob gt && (eqI (((nth l 0).fld 0).fld 3).toInt gn && true)))) with
    | true => rfl
    | false => rw [hc] at ha; exact absurd rfl ha
theorem tmod_u64 (a : Int) (L : Nat) (hL : L ≤ 100000) : ∃ u : Nat, u ≤ L ∧ IntKind.wrap .i64 (Int.tmod (IntKind.wrap .u64 a) (IntKind.wrap .u64 (IntKind.wrap .i64 ((L : Int) + 1)))) = (u : Int) := by
  rw [w64 (x := (L : Int) + 1) (by omega) (by omega), wrap64, wrap64, show ((L : Int) + 1) % 18446744073709551616 = (L : Int) + 1 by omega, Int.tmod_eq_emod_of_nonneg (by omega)]
  have h1 : 0 ≤ (a % 18446744073709551616) % ((L : Int) + 1) := Int.emod_nonneg _ (by omega)
  have h2 : (a % 18446744073709551616) % ((L : Int) + 1) < (L : Int) + 1 := Int.emod_lt_of_pos _ (by omega)
  refine ⟨((a % 18446744073709551616) % ((L : Int) + 1)).toNat, by omega, ?_⟩
  rw [w64 (by omega) (by omega)]; omega

end Go.Proofs.YtogehijjhibdkaaGreat.Ev
