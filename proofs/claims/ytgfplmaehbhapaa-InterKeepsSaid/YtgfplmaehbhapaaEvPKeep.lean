/- Vectors keep their entries. -/
import Derived.Test.YtgfplmaehbhapaaEvPNext
namespace Go.Proofs.Ytgfplmaehbhapaa.Ev
open Go Go.RowKit

/-- A vector that ends with the genesis block. -/
structure Vec (g : List UInt8) (v : List AV) : Prop where
  blobs : Blobs v
  pos : 1 ≤ v.length
  top : v.length ≤ 257
  last : nth v (v.length - 1) = .blob g

theorem nextV_len' {g : List UInt8} {v : List AV} (h : Vec g v) (id : List UInt8) (lv : Int) : (nextV v id lv).length = max v.length (clampV lv + 2) := by
  rw [nextV_len, if_neg (by have := h.pos; omega)]

theorem nextV_nth {g : List UInt8} {v : List AV} (h : Vec g v) (id : List UInt8) (lv : Int) {i : Nat} (hi : i < max v.length (clampV lv + 2)) : nth (nextV v id lv) i = nextAt v id (clampV lv) i := by
  unfold nextV
  rw [if_neg (by have := h.pos; omega), nth_range hi]

theorem Vec.next {g : List UInt8} {v : List AV} (h : Vec g v) (id : List UInt8) (lv : Int) : Vec g (nextV v id lv) := by
  have hc := clampV_le lv
  have h1 := h.pos
  have h2 := h.top
  have hl := nextV_len' h id lv
  refine ⟨?_, by omega, by omega, ?_⟩
  · intro i hi
    rw [nextV_nth h id lv (by omega)]
    unfold nextAt
    split
    · rfl
    · split
      · rename_i h3; exact h.blobs i h3
      · exact h.blobs _ (by omega)
  · rw [nextV_nth h id lv (by omega)]
    unfold nextAt
    rw [if_neg (by omega)]
    split
    · rw [← h.last]; congr 1; omega
    · exact h.last

theorem entryV_pos {l : List AV} {lv : Int} (h : l.length ≠ 0) (h1 : 0 ≤ lv) : entryV l lv = [.blob (nth l (min lv ((l.length : Int) - 1)).toNat).toBlob, .bool true] := by
  unfold entryV
  rw [if_neg (by omega)]

theorem keeps_l2 (m n k0 : Nat) (ids lvs v : List AV) (g : List UInt8) (i : Nat) {R : Option Res} (hi : i < ids.length) (hil : ids.length ≤ 60) (hl : ids.length ≤ lvs.length) (h : Vec g v)
    (hz : f7_l0 (runE G noExt (m + 1)) n k0 ids lvs (nextV v (nth ids i).toBlob (nth lvs i).toInt) ((i : Int) + 1) g = R) :
    ∀ (j k c : Nat), c + j = 257 → j < k → f7_l2 (runE G noExt (m + 1)) n k0 k ids lvs v (i : Int) (nextV v (nth ids i).toBlob (nth lvs i).toInt) (c : Int) g = R := by
  intro j
  induction j with
  | zero =>
    intro k c hc hk
    obtain ⟨k, rfl⟩ : ∃ j, k = j + 1 := ⟨k - 1, by omega⟩
    rw [f7_l2_eq, ltI_f (by omega), cond_false, w64 (by omega) (by omega)]
    exact hz
  | succ j ih =>
    intro k c hc hk
    obtain ⟨k, rfl⟩ : ∃ j, k = j + 1 := ⟨k - 1, by omega⟩
    have hcl := clampV_le (nth lvs i).toInt
    have hlen := nextV_len' h (nth ids i).toBlob (nth lvs i).toInt
    have h1 := h.pos
    have h2 := h.top
    have hv := h.next (nth ids i).toBlob (nth lvs i).toInt
    have h3 := hv.top
    have hnx := fun q (hq : q < max v.length (clampV (nth lvs i).toInt + 2)) => nextV_nth h (nth ids i).toBlob (nth lvs i).toInt hq
    have ih' := ih k (c + 1) (by omega) (by omega)
    rw [show ((c + 1 : Nat) : Int) = (c : Int) + 1 by omega] at ih'
    rw [f7_l2_eq, ltI_t (by omega), cond_true, entry_at m _ (by rw [maxLen_eq]; omega), entry_at m _ (by rw [maxLen_eq]; omega), entryV_pos (by omega) (by omega), entryV_pos (by omega) (by omega)]
    simp only [bind_run, consV_c, nilV_n, toBlob_b]
    rw [inR_nat (by omega), inR_nat hi, mx2_eq, Int.toNat_natCast, w64 (x := (c : Int) + 1) (by omega) (by omega), ih']
    simp only [cond_true]
    have e3 : (min (c : Int) (((nextV v (nth ids i).toBlob (nth lvs i).toInt).length : Int) - 1)).toNat = min c (max v.length (clampV (nth lvs i).toInt + 2) - 1) := by omega
    have e4 : (min (c : Int) ((v.length : Int) - 1)).toNat = min c (v.length - 1) := by omega
    rw [e3, e4, hnx _ (by omega)]
    have ecl : (clampV (nth lvs i).toInt : Int) = min (max (nth lvs i).toInt 0) 255 := by unfold clampV; omega
    generalize clampV (nth lvs i).toInt = cl at hcl ecl
    by_cases h4 : (c : Int) ≤ max (nth lvs i).toInt 0
    · rw [leI_t h4, ltI_f (by omega)]
      by_cases h5 : c ≤ 255
      · rw [leI_t (by omega)]
        unfold nextAt
        rw [if_pos (by omega), eqS_t (by rfl)]
        rfl
      · rw [leI_f (by omega)]
        rfl
    · rw [leI_f h4, ltI_t (by omega)]
      have e5 : nextAt v (nth ids i).toBlob cl (min c (max v.length (cl + 2) - 1)) = nth v (min c (v.length - 1)) := by
        unfold nextAt
        rw [if_neg (by omega)]
        split
        · congr 1; omega
        · congr 1; omega
      rw [e5, eqS_t rfl]
      rfl

theorem keeps_l0 (m n : Nat) (hm : 10000 ≤ m) (hn : 300 ≤ n) (ids lvs : List AV) (g : List UInt8) (hil : ids.length ≤ 60) (hl : ids.length ≤ lvs.length) (ha : runE G noExt (m + 1) 9 [] = some ⟨[.bool true], [], false⟩) :
    ∀ (j k i : Nat) (v : List AV), i + j = ids.length → j < k → Vec g v → f7_l0 (runE G noExt (m + 1)) n k ids lvs v (i : Int) g = some ⟨[.bool true], [], false⟩ := by
  intro j
  induction j with
  | zero =>
    intro k i v hi hk h
    obtain ⟨k, rfl⟩ : ∃ j, k = j + 1 := ⟨k - 1, by omega⟩
    rw [f7_l0_eq, ltI_f (by omega), cond_false, ha]
    rfl
  | succ j ih =>
    intro k i v hi hk h
    obtain ⟨k, rfl⟩ : ∃ j, k = j + 1 := ⟨k - 1, by omega⟩
    have h1 := h.pos
    have h2 := h.top
    have hv := h.next (nth ids i).toBlob (nth lvs i).toInt
    have hlen := nextV_len' h (nth ids i).toBlob (nth lvs i).toInt
    have h3 := hv.top
    have h4 := hv.pos
    have ih' := ih k (i + 1) (nextV v (nth ids i).toBlob (nth lvs i).toInt) (by omega) (by omega) hv
    rw [show ((i + 1 : Nat) : Int) = (i : Int) + 1 by omega] at ih'
    rw [f7_l0_eq, ltI_t (by omega), cond_true, inR_nat (by omega), inR_nat (by omega), Int.toNat_natCast, next_at m hm _ _ (by omega) h.blobs]
    simp only [bind_run, consV_c, nilV_n, toSlice_s, cond_true]
    rw [eqI_f (by omega), ltI_f (by omega), ltI_f (by omega), w64 (by omega) (by omega), inR_yes (by omega) (by omega),
      show (((nextV v (nth ids i).toBlob (nth lvs i).toInt).length : Int) - 1).toNat = (nextV v (nth ids i).toBlob (nth lvs i).toInt).length - 1 by omega, hv.last, toBlob_b, eqS_t rfl]
    simp only [cond_true, cond_false, not_t]
    exact keeps_l2 m n k ids lvs v g i (by omega) hil hl h ih' 257 n 0 (by omega) (by omega)

theorem interKeeps_runs {g : List UInt8} {ids lvs : List AV} : Runs G noExt 7 [.blob g, .slice ids, .slice lvs] ⟨[.bool true], [], false⟩ := by
  refine Evt.succ ((interAwake.and ((first_runs (id := g)).and (Evt.ge 20000))).mono fun n hn => ?_)
  obtain ⟨ha, h1, hn⟩ := hn
  rw [f7_run, f7_eq, ha, h1]
  simp only [bind_run, consV_c, nilV_n, toSlice_s, toBool_b]
  by_cases h2 : 60 < ids.length
  · rw [ltI_t (by omega), cond_true]; rfl
  · rw [ltI_f (by omega), cond_false]
    by_cases h3 : lvs.length < ids.length
    · rw [ltI_t (by omega), cond_true]; rfl
    · rw [ltI_f (by omega), cond_false, cond_true]
      obtain ⟨m, rfl⟩ : ∃ m, n = m + 1 := ⟨n - 1, by omega⟩
      have hv : Vec g [.blob g] := ⟨fun i hi => by
        have : i = 0 := by simp at hi; omega
        subst this; rfl, by simp, by simp, rfl⟩
      exact keeps_l0 m (m + 1) (by omega) (by omega) ids lvs g (by omega) (by omega) ha ids.length (m + 1) 0 _ (by omega) (by omega) hv

theorem interKeeps_sat (xs : List AV) (h : Ty.HasL [.blob 32, .slice (.blob 32), .slice (.int .i64)] xs) : ∃ r, r.vals = [.bool true] ∧ Sat Try.prog f7_info 7 xs r := by
  obtain ⟨z, r, rfl, ⟨g, rfl, _⟩, x, r2, rfl, ⟨l, rfl, _⟩, y, r', rfl, ⟨a, rfl, _⟩, rfl⟩ := h
  exact ⟨_, rfl, sat_of_runs types_ok fns_ok (by kernel_rfl) interKeeps_runs⟩

end Go.Proofs.Ytgfplmaehbhapaa.Ev
