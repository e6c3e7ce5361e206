/- Openings that hold: both programs tell the same. -/
import Derived.Test.YtogehijjhibdkaaGreatEvPOpen
namespace Go.Proofs.YtogehijjhibdkaaGreat.Ev
open Go Go.RowKit

def stepH (z : AV × AV) (a : List UInt8) : List UInt8 := if z.1.toBool then nodeH z.2.toBlob a else nodeH a z.2.toBlob
def climb (Z : List (AV × AV)) (a : List UInt8) : List UInt8 := Z.foldl (fun a z => stepH z a) a
theorem climb_snoc (Z : List (AV × AV)) (z : AV × AV) (a : List UInt8) : climb (Z ++ [z]) a = stepH z (climb Z a) := by simp [climb]
theorem stepH_len (z : AV × AV) (a : List UInt8) : (stepH z a).length = 32 := by unfold stepH; split <;> exact hashV_len _
theorem climb_len : ∀ (Z : List (AV × AV)) {a : List UInt8}, a.length = 32 → (climb Z a).length = 32
  | [], _, h => h
  | z :: Z, a, _ => climb_len Z (stepH_len z a)
def upsV (Z : List (AV × AV)) (a : List UInt8) (j : Nat) : List AV := (List.range (j + 1)).map fun i => .blob (climb (Z.take i) a)
theorem upsV_succ (Z : List (AV × AV)) (a : List UInt8) (j : Nat) : upsV Z a (j + 1) = upsV Z a j ++ [.blob (climb (Z.take (j + 1)) a)] := by simp [upsV, List.range_succ]
theorem upsV_len (Z : List (AV × AV)) (a : List UInt8) (j : Nat) : (upsV Z a j).length = j + 1 := by simp [upsV]
theorem upsV_nth (Z : List (AV × AV)) (a : List UInt8) {i j : Nat} (h : i ≤ j) : nth (upsV Z a j) i = .blob (climb (Z.take i) a) := by
  rw [nth_lt (by rw [upsV_len]; omega)]
  simp [upsV]
theorem climb_take {S P : List AV} (a : List UInt8) (h : S.length = P.length) {i : Nat} (hi : i < S.length) : climb ((S.zip P).take (i + 1)) a = stepH (nth S i, nth P i) (climb ((S.zip P).take i) a) := by
  have hz : i < (S.zip P).length := by rw [List.length_zip]; omega
  rw [List.take_succ_eq_append_getElem hz, climb_snoc, List.getElem_zip, nth_lt hi, nth_lt (by omega)]
theorem blobAt {l : List AV} (h : Blob32 l) {i : Nat} (hi : i < l.length) : (nth l i).toBlob.length = 32 := by
  obtain ⟨b, hb, hl⟩ := h l[i] (List.getElem_mem hi)
  rw [nth_lt hi, hb]; exact hl

/-- What is wrong with an opening's form. -/
def mayH (i n : Int) (P : List AV) : Int := if n < 1 ∨ 1048576 < n ∨ i < 0 ∨ n ≤ i then 3 else if (P.length : Int) = ((sidesV n.toNat n i).length : Int) then 0 else 2
def waysH (i n : Int) (P : List AV) : List (AV × AV) := (sidesV n.toNat n i).zip P
def toldH (s : List UInt8) (i n : Int) (P : List AV) : List UInt8 := if mayH i n P = 0 then rootH n.toNat (climb (waysH i n P) (leafH s)) else zero32
def checkH (root s : List UInt8) (i n : Int) (P : List AV) : Bool := bif eqI (mayH i n P) 0 then eqS (toldH s i n P) root else false
def Op (i n : Int) (P : List AV) : AV := .agg [.int i, .int n, .slice P]

theorem mayH_in {i n : Int} {P : List AV} (h : mayH i n P = 0) : 1 ≤ n ∧ n ≤ 1048576 ∧ 0 ≤ i ∧ i < n ∧ P.length = (sidesV n.toNat n i).length := by
  unfold mayH at h
  split at h
  · cases h
  · split at h
    · rename_i h1 h2
      omega
    · cases h

theorem sides_at (m : Nat) {n i : Int} (h0 : 0 ≤ i) (h1 : i < n) (h2 : n ≤ 1048576) : runE G ext m 190 [.int n, .int i] = some ⟨[.slice (sidesV n.toNat n i)], [], true⟩ := by
  refine ext_at ?_ m
  show (bif leI n 1048576 then some (⟨[.slice (bif leI 0 i && ltI i n then sidesV n.toNat n i else [])], [], true⟩ : Res) else none) = _
  rw [leI_t h2, leI_t h0, ltI_t h1]
  rfl

theorem may_runs (i n : Int) (P : List AV) : RunsX 166 [.agg [.int i, .int n, .slice P]] ⟨[.int (mayH i n P)], [], false⟩ := by
  unfold mayH
  by_cases h1 : n < 1
  · refine Evt.succ (.of fun m => ?_)
    rw [if_pos (.inl h1), f166_run, f166_eq, ltI_t h1]; rfl
  by_cases h2 : 1048576 < n
  · refine Evt.succ (.of fun m => ?_)
    rw [if_pos (.inr (.inl h2)), f166_run, f166_eq, ltI_f h1, ltI_t h2]; rfl
  by_cases h3 : i < 0
  · refine Evt.succ (.of fun m => ?_)
    rw [if_pos (.inr (.inr (.inl h3))), f166_run, f166_eq, ltI_f h1, ltI_f h2, ltI_t h3]; rfl
  by_cases h4 : n ≤ i
  · refine Evt.succ (.of fun m => ?_)
    rw [if_pos (.inr (.inr (.inr h4))), f166_run, f166_eq, ltI_f h1, ltI_f h2, ltI_f h3, leI_t h4]; rfl
  refine Evt.succ ((Evt.ge 1).mono fun m hm => ?_)
  obtain ⟨m, rfl⟩ : ∃ j, m = j + 1 := ⟨m - 1, by omega⟩
  rw [if_neg (by omega), f166_run, f166_eq, ltI_f h1, ltI_f h2, ltI_f h3, leI_f h4, cond_false, cond_false, cond_false, cond_false, f189_run, f189_eq, ltI_f h3, leI_f h4, cond_false, cond_false, sides_at m (by omega) (by omega) (by omega), step1f, step1, toSlice_s, toInt_i]
  by_cases h5 : (P.length : Int) = ((sidesV n.toNat n i).length : Int)
  · rw [eqI_t h5, if_pos h5]; rfl
  · rw [eqI_f h5, if_neg h5]; rfl

theorem up_runs {s : List UInt8} {i n : Int} {P : List AV} (hs : s.length ≤ 140737488355328) (hb : Blob32 P) : RunsX 167 [.str s, .agg [.int i, .int n, .slice P]] ⟨[.slice (if mayH i n P = 0 then upsV (waysH i n P) (leafH s) P.length else [])], [], true⟩ := by
  by_cases hm : mayH i n P = 0
  · obtain ⟨g1, g2, g3, g4, g5⟩ := mayH_in hm
    have r1 := may_runs i n P
    have r2 := leafSum_runs hs
    rw [if_pos hm]
    rw [hm] at r1
    have hk := sidesV_len n.toNat n i
    unfold waysH
    have ha : (leafH s).length = 32 := hashV_len _
    have hall := Evt.all P.length fun j hj => (nodeSum_runs (blobAt hb hj) (climb_len (((sidesV n.toNat n i).zip P).take j) ha)).and (nodeSum_runs (climb_len (((sidesV n.toNat n i).zip P).take j) ha) (blobAt hb hj))
    refine Evt.succ (((r1.and r2).and (hall.and (Evt.ge (P.length + 1)))).mono fun m hn => ?_)
    obtain ⟨⟨e1, e2⟩, e3, e4⟩ := hn
    rw [f167_run, f167_eq, e1, step1, toInt_i, eqI_t rfl, not_t, cond_false, e2, step1, sides_at m g3 g4 g2, step1f, toSlice_s, toBlob_b]
    generalize leafH s = a at e3 ha
    generalize sidesV n.toNat n i = S at e3 g5 hk
    have key : ∀ (j k c : Nat), c + j = P.length → j < k → f167_l0 (runE G ext m) m k (upsV (S.zip P) a c) S (S.length : Int) (c : Int) i n P (climb ((S.zip P).take c) a) = some ⟨[.slice (upsV (S.zip P) a P.length)], [], true⟩ := by
      intro j
      induction j with
      | zero =>
        intro k c hc hj
        obtain ⟨k, rfl⟩ : ∃ j, k = j + 1 := ⟨k - 1, by omega⟩
        rw [f167_l0_eq, ltI_f (by omega), cond_false, show c = P.length by omega]
        rfl
      | succ j ih =>
        intro k c hc hj
        obtain ⟨k, rfl⟩ : ∃ j, k = j + 1 := ⟨k - 1, by omega⟩
        have ih' := ih k (c + 1) (by omega) (by omega)
        obtain ⟨n1, n2⟩ := e3 c (by omega)
        rw [show ((c + 1 : Nat) : Int) = (c : Int) + 1 by omega, upsV_succ, climb_take a g5.symm (by omega)] at ih'
        rw [f167_l0_eq, ltI_t (a := (c : Int)) (by omega), cond_true, inR_nat (n := S.length) (by omega), cond_true, Int.toNat_natCast, inR_nat (n := P.length) (by omega), n1, n2, step1, step1, toBlob_b, toBlob_b, upsV_len, show Nat.ble ((c + 1 + 1) * 32) 140737488355328 = true from Nat.ble_eq_true_of_le (by omega), w64 (x := (c : Int) + 1) (by omega) (by omega)]
        unfold stepH at ih'
        cases hb : (nth S c).toBool with
        | true => rw [if_pos hb] at ih'; exact ih'
        | false => rw [if_neg (by rw [hb]; simp)] at ih'; exact ih'
    exact key P.length m 0 (by omega) (by omega)
  · refine Evt.succ ((may_runs i n P).mono fun m hn => ?_)
    rw [if_neg hm, f167_run, f167_eq, hn, step1, toInt_i, eqI_f hm]; rfl

theorem holdRoot_runs {s : List UInt8} {i n : Int} {P : List AV} (hs : s.length ≤ 140737488355328) (hb : Blob32 P) : RunsX 138 [.str s, .agg [.int i, .int n, .slice P]] ⟨[.blob (toldH s i n P), .int (mayH i n P)], [], false⟩ := by
  have r1 := may_runs i n P
  have r2 := up_runs (s := s) (i := i) (n := n) (P := P) hs hb
  unfold toldH
  by_cases hm : mayH i n P = 0
  · obtain ⟨g1, g2, g3, g4, g5⟩ := mayH_in hm
    have hk := sidesV_len n.toNat n i
    rw [if_pos hm]
    rw [if_pos hm] at r2
    rw [hm] at r1 ⊢
    have r3 := rootSum_runs n.toNat (climb_len (waysH i n P) (a := leafH s) (hashV_len _))
    refine Evt.succ (((r1.and r2).and r3).mono fun m hn => ?_)
    obtain ⟨⟨e1, e2⟩, e3⟩ := hn
    have e : nth (upsV (waysH i n P) (leafH s) P.length) P.length = .blob (climb (waysH i n P) (leafH s)) := by
      rw [upsV_nth _ _ (Nat.le_refl _), List.take_of_length_le (by unfold waysH; rw [List.length_zip]; omega)]
    have en : IntKind.wrap .u64 n = U (BitVec.ofNat 64 n.toNat) := by
      have := wrapLen (n := n.toNat) (by omega)
      rwa [show ((n.toNat : Nat) : Int) = n by omega] at this
    rw [f138_run, f138_eq, e1, step1, toInt_i, eqI_t rfl, not_t, cond_false, e2, step1f, toSlice_s, upsV_len, w64 (x := ((P.length + 1 : Nat) : Int) - 1) (by omega) (by omega), show ((P.length + 1 : Nat) : Int) - 1 = (P.length : Int) by omega, inR_nat (by omega), cond_true, Int.toNat_natCast, e, toBlob_b, en, e3, step1]
    rfl
  · refine Evt.succ (r1.mono fun m hn => ?_)
    rw [if_neg hm, f138_run, f138_eq, hn, step1, toInt_i, eqI_f hm]; rfl

theorem holdCheck_runs {root s : List UInt8} {i n : Int} {P : List AV} (hs : s.length ≤ 140737488355328) (hb : Blob32 P) : RunsX 110 [.blob root, .str s, .agg [.int i, .int n, .slice P]] ⟨[.bool (checkH root s i n P)], [], false⟩ := by
  refine Evt.succ ((holdRoot_runs (s := s) (i := i) (n := n) (P := P) hs hb).mono fun m hn => ?_)
  unfold checkH
  rw [f110_run, f110_eq, hn, step2, toInt_i, toBlob_b]
  cases eqI (mayH i n P) 0 <;> rfl

/- one leaf -/
theorem one_root (s : List UInt8) : rootV [.str s] = rootH 1 (leafH s) := rfl
theorem one_told (s : List UInt8) : toldH s 0 1 [] = rootH 1 (leafH s) := rfl
theorem one_may : mayH 0 1 [] = 0 := rfl
theorem no_root : eqS (rootH 1 (leafH [97])) zero32 = false := by decide +kernel
theorem no_blobs : Blob32 [] := fun y hy => by cases hy
theorem one_short : Short [AV.str [97]] := fun i hi => by
  have : i = 0 := by simp at hi; omega
  subst this
  decide
theorem one_check : checkH (rootH 1 (leafH [97])) [97] 0 1 [] = true := by
  unfold checkH
  rw [one_may, one_told, eqI_t rfl, eqS_t rfl]; rfl
theorem one_check0 : checkH zero32 [97] 0 1 [] = false := by
  unfold checkH
  rw [one_may, one_told, no_root]; rfl

end Go.Proofs.YtogehijjhibdkaaGreat.Ev
