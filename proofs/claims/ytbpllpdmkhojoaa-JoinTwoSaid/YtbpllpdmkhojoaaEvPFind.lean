/- Two leaves of one root at one place: two texts that have one sum. -/
import Derived.Test.YtbpllpdmkhojoaaEvPClash
import Derived.Test.YtbpllpdmkhojoaaEvPKit
namespace Go.Proofs.Ytbpllpdmkhojoaa.Ev
open Go Go.RowKit

theorem bs8_inj' {n m : Nat} (hn : n < 16777216) (hm : m < 16777216) (h : bs (BitVec.ofNat 64 n) 8 = bs (BitVec.ofNat 64 m) 8) : n = m := by
  simp only [bs, List.cons.injEq] at h
  obtain ⟨_, _, _, _, _, h5, h6, h7, _⟩ := h
  have e : ∀ (k s : Nat), k < 16777216 → ((byteOf (BitVec.ofNat 64 k >>> s)).toNat : Int) = ((k / 2 ^ s % 256 : Nat) : Int) := by
    intro k s hk
    rw [byteOf_toNat]
    unfold U
    rw [BitVec.toNat_ushiftRight, BitVec.toNat_ofNat, Nat.shiftRight_eq_div_pow, Nat.mod_eq_of_lt (show k < 2 ^ 64 by omega)]
    omega
  have a5 := e n (8 * 2) hn
  have a6 := e n (8 * 1) hn
  have a7 := e n (8 * 0) hn
  rw [h5, e m _ hm] at a5
  rw [h6, e m _ hm] at a6
  rw [h7, e m _ hm] at a7
  simp only [Nat.reduceMul, Nat.reducePow] at a5 a6 a7
  omega

def nodeTx (z : AV × AV) (a : List UInt8) : List UInt8 := if z.1.toBool then nodeT z.2.toBlob a else nodeT a z.2.toBlob
theorem stepH_tx (z : AV × AV) (a : List UInt8) : stepH z a = hashV (nodeTx z a) := by unfold stepH nodeTx; split <;> rfl

/-- The texts of which sums are taken, from the leaf's up. -/
def txtV (s : List UInt8) (S P : List AV) (N : Nat) (j : Nat) : List UInt8 :=
  if j = 0 then leafT s else if j ≤ S.length then nodeTx (nth S (j - 1), nth P (j - 1)) (climb ((S.zip P).take (j - 1)) (leafH s)) else rootT N (climb (S.zip P) (leafH s))
def txtL (s : List UInt8) (S P : List AV) (N : Nat) (m : Nat) : List AV := (List.range m).map fun j => .str (txtV s S P N j)
theorem txtL_len (s : List UInt8) (S P : List AV) (N m : Nat) : (txtL s S P N m).length = m := by simp [txtL]
theorem txtL_succ (s : List UInt8) (S P : List AV) (N m : Nat) : txtL s S P N (m + 1) = txtL s S P N m ++ [.str (txtV s S P N m)] := by simp [txtL, List.range_succ]
theorem txtL_nth (s : List UInt8) (S P : List AV) (N : Nat) {j m : Nat} (h : j < m) : (nth (txtL s S P N m) j).toStr = txtV s S P N j := by
  rw [nth_lt (by rw [txtL_len]; exact h)]
  simp [txtL]
  rfl

theorem txt_hash {s : List UInt8} {S P : List AV} {N : Nat} (hP : P.length = S.length) {j : Nat} (hj : j ≤ S.length) : hashV (txtV s S P N j) = climb ((S.zip P).take j) (leafH s) := by
  unfold txtV
  by_cases h : j = 0
  · subst h; rfl
  · rw [if_neg h, if_pos hj]
    obtain ⟨i, rfl⟩ : ∃ i, j = i + 1 := ⟨j - 1, by omega⟩
    rw [climb_take _ hP.symm (by omega), stepH_tx]; rfl
theorem txt_top {s : List UInt8} {S P : List AV} {N : Nat} : txtV s S P N (S.length + 1) = rootT N (climb (S.zip P) (leafH s)) := by
  unfold txtV
  rw [if_neg (by omega), if_neg (by omega)]
theorem txt_len {s : List UInt8} {S P : List AV} {N : Nat} (hP : P.length = S.length) (hb : Blob32 P) (j : Nat) : (txtV s S P N j).length ≤ s.length + 100 := by
  have ha : (leafH s).length = 32 := hashV_len _
  unfold txtV
  by_cases h : j = 0
  · rw [if_pos h, leafT_len]; omega
  · rw [if_neg h]
    by_cases h1 : j ≤ S.length
    · rw [if_pos h1]
      have k1 := blobAt hb (i := j - 1) (by omega)
      have k2 := climb_len ((S.zip P).take (j - 1)) ha
      unfold nodeTx
      split
      · rw [nodeT_len k1 k2]; omega
      · rw [nodeT_len k2 k1]; omega
    · rw [if_neg h1, rootT_len _ (climb_len _ ha)]; omega

theorem nodeText_runs {a b : List UInt8} (ha : a.length = 32) (hb : b.length = 32) : RunsX 84 [.blob a, .blob b] ⟨[.str (nodeT a b)], [], false⟩ :=
  Evt.succ (Evt.succ (.of fun n => nodeText_at n ha hb))

theorem step1oo {α : Type} (v y1 y2 : AV) (fr : Bool) (K : AV → AV → AV → Option α) : (some (⟨[v], [y1, y2], fr⟩ : Res)).bind (fun r => consV r.outs fun y ys => consV ys fun z zs => nilV zs (consV r.vals fun v vs => nilV vs (K y z v))) = K y1 y2 v := rfl

theorem node_clash {S P L : List AV} {i n : Int} {a : List UInt8} {j : Nat} (hj : j < P.length) (hb : Blob32 P) (ha : a.length = 32) (hL : j < L.length) (hn : nth L j = .blob a) :
    RunsX 83 [.int (j : Int), .bool (nth S j).toBool, .agg [.int i, .int n, .slice P], .slice L] ⟨[.str (nodeTx (nth S j, nth P j) a)], [.agg [.int i, .int n, .slice P], .slice L], false⟩ := by
  have r1 := nodeText_runs (blobAt hb hj) ha
  have r2 := nodeText_runs ha (blobAt hb hj)
  refine Evt.succ ((r1.and r2).mono fun m hm => ?_)
  rw [f83_run, f83_eq, inR_nat hj, inR_nat hL, Int.toNat_natCast, hn, toBlob_b, hm.1, step1, hm.2, step1]
  unfold nodeTx
  cases hs : (nth S j).toBool with
  | true => rfl
  | false => rfl

theorem texts_clash {s : List UInt8} {i n : Int} {P : List AV} (hs : s.length ≤ 140737488355328) (hb : Blob32 P) (hm : mayH i n P = 0) :
    RunsX 59 [.agg [.str s, .agg [.int i, .int n, .slice P]]] ⟨[.slice (txtL s (sidesV n.toNat n i) P n.toNat (P.length + 2))], [], true⟩ := by
  obtain ⟨g1, g2, g3, g4, g5⟩ := mayH_in hm
  have r1 := up_runs (s := s) (i := i) (n := n) (P := P) hs hb
  rw [if_pos hm] at r1
  unfold waysH at r1
  have hk := sidesV_len n.toNat n i
  have ha : (leafH s).length = 32 := hashV_len _
  have en : IntKind.wrap .u64 n = U (BitVec.ofNat 64 n.toNat) := by
    have := wrapLen (n := n.toNat) (by omega)
    rwa [show ((n.toNat : Nat) : Int) = n by omega] at this
  have hS := fun m => sides_at m g3 g4 g2
  generalize sidesV n.toNat n i = S at g5 hk r1 hS
  have hall := Evt.all P.length fun j hj => node_clash (S := S) (i := i) (n := n) (L := upsV (S.zip P) (leafH s) P.length) hj hb (climb_len ((S.zip P).take j) ha) (by rw [upsV_len]; omega) (upsV_nth _ _ (by omega))
  refine Evt.succ (((r1.and hall).and (Evt.ge (P.length + 3000))).mono fun m hn => ?_)
  obtain ⟨⟨e1, e2⟩, e3⟩ := hn
  obtain ⟨m', rfl⟩ : ∃ j, m = j + 3 := ⟨m - 3, by omega⟩
  have e4 := leafText_at (m' + 1) hs
  have e5 := rootText_at m' (by omega) n.toNat (climb_len (S.zip P) ha)
  have key : ∀ (j k c : Nat), c + j = P.length → j < k → f59_l0 (runE G ext (m' + 3)) (m' + 3) k (txtL s S P n.toNat (c + 1)) S (S.length : Int) (c : Int) i n P (upsV (S.zip P) (leafH s) P.length) = some ⟨[.slice (txtL s S P n.toNat (P.length + 2))], [], true⟩ := by
    intro j
    induction j with
    | zero =>
      intro k c hc hj
      obtain ⟨k, rfl⟩ : ∃ j, k = j + 1 := ⟨k - 1, by omega⟩
      obtain rfl : c = P.length := by omega
      have e : nth (upsV (S.zip P) (leafH s) P.length) P.length = .blob (climb (S.zip P) (leafH s)) := by
        rw [upsV_nth _ _ (Nat.le_refl _), List.take_of_length_le (by rw [List.length_zip]; omega)]
      rw [f59_l0_eq, ltI_f (by omega), cond_false, upsV_len, w64 (x := ((P.length + 1 : Nat) : Int) - 1) (by omega) (by omega), show ((P.length + 1 : Nat) : Int) - 1 = (P.length : Int) by omega, inR_nat (by omega), cond_true, Int.toNat_natCast, e, toBlob_b, en, e5, step1, txtL_len, show Nat.ble ((P.length + 1 + 1) * 16) 140737488355328 = true from Nat.ble_eq_true_of_le (by omega), cond_true, toStr_s, txtL_succ _ _ _ _ (P.length + 1), show P.length + 1 = S.length + 1 by omega, txt_top]
      rfl
    | succ j ih =>
      intro k c hc hj
      obtain ⟨k, rfl⟩ : ∃ j, k = j + 1 := ⟨k - 1, by omega⟩
      have ih' := ih k (c + 1) (by omega) (by omega)
      have et : txtV s S P n.toNat (c + 1) = nodeTx (nth S c, nth P c) (climb ((S.zip P).take c) (leafH s)) := by
        unfold txtV
        rw [if_neg (by omega), if_pos (by omega)]; rfl
      rw [show ((c + 1 : Nat) : Int) = (c : Int) + 1 by omega, txtL_succ _ _ _ _ (c + 1), et] at ih'
      rw [f59_l0_eq, ltI_t (a := (c : Int)) (by omega), cond_true, inR_nat (n := S.length) (by omega), cond_true, Int.toNat_natCast, e2 c (by omega), step1oo, txtL_len, show Nat.ble ((c + 1 + 1) * 16) 140737488355328 = true from Nat.ble_eq_true_of_le (by omega), cond_true, w64 (x := (c : Int) + 1) (by omega) (by omega)]
      exact ih'
  rw [f59_run, f59_eq, e1, step1f, e4, step1, hS, step1f, toSlice_s, toSlice_s, toStr_s]
  exact key P.length (m' + 3) 0 (by omega) (by omega)

theorem isV_of {a b : List UInt8} (h : a ≠ b) (k : hashV a = hashV b) : isV a b = true := by
  unfold isV
  rw [eqS_f h, not_f, cond_true, eqS_t k]

theorem leafT_inj {a b : List UInt8} (h : leafT a = leafT b) : a = b := by
  unfold leafT at h
  exact List.append_cancel_left h
theorem node_inj {S : AV} {p q : AV} {a b : List UInt8} (hp : p.toBlob.length = 32) (hq : q.toBlob.length = 32) (ha : a.length = 32) (hb : b.length = 32) (h : nodeTx (S, p) a = nodeTx (S, q) b) : a = b := by
  unfold nodeTx nodeT at h
  split at h
  · exact (List.append_inj h (by simp [hp, hq])).2
  · have := (List.append_inj h (by simp [ha, hb])).1
    exact List.append_cancel_left this

/-- The search, from the root's texts down. -/
theorem find_l0 {s s' : List UInt8} {S P P' : List AV} {N : Nat} (hss : s ≠ s') (hP : P.length = S.length) (hP' : P'.length = S.length) (hb : Blob32 P) (hb' : Blob32 P') (hS : S.length ≤ 1048576) :
    ∀ (j : Nat), j ≤ S.length → climb ((S.zip P).take j) (leafH s) = climb ((S.zip P').take j) (leafH s') →
      ∃ t u : List UInt8, (∀ (run : Run) (m k : Nat), j + 1 < k → f16_l0 run m k (txtL s S P N (P.length + 2)) (txtL s' S P' N (P'.length + 2)) ((S.length + 2 - j : Nat) : Int) = some ⟨[.str t, .str u, .bool true], [], false⟩) ∧ isV t u = true ∧ t.length ≤ s.length + 100 ∧ u.length ≤ s'.length + 100 := by
  intro j
  induction j with
  | zero =>
    intro hj he
    have hne : txtV s S P N 0 ≠ txtV s' S P' N 0 := fun h => hss (leafT_inj h)
    refine ⟨_, _, fun run m k hk => ?_, isV_of hne (by rw [txt_hash hP (Nat.zero_le _), txt_hash hP' (Nat.zero_le _)]; exact he), txt_len hP hb 0, txt_len hP' hb' 0⟩
    obtain ⟨k, rfl⟩ : ∃ j, k = j + 1 := ⟨k - 1, by omega⟩
    rw [f16_l0_eq, txtL_len, txtL_len, leI_t (by omega), cond_true, leI_t (by omega), cond_true, hP, hP', w64 (x := ((S.length + 2 : Nat) : Int) - ((S.length + 2 - 0 : Nat) : Int)) (by omega) (by omega), show ((S.length + 2 : Nat) : Int) - ((S.length + 2 - 0 : Nat) : Int) = ((0 : Nat) : Int) by omega, inR_nat (by omega), cond_true, cond_true, Int.toNat_natCast, txtL_nth _ _ _ _ (by omega), txtL_nth _ _ _ _ (by omega), eqS_f hne]
    rfl
  | succ j ih =>
    intro hj he
    have head : ∀ (run : Run) (m k : Nat) X, (bif !(eqS (txtV s S P N (j + 1)) (txtV s' S P' N (j + 1))) then some ⟨[.str (txtV s S P N (j + 1)), .str (txtV s' S P' N (j + 1)), .bool true], [], f16_fresh⟩ else f16_l0 run m k (txtL s S P N (P.length + 2)) (txtL s' S P' N (P'.length + 2)) ((S.length + 2 - j : Nat) : Int)) = X → f16_l0 run m (k + 1) (txtL s S P N (P.length + 2)) (txtL s' S P' N (P'.length + 2)) ((S.length + 2 - (j + 1) : Nat) : Int) = X := by
      intro run m k X hX
      rw [f16_l0_eq, txtL_len, txtL_len, leI_t (by omega), cond_true, leI_t (by omega), cond_true, hP, hP', w64 (x := ((S.length + 2 : Nat) : Int) - ((S.length + 2 - (j + 1) : Nat) : Int)) (by omega) (by omega), show ((S.length + 2 : Nat) : Int) - ((S.length + 2 - (j + 1) : Nat) : Int) = ((j + 1 : Nat) : Int) by omega, inR_nat (by omega), cond_true, cond_true, Int.toNat_natCast, txtL_nth _ _ _ _ (by omega), txtL_nth _ _ _ _ (by omega), w64 (x := ((S.length + 2 - (j + 1) : Nat) : Int) + 1) (by omega) (by omega), show ((S.length + 2 - (j + 1) : Nat) : Int) + 1 = ((S.length + 2 - j : Nat) : Int) by omega]
      rw [hP, hP'] at hX
      exact hX
    by_cases hne : txtV s S P N (j + 1) = txtV s' S P' N (j + 1)
    · have h2 : climb ((S.zip P).take j) (leafH s) = climb ((S.zip P').take j) (leafH s') := by
        unfold txtV at hne
        rw [if_neg (show ¬ j + 1 = 0 by omega), if_pos hj, if_neg (show ¬ j + 1 = 0 by omega), if_pos hj] at hne
        exact node_inj (blobAt hb (by omega)) (blobAt hb' (by omega)) (climb_len _ (hashV_len _)) (climb_len _ (hashV_len _)) hne
      obtain ⟨t, u, h3, h4⟩ := ih (by omega) h2
      refine ⟨t, u, fun run m k hk => ?_, h4⟩
      obtain ⟨k, rfl⟩ : ∃ j, k = j + 1 := ⟨k - 1, by omega⟩
      refine head run m k _ ?_
      rw [eqS_t hne, not_t, cond_false]
      exact h3 run m k (by omega)
    · refine ⟨_, _, fun run m k hk => ?_, isV_of hne (by rw [txt_hash hP hj, txt_hash hP' hj]; exact he), txt_len hP hb _, txt_len hP' hb' _⟩
      obtain ⟨k, rfl⟩ : ∃ j, k = j + 1 := ⟨k - 1, by omega⟩
      refine head run m k _ ?_
      rw [eqS_f hne]; rfl

theorem find_top (run : Run) (m k : Nat) {s s' : List UInt8} {S S' P P' : List AV} {N N' : Nat} (hP : P.length = S.length) (hP' : P'.length = S'.length) (hS : S.length ≤ 1048576) (hS' : S'.length ≤ 1048576) :
    f16_l0 run m (k + 1) (txtL s S P N (P.length + 2)) (txtL s' S' P' N' (P'.length + 2)) 1 =
      bif !(eqS (rootT N (climb (S.zip P) (leafH s))) (rootT N' (climb (S'.zip P') (leafH s')))) then some ⟨[.str (rootT N (climb (S.zip P) (leafH s))), .str (rootT N' (climb (S'.zip P') (leafH s'))), .bool true], [], f16_fresh⟩ else f16_l0 run m k (txtL s S P N (P.length + 2)) (txtL s' S' P' N' (P'.length + 2)) 2 := by
  rw [f16_l0_eq, txtL_len, txtL_len, leI_t (by omega), cond_true, leI_t (by omega), cond_true, hP, hP', w64 (x := ((S.length + 2 : Nat) : Int) - 1) (by omega) (by omega), show ((S.length + 2 : Nat) : Int) - 1 = ((S.length + 1 : Nat) : Int) by omega, w64 (x := ((S'.length + 2 : Nat) : Int) - 1) (by omega) (by omega), show ((S'.length + 2 : Nat) : Int) - 1 = ((S'.length + 1 : Nat) : Int) by omega, inR_nat (by omega), cond_true, inR_nat (by omega), cond_true, Int.toNat_natCast, Int.toNat_natCast, txtL_nth _ _ _ _ (by omega), txtL_nth _ _ _ _ (by omega), txt_top, txt_top, w64 (x := (1 : Int) + 1) (by omega) (by omega)]
  rfl

theorem checkH_in {root s : List UInt8} {i n : Int} {P : List AV} (h : checkH root s i n P = true) : mayH i n P = 0 ∧ rootH n.toNat (climb (waysH i n P) (leafH s)) = root := by
  unfold checkH at h
  by_cases hm : mayH i n P = 0
  · rw [eqI_t hm, cond_true, eqS_iff] at h
    unfold toldH at h
    rw [if_pos hm] at h
    exact ⟨hm, h⟩
  · rw [eqI_f hm] at h; cases h

theorem find_both {root s s' : List UInt8} {i n n' : Int} {P P' : List AV} (hs : s.length ≤ 140737488355328) (hs' : s'.length ≤ 140737488355328) (hb : Blob32 P) (hb' : Blob32 P') (hss : s ≠ s')
    (h : checkH root s i n P = true) (h' : checkH root s' i n' P' = true) :
    ∃ t u : List UInt8, RunsX 16 [.blob root, .agg [.str s, .agg [.int i, .int n, .slice P]], .agg [.str s', .agg [.int i, .int n', .slice P']]] ⟨[.str t, .str u, .bool true], [], false⟩ ∧ isV t u = true ∧ t.length ≤ s.length + 100 ∧ u.length ≤ s'.length + 100 := by
  obtain ⟨m1, hr1⟩ := checkH_in h
  obtain ⟨m2, hr2⟩ := checkH_in h'
  obtain ⟨g1, g2, g3, g4, g5⟩ := mayH_in m1
  obtain ⟨k1, k2, k3, k4, k5⟩ := mayH_in m2
  have r1 := holdCheck_runs (root := root) (s := s) (i := i) (n := n) (P := P) hs hb
  have r2 := holdCheck_runs (root := root) (s := s') (i := i) (n := n') (P := P') hs' hb'
  rw [h] at r1
  rw [h'] at r2
  have r3 := texts_clash (s := s) hs hb m1
  have r4 := texts_clash (s := s') hs' hb' m2
  have hk := sidesV_len n.toNat n i
  have hk' := sidesV_len n'.toNat n' i
  have go : ∀ t u : List UInt8, (∀ m, 2000000 ≤ m → f16_l0 (runE G ext m) m m (txtL s (sidesV n.toNat n i) P n.toNat (P.length + 2)) (txtL s' (sidesV n'.toNat n' i) P' n'.toNat (P'.length + 2)) 1 = some ⟨[.str t, .str u, .bool true], [], false⟩) →
      RunsX 16 [.blob root, .agg [.str s, .agg [.int i, .int n, .slice P]], .agg [.str s', .agg [.int i, .int n', .slice P']]] ⟨[.str t, .str u, .bool true], [], false⟩ := by
    intro t u ht
    refine Evt.succ ((((r1.and r2).and (r3.and r4)).and (Evt.ge 2000000)).mono fun m hn => ?_)
    obtain ⟨⟨⟨e1, e2⟩, e3, e4⟩, e5⟩ := hn
    rw [f16_run, f16_eq, e1, step1, toBool_b, not_t, cond_false, e2, step1, toBool_b, not_t, cond_false, eqI_t rfl, not_t, cond_false, eqS_f hss, cond_false, e3, step1f, e4, step1f, toSlice_s, toSlice_s]
    exact ht m e5
  by_cases hne : rootT n.toNat (climb (waysH i n P) (leafH s)) = rootT n'.toNat (climb (waysH i n' P') (leafH s'))
  · have hc1 := climb_len (waysH i n P) (a := leafH s) (hashV_len _)
    have hc2 := climb_len (waysH i n' P') (a := leafH s') (hashV_len _)
    unfold rootT at hne
    have q1 := List.append_inj hne (by simp [bs_len])
    have q2 := List.append_cancel_left q1.1
    have q3 := bs8_inj' (by omega) (by omega) q2
    have q4 : n = n' := by omega
    subst q4
    have q5 := q1.2
    unfold waysH at q5
    generalize hSe : sidesV n.toNat n i = S at g5 k5 hk hk' q5 go
    have z1 : (S.zip P).take S.length = S.zip P := List.take_of_length_le (by rw [List.length_zip]; omega)
    have z2 : (S.zip P').take S.length = S.zip P' := List.take_of_length_le (by rw [List.length_zip]; omega)
    obtain ⟨t, u, h3, h4⟩ := find_l0 (s := s) (s' := s') (S := S) (P := P) (P' := P') (N := n.toNat) hss g5 k5 hb hb' (by omega) S.length (Nat.le_refl _) (by rw [z1, z2]; exact q5)
    refine ⟨t, u, go t u (fun m hm => ?_), h4⟩
    obtain ⟨m, rfl⟩ : ∃ j, m = j + 1 := ⟨m - 1, by omega⟩
    rw [find_top _ _ _ g5 k5 (by omega) (by omega), q5, eqS_t rfl, not_t, cond_false]
    have := h3 (runE G ext (m + 1)) (m + 1) m (by omega)
    rw [show ((S.length + 2 - S.length : Nat) : Int) = 2 by omega] at this
    exact this
  · have hh : hashV (rootT n.toNat (climb (waysH i n P) (leafH s))) = hashV (rootT n'.toNat (climb (waysH i n' P') (leafH s'))) := hr1.trans hr2.symm
    refine ⟨_, _, go _ _ (fun m hm => ?_), isV_of hne hh, by rw [rootT_len _ (climb_len _ (leafH_len _))]; omega, by rw [rootT_len _ (climb_len _ (leafH_len _))]; omega⟩
    obtain ⟨m, rfl⟩ : ∃ j, m = j + 1 := ⟨m - 1, by omega⟩
    unfold waysH at hne ⊢
    rw [find_top _ _ _ g5 k5 (by omega) (by omega), eqS_f hne]; rfl

end Go.Proofs.Ytbpllpdmkhojoaa.Ev
