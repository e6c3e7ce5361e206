/- Mining: both programs make the same blocks. -/
import Derived.Test.YtncajhkogppojaaEvPSeek
import Derived.Test.YtncajhkogppojaaEvPChainL
namespace Go.Proofs.Ytncajhkogppojaa.Ev
open Go Go.RowKit

abbrev Z32 : List UInt8 := List.replicate 32 0
abbrev zeroBlk : AV := Blk 0 Z32 Z32 0 []
def minedV (t : List UInt8) (h : Int) (v l : List AV) (nc tries : Int) : List AV :=
  bif !(eqI (mayV l) 0) then [zeroBlk, .int (mayV l)]
  else match seekV t h (linkR v) (txR l) nc tries.toNat 0 with
    | none => [zeroBlk, .int 9]
    | some k => [Blk h (linkR v) (txR l) (nonceAt nc k) l, .int 0]
def growV (t : List UInt8) (c l : List AV) (nc tries : Int) : List AV :=
  if c.length = 0 then [zeroBlk, .int 6] else if 1024 ≤ c.length then [zeroBlk, .int 4] else minedV t (c.length : Int) (vecV t c c.length) l nc tries
theorem minedV_form (t : List UInt8) (h : Int) (v l : List AV) (nc tries : Int) : ∃ h' b c n' l' e, minedV t h v l nc tries = [Blk h' b c n' l', .int e] ∧ (l' = l ∨ l' = []) := by
  unfold minedV
  cases (!(eqI (mayV l) 0))
  · rw [cond_false]
    cases seekV t h (linkR v) (txR l) nc tries.toNat 0
    · exact ⟨_, _, _, _, _, _, rfl, .inr rfl⟩
    · exact ⟨_, _, _, _, _, _, rfl, .inl rfl⟩
  · exact ⟨_, _, _, _, _, _, rfl, .inr rfl⟩
theorem growV_form (t : List UInt8) (c l : List AV) (nc tries : Int) : ∃ h' b d n' l' e, growV t c l nc tries = [Blk h' b d n' l', .int e] ∧ (l' = l ∨ l' = []) := by
  unfold growV
  by_cases h1 : c.length = 0
  · rw [if_pos h1]; exact ⟨_, _, _, _, _, _, rfl, .inr rfl⟩
  · rw [if_neg h1]
    by_cases h2 : 1024 ≤ c.length
    · rw [if_pos h2]; exact ⟨_, _, _, _, _, _, rfl, .inr rfl⟩
    · rw [if_neg h2]; exact minedV_form _ _ _ _ _ _
theorem minedHead {h nc : Int} {v l : List AV} (h0 : 0 ≤ h) (h1 : h ≤ 100000) (n0 : 0 ≤ nc) (n1 : nc < 18446744073709551616) : HeadOk h (linkR v) (txR l) nc :=
  ⟨h0, by omega, rootV_len _, rootV_len _, n0, n1⟩

section
variable {t : List UInt8} {nc tries : Int}
theorem mined_runs {h : Int} {v l : List AV} (ht : t.length = 32) (h0 : 0 ≤ h) (h1 : h ≤ 100000) (n0 : 0 ≤ nc) (n1 : nc < 18446744073709551616) (hT : tries ≤ 100000) (hv : v.length ≤ 100000) (hb : Blob32 v) (hl : l.length ≤ 100000) (hs : Shorter l) :
    RunsX 63 [.blob t, .int h, .slice v, .slice l, .int nc, .int tries] ⟨minedV t h v l nc tries, [], false⟩ := by
  refine Evt.succ ((((txMay_runs hl).and (make_runs (h := h) (n := nc) hv hb hl hs)).and (seek_runs (t := t) (tries := tries) (minedHead (v := v) (l := l) h0 h1 n0 n1) ht hT)).mono fun n hn => ?_)
  obtain ⟨⟨g1, g2⟩, g3⟩ := hn
  have f0 : (((AV.fld (Blk h (linkR v) (txR l) nc l) 0).fld 0).toInt) = h := rfl
  have f1 : (((AV.fld (Blk h (linkR v) (txR l) nc l) 0).fld 1).toBlob) = linkR v := rfl
  have f2 : (((AV.fld (Blk h (linkR v) (txR l) nc l) 0).fld 2).toBlob) = txR l := rfl
  have f3 : (((AV.fld (Blk h (linkR v) (txR l) nc l) 0).fld 3).toInt) = nc := rfl
  unfold minedV
  rw [f63_run, f63_eq, g1, step1, toInt_i]
  cases hm : eqI (mayV l) 0
  · rfl
  · rw [not_t, cond_false, cond_false, show IntKind.wrap .u32 h = h by rw [wrap32]; omega, g2, step1, f0, f1, f2, f3, g3]
    cases seekV t h (linkR v) (txR l) nc tries.toNat 0 <;> rfl
theorem start_runs {l : List AV} (ht : t.length = 32) (n0 : 0 ≤ nc) (n1 : nc < 18446744073709551616) (hT : tries ≤ 100000) (hl : l.length ≤ 100000) (hs : Shorter l) :
    RunsX 62 [.blob t, .slice l, .int nc, .int tries] ⟨minedV t 0 [] l nc tries, [], false⟩ := by
  refine Evt.succ ((mined_runs (h := 0) (v := []) (l := l) ht (by omega) (by omega) n0 n1 hT (by simp) nil_blob hl hs).mono fun n hn => ?_)
  obtain ⟨h', b, c, n', l', e, he, _⟩ := minedV_form t 0 [] l nc tries
  rw [f62_run, f62_eq, hn, he, step2, blkE]
  rfl
theorem grow_runs {c l : List AV} (ht : t.length = 32) (n0 : 0 ≤ nc) (n1 : nc < 18446744073709551616) (hT : tries ≤ 100000) (hc : Heads c) (hl : l.length ≤ 100000) (hs : Shorter l) :
    RunsX 22 [.blob t, .slice c, .slice l, .int nc, .int tries] ⟨growV t c l nc tries, [], false⟩ := by
  unfold growV
  by_cases h1 : c.length = 0
  · refine Evt.succ (.of fun n => ?_)
    rw [if_pos h1, f22_run, f22_eq, eqI_t (by omega)]; rfl
  rw [if_neg h1]
  by_cases h2 : 1024 ≤ c.length
  · refine Evt.succ (.of fun n => ?_)
    rw [if_pos h2, f22_run, f22_eq, eqI_f (by omega), cond_false, leI_t (by omega)]; rfl
  rw [if_neg h2]
  refine Evt.succ (((vectors_runs (t := t) (l := c) ht (by omega) hc).and (mined_runs (h := (c.length : Int)) (v := vecV t c c.length) (l := l) ht (by omega) (by omega) n0 n1 hT (Nat.le_trans (vecV_len t c c.length) (by omega)) (vecV_blob t c c.length) hl hs)).mono fun n hn => ?_)
  obtain ⟨g1, g2⟩ := hn
  obtain ⟨h', b, d, n', l', e, he, _⟩ := minedV_form t (c.length : Int) (vecV t c c.length) l nc tries
  rw [f22_run, f22_eq, eqI_f (by omega), cond_false, leI_f (by omega), cond_false, g1, step1f, toSlice_s, inR_nat (by rw [vecsV_len]; omega), cond_true, Int.toNat_natCast, vecsV_nth t c (by omega), toSlice_s, g2, he, step2, blkE]
  rfl

end

/- the example -/
def fillM (i : Nat) : List UInt8 := List.replicate i 255 ++ List.replicate (32 - i) 0
theorem fillM_set {i : Nat} (h : i < 32) : (fillM i).set i (UInt8.ofNat (Int.toNat 255)) = fillM (i + 1) := by
  unfold fillM
  rw [List.set_append_right _ _ (by simp), List.length_replicate, Nat.sub_self, show 32 - i = (32 - (i + 1)) + 1 by omega, List.replicate_succ, List.set_cons_zero, List.replicate_succ' (n := i), List.append_assoc]
  rfl
theorem mfull_loop (run : Run) (n : Nat) : ∀ (j k i : Nat), i + j = 32 → f21_l0 run n (k + j) (i : Int) (fillM i) = f21_l0 run n k 32 (List.replicate 32 255)
  | 0, k, i, h => by
    obtain rfl : i = 32 := by omega
    rfl
  | j + 1, k, i, h => by
    have ih := mfull_loop run n j k (i + 1) (by omega)
    rw [show k + (j + 1) = (k + j) + 1 by omega, f21_l0_eq, ltI_t (by omega), cond_true, inR_nat (n := 32) (by omega), cond_true, w64 (by omega) (by omega), Int.toNat_natCast, fillM_set (by omega)]
    exact ih
theorem okM_full {id : List UInt8} (h : id.length = 32) : okV id (List.replicate 32 255) = true := by
  unfold okV
  have h1 := natN_lt id
  rw [h] at h1
  have h2 : natN (List.replicate 32 255) = 256 ^ 32 - 1 := by decide +kernel
  rw [h2]
  exact decide_eq_true (by omega)
theorem mined_full {h : Int} {v l : List AV} {nc : Int} (hl : mayV l = 0) (n0 : 0 ≤ nc) (n1 : nc < 18446744073709551616) : minedV (List.replicate 32 255) h v l nc 1 = [Blk h (linkR v) (txR l) nc l, .int 0] := by
  unfold minedV
  rw [eqI_t hl, not_t, cond_false, show Int.toNat 1 = 0 + 1 from rfl]
  simp only [seekV]
  rw [okM_full (idV_len _ _ _ _), cond_true]
  show [Blk h (linkR v) (txR l) (nonceAt nc 0) l, .int 0] = _
  rw [nonceAt_0 n0 n1]
theorem a_short : Shorter [.str [97]] := by
  intro i hi
  obtain rfl : i = 0 := by simp at hi; omega
  decide
theorem mineAwake : RunsX 21 [] ⟨[.bool true], [], false⟩ := by
  have hh : Heads [Blk 0 (linkR []) (txR [.str [97]]) 7 [.str [97]]] := by
    intro i hi
    obtain rfl : i = 0 := by simp at hi; omega
    exact (⟨by decide, by decide, rootV_len _, rootV_len _, by decide, by decide⟩ : HeadOk 0 (linkR []) (txR [.str [97]]) 7)
  have r1 := start_runs (t := List.replicate 32 255) (nc := 7) (tries := 1) (l := [.str [97]]) (by rw [List.length_replicate]) (by omega) (by omega) (by omega) (by simp) a_short
  have r2 := grow_runs (t := List.replicate 32 255) (nc := 9) (tries := 1) (c := [Blk 0 (linkR []) (txR [.str [97]]) 7 [.str [97]]]) (l := []) (by rw [List.length_replicate]) (by omega) (by omega) (by omega) hh (by simp) nil_short
  rw [mined_full (by decide) (by omega) (by omega)] at r1
  unfold growV at r2
  rw [if_neg (by simp), if_neg (by simp), mined_full (by decide) (by omega) (by omega)] at r2
  generalize linkR (vecV (List.replicate 32 255) [Blk 0 (linkR []) (txR [.str [97]]) 7 [.str [97]]] ([Blk 0 (linkR []) (txR [.str [97]]) 7 [.str [97]]] : List AV).length) = q2 at r2
  refine Evt.succ (((r1.and r2).and (Evt.ge 40)).mono fun n hn => ?_)
  obtain ⟨⟨g1, g2⟩, g4⟩ := hn
  obtain ⟨m, hm⟩ : ∃ m, n = m + 33 := ⟨n - 33, by omega⟩
  rw [f21_run, f21_eq]
  have hL : f21_l0 (runE G ext n) n n 0 (List.replicate 32 0) = f21_l0 (runE G ext n) n (m + 1) 32 (List.replicate 32 255) := by
    have := mfull_loop (runE G ext n) n 32 (m + 1) 0 (by omega)
    rw [show m + 1 + 32 = n by omega] at this
    exact this
  rw [hL, f21_l0_eq, ltI_f (by omega), cond_false, g1, step2, blkE, g2, step2]
  rfl

section
variable {gh : Int} {gl gt : List UInt8} {gn : Int} {t : List UInt8} {c1 c2 c3 c4 c5 c6 : Int}
theorem chainV_zero {l : List AV} (h : ((chainV gh gl gt gn t l).fld 0).toInt = 0) : 1 ≤ l.length ∧ l.length ≤ 1024 ∧ ∀ k, k < l.length → blkErr gh gl gt gn t l k = 0 := by
  by_cases h0 : l.length = 0
  · unfold chainV at h
    rw [if_pos h0] at h
    exact absurd (show (6 : Int) = 0 from h) (by decide)
  by_cases h1 : 1024 < l.length
  · unfold chainV at h
    rw [if_neg h0, if_pos h1] at h
    exact absurd (show (4 : Int) = 0 from h) (by decide)
  rcases chainV_spec (gh := gh) (gl := gl) (gt := gt) (gn := gn) (t := t) (l := l) (by omega) (by omega) with ⟨h2, h3⟩ | ⟨k, h2, h3, h4, h5⟩
  · exact ⟨by omega, by omega, h3⟩
  · rw [h4] at h
    exact absurd (show blkErr gh gl gt gn t l k = 0 from h) h3
theorem nth_one {l : List AV} {b : AV} : nth (l ++ [b]) l.length = b := by
  rw [nth_lt (by simp), List.getElem_append_right (Nat.le_refl _)]; simp
theorem nth_app1 {l : List AV} {b : AV} {i : Nat} (h : i < l.length) : nth (l ++ [b]) i = nth l i := by
  rw [nth_lt (by rw [List.length_append]; omega), nth_lt h, List.getElem_append_left h]
theorem mayV_4 (l : List AV) : mayV l = 0 ∨ mayV l = 4 := by
  unfold mayV
  cases ltI 1024 (l.length : Int)
  · cases bigB l l.length 0
    · exact .inl rfl
    · exact .inr rfl
  · exact .inr rfl
theorem chainV_grow {l txs : List AV} {nc : Int} (h1 : 1 ≤ l.length) (h2 : l.length ≤ 24) (h : ∀ k, k < l.length → blkErr gh gl gt gn t l k = 0) (hm : mayV txs = 0)
    (hok : okV (idV (l.length : Int) (linkR (vecV t l l.length)) (txR txs) nc) t = true) :
    chainV gh gl gt gn t (l ++ [Blk (l.length : Int) (linkR (vecV t l l.length)) (txR txs) nc txs]) = .agg [.int 0, .int 0] := by
  obtain ⟨b, hb⟩ : ∃ b, b = Blk (l.length : Int) (linkR (vecV t l l.length)) (txR txs) nc txs := ⟨_, rfl⟩
  rw [← hb]
  have hl : (l ++ [b]).length = l.length + 1 := by simp
  have htk : (l ++ [b]).take l.length = l := by rw [List.take_append_of_le_length (Nat.le_refl _), List.take_length]
  have hv : vecV t (l ++ [b]) l.length = vecV t l l.length := by
    have := vecV_take (t := t) (l := l ++ [b]) (m := l.length) l.length (Nat.le_refl _)
    rw [htk] at this
    exact this.symm
  have hall : ∀ k, k < l.length + 1 → blkErr gh gl gt gn t (l ++ [b]) k = 0 := by
    intro k hk
    by_cases hlt : k < l.length
    · have := blkErr_take (gh := gh) (gl := gl) (gt := gt) (gn := gn) (t := t) (l := l ++ [b]) (m := l.length) (i := k) hlt
      rw [htk] at this
      rw [← this]; exact h k hlt
    · obtain rfl : k = l.length := by omega
      have ha : ancV gh gl gt gn ((nth (l ++ [b]) l.length).fld 0) l.length = 0 := by
        unfold ancV; rw [eqI_f (by omega)]; rfl
      have hf : formV (nth (l ++ [b]) l.length) l.length (vecV t (l ++ [b]) l.length) = 0 := by
        rw [hv, nth_one, hb]
        show checkV (l.length : Int) (linkR (vecV t l l.length)) (txR txs) txs (l.length : Int) (vecV t l l.length) = 0
        unfold checkV
        rw [eqI_t rfl, eqI_t hm, eqS_t rfl, eqS_t rfl]; rfl
      rw [blkErr_o (eqI_t ha) (eqI_t hf), nth_one, hb]
      show (bif !(okV (idV (l.length : Int) (linkR (vecV t l l.length)) (txR txs) nc) t) then (9 : Int) else 0) = 0
      rw [hok]; rfl
  have := chainV_prefix (gh := gh) (gl := gl) (gt := gt) (gn := gn) (t := t) (l := l ++ [b]) (m := l.length + 1) (by omega) (by omega) (by omega) hall
  rw [List.take_of_length_le (by omega)] at this
  exact this
theorem mineGrows_runs {tt : List UInt8} {l txs : List AV} {nc tries : Int} (ht : t.length = 32) (n0 : 0 ≤ nc) (n1 : nc < 18446744073709551616) (hc0 : Blocks0 l) (hc : l.length ≤ maxLen) (hl : txs.length ≤ maxLen) (hs : Shorter txs) :
    RunsX 4 [Cfg gh gl gt gn t c1 c2 c3 c4 c5 c6, .slice l, .agg [.blob tt, .slice txs, .int nc, .int tries]] ⟨[.bool true], [], false⟩ := by
  by_cases hT : 40 < tries
  · refine Evt.succ (mineAwake.mono fun n hn => ?_)
    rw [f4_run, f4_eq, ltI_t hT, cond_true, hn]; rfl
  obtain ⟨b, hb, hm⟩ := mu24_runs hc0 hc
  cases b with
  | true =>
    refine Evt.succ ((hm.and mineAwake).mono fun n hn => ?_)
    rw [f4_run, f4_eq, ltI_f hT, cond_false, hn.1, step1, toBool_b, cond_true, hn.2]; rfl
  | false =>
  obtain ⟨b2, hb2, hm2⟩ := mu22_runs hl
  cases b2 with
  | true =>
    refine Evt.succ (((hm.and hm2).and mineAwake).mono fun n hn => ?_)
    rw [f4_run, f4_eq, ltI_f hT, cond_false, hn.1.1, step1, toBool_b, cond_false, hn.1.2, step1, toBool_b, cond_true, hn.2]; rfl
  | false =>
  have hll := (hb2 rfl).1
  obtain ⟨h24, hB⟩ := hb rfl
  have r1 := chainCheck_runs (gh := gh) (gl := gl) (gt := gt) (gn := gn) (t := t) (c1 := c1) (c2 := c2) (c3 := c3) (c4 := c4) (c5 := c5) (c6 := c6) (l := l) ht hB
  by_cases hz : ((chainV gh gl gt gn t l).fld 0).toInt = 0
  · obtain ⟨z1, z2, z3⟩ := chainV_zero hz
    have r3 := grow_runs (t := t) (nc := nc) (tries := tries) (c := l) (l := txs) ht n0 n1 (by omega) hB.heads (by omega) hs
    unfold growV minedV at r3
    rw [if_neg (by omega), if_neg (by omega)] at r3
    by_cases hmay : mayV txs = 0
    · rw [eqI_t hmay, not_t, cond_false] at r3
      cases hsk : seekV t (l.length : Int) (linkR (vecV t l l.length)) (txR txs) nc tries.toNat 0 with
      | none =>
        rw [hsk] at r3
        simp only at r3
        refine Evt.succ ((((hm.and hm2).and mineAwake).and (r1.and r3)).mono fun n hn => ?_)
        obtain ⟨⟨⟨g1, g2⟩, g3⟩, g4, g5⟩ := hn
        rw [f4_run, f4_eq, ltI_f hT, cond_false, g1, step1, toBool_b, cond_false, g2, step1, toBool_b, cond_false, g4, step1, eqI_t hz, not_t, cond_false, g5, step2, toInt_i, eqI_f (a := 9) (b := 0) (by decide), not_f, cond_true, eqI_t (a := 9) rfl, cond_true, g3]
        rfl
      | some k =>
        have hok := seekV_some hsk
        rw [hsk] at r3
        simp only at r3
        have hB2 : Blocks (l ++ [Blk (l.length : Int) (linkR (vecV t l l.length)) (txR txs) (nonceAt nc k) txs]) := by
          intro i hi
          by_cases h : i < l.length
          · rw [nth_app1 h]; exact hB i h
          · obtain rfl : i = l.length := by rw [List.length_append] at hi; simp at hi; omega
            rw [nth_one]
            exact ⟨nonceAt_ok (minedHead (h := (l.length : Int)) (v := vecV t l l.length) (l := txs) (by omega) (by omega) n0 n1) k, hs, by show txs.length ≤ 100000; omega⟩
        have r4 := chainCheck_runs (gh := gh) (gl := gl) (gt := gt) (gn := gn) (t := t) (c1 := c1) (c2 := c2) (c3 := c3) (c4 := c4) (c5 := c5) (c6 := c6) ht hB2
        rw [chainV_grow z1 h24 z3 hmay hok] at r4
        refine Evt.succ (((((hm.and hm2).and mineAwake).and (r1.and r3)).and r4).mono fun n hn => ?_)
        obtain ⟨⟨⟨⟨g1, g2⟩, g3⟩, g4, g5⟩, g6⟩ := hn
        rw [f4_run, f4_eq, ltI_f hT, cond_false, g1, step1, toBool_b, cond_false, g2, step1, toBool_b, cond_false, g4, step1, eqI_t hz, not_t, cond_false, g5, step2, toInt_i, eqI_t (a := 0) rfl, not_t, cond_false, show Nat.ble ((0 + l.length) * 104) 140737488355328 = true from Nat.ble_eq_true_of_le (by omega), cond_true, List.nil_append, show Nat.ble ((l.length + 1) * 104) 140737488355328 = true from Nat.ble_eq_true_of_le (by omega), cond_true, blkE, g6, step1, fld0, fld1, toInt_i, eqI_t (a := 0) rfl, Bool.and_true, Bool.and_true, cond_true, g3]
        rfl
    · have h4 : mayV txs = 4 := by rcases mayV_4 txs with h | h; exact absurd h hmay; exact h
      rw [h4, eqI_f (a := 4) (b := 0) (by decide), not_f, cond_true] at r3
      refine Evt.succ ((((hm.and hm2).and mineAwake).and (r1.and r3)).mono fun n hn => ?_)
      obtain ⟨⟨⟨g1, g2⟩, g3⟩, g4, g5⟩ := hn
      rw [f4_run, f4_eq, ltI_f hT, cond_false, g1, step1, toBool_b, cond_false, g2, step1, toBool_b, cond_false, g4, step1, eqI_t hz, not_t, cond_false, g5, step2, toInt_i, eqI_f (a := 4) (b := 0) (by decide), not_f, cond_true, eqI_f (a := 4) (b := 9) (by decide), cond_false, eqI_t (a := 4) rfl, cond_true, g3]
      rfl
  · refine Evt.succ ((((hm.and hm2).and mineAwake).and r1).mono fun n hn => ?_)
    obtain ⟨⟨⟨g1, g2⟩, g3⟩, g4⟩ := hn
    rw [f4_run, f4_eq, ltI_f hT, cond_false, g1, step1, toBool_b, cond_false, g2, step1, toBool_b, cond_false, g4, step1, eqI_f hz, not_f, cond_true, g3]
    rfl
end
theorem mineGrows_sat (xs : List AV) (h : Ty.HasL [.struct [.struct [.int .u32, .blob 32, .blob 32, .int .u64], .blob 32, .int .i64, .int .i64, .int .i64, .int .i64, .int .i64, .int .i64], .slice (.struct [.struct [.int .u32, .blob 32, .blob 32, .int .u64], .slice .str]), .struct [.blob 32, .slice .str, .int .u64, .int .i64]] xs) : ∃ r, r.vals = [.bool true] ∧ Sat Try.prog f4_info 4 xs r := by
  obtain ⟨x, r, rfl, hx, y, r2, rfl, ⟨l, rfl, hl, _, hy⟩, z, r3, rfl, ⟨l0, rfl, y0, s0, rfl, ⟨tt, rfl, _⟩, y1, s1, rfl, ⟨txs, rfl, htx, _, hlx⟩, y2, s2, rfl, ⟨d, rfl, hd⟩, y3, s3, rfl, ⟨e, rfl, _⟩, rfl⟩, rfl⟩ := h
  obtain ⟨gh, gl, gt, gn, t, c1, c2, c3, c4, c5, c6, rfl, ht, _⟩ := cfg_of hx
  have h2 := wfu64 hd
  exact ⟨_, rfl, sat_of_runsX (by kernel_rfl) (mineGrows_runs ht h2.1 (by omega) (blocks0_of hy) hl htx (shorter_of hlx))⟩

end Go.Proofs.Ytncajhkogppojaa.Ev
