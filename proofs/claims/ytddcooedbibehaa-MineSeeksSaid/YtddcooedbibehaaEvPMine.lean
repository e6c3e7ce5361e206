/- Mining: both programs make the same blocks. -/
import Derived.Test.YtddcooedbibehaaEvPSeek
import Derived.Test.YtddcooedbibehaaEvPChainL
namespace Go.Proofs.Ytddcooedbibehaa.Ev
open Go Go.RowKit

abbrev Z32 : List UInt8 := List.replicate 32 0
abbrev zeroBlk : AV := Blk 0 Z32 Z32 0 []
def minedV (t : List UInt8) (h : Int) (v l : List AV) (nc tries : Int) : List AV :=
  bif !(eqI (mayV l) 0) then [zeroBlk, .int (mayV l)]
  else match seekV t h (linkR v) (txR l) nc tries.toNat 0 with
    | none => [zeroBlk, .int 9]
    | some k => [Blk h (linkR v) (txR l) (nonceAt nc k) l, .int 0]
def growV (t : List UInt8) (c l : List AV) (nc tries : Int) : List AV :=
  if c.length = 0 then [zeroBlk, .int 6] else if 1024 ≤ c.length then [zeroBlk, .int 4] else minedV t (c.length : Int) (vecV t c c.length) l nc tries
theorem minedV_form (t : List UInt8) (h : Int) (v l : List AV) (nc tries : Int) : ∃ h' b c n' l' e, minedV t h v l nc tries = [Blk h' b c n' l', .int e] ∧ (l' = l ∨ l' = []) := by
  unfold minedV
  cases (!(eqI (mayV l) 0))
  · rw [cond_false]
    cases seekV t h (linkR v) (txR l) nc tries.toNat 0
    · exact ⟨_, _, _, _, _, _, rfl, .inr rfl⟩
    · exact ⟨_, _, _, _, _, _, rfl, .inl rfl⟩
  · exact ⟨_, _, _, _, _, _, rfl, .inr rfl⟩
theorem growV_form (t : List UInt8) (c l : List AV) (nc tries : Int) : ∃ h' b d n' l' e, growV t c l nc tries = [Blk h' b d n' l', .int e] ∧ (l' = l ∨ l' = []) := by
  unfold growV
  by_cases h1 : c.length = 0
  · rw [if_pos h1]; exact ⟨_, _, _, _, _, _, rfl, .inr rfl⟩
  · rw [if_neg h1]
    by_cases h2 : 1024 ≤ c.length
    · rw [if_pos h2]; exact ⟨_, _, _, _, _, _, rfl, .inr rfl⟩
    · rw [if_neg h2]; exact minedV_form _ _ _ _ _ _
theorem minedHead {h nc : Int} {v l : List AV} (h0 : 0 ≤ h) (h1 : h ≤ 100000) (n0 : 0 ≤ nc) (n1 : nc < 18446744073709551616) : HeadOk h (linkR v) (txR l) nc :=
  ⟨h0, by omega, rootV_len _, rootV_len _, n0, n1⟩

section
variable {t : List UInt8} {nc tries : Int}
theorem mined_runs {h : Int} {v l : List AV} (ht : t.length = 32) (h0 : 0 ≤ h) (h1 : h ≤ 100000) (n0 : 0 ≤ nc) (n1 : nc < 18446744073709551616) (hT : tries ≤ 100000) (hv : v.length ≤ 100000) (hb : Blob32 v) (hl : l.length ≤ 100000) (hs : Shorter l) :
    RunsX 82 [.blob t, .int h, .slice v, .slice l, .int nc, .int tries] ⟨minedV t h v l nc tries, [], false⟩ := by
  refine Evt.succ ((((txMay_runs hl).and (make_runs (h := h) (n := nc) hv hb hl hs)).and (seek_runs (t := t) (tries := tries) (minedHead (v := v) (l := l) h0 h1 n0 n1) ht hT)).mono fun n hn => ?_)
  obtain ⟨⟨g1, g2⟩, g3⟩ := hn
  have f0 : (((AV.fld (Blk h (linkR v) (txR l) nc l) 0).fld 0).toInt) = h := rfl
  have f1 : (((AV.fld (Blk h (linkR v) (txR l) nc l) 0).fld 1).toBlob) = linkR v := rfl
  have f2 : (((AV.fld (Blk h (linkR v) (txR l) nc l) 0).fld 2).toBlob) = txR l := rfl
  have f3 : (((AV.fld (Blk h (linkR v) (txR l) nc l) 0).fld 3).toInt) = nc := rfl
  unfold minedV
  rw [f82_run, f82_eq, g1, step1, toInt_i]
  cases hm : eqI (mayV l) 0
  · rfl
  · rw [not_t, cond_false, cond_false, show IntKind.wrap .u32 h = h by rw [wrap32]; omega, g2, step1, f0, f1, f2, f3, g3]
    cases seekV t h (linkR v) (txR l) nc tries.toNat 0 <;> rfl
theorem start_runs {l : List AV} (ht : t.length = 32) (n0 : 0 ≤ nc) (n1 : nc < 18446744073709551616) (hT : tries ≤ 100000) (hl : l.length ≤ 100000) (hs : Shorter l) :
    RunsX 49 [.blob t, .slice l, .int nc, .int tries] ⟨minedV t 0 [] l nc tries, [], false⟩ := by
  refine Evt.succ ((mined_runs (h := 0) (v := []) (l := l) ht (by omega) (by omega) n0 n1 hT (by simp) nil_blob hl hs).mono fun n hn => ?_)
  obtain ⟨h', b, c, n', l', e, he, _⟩ := minedV_form t 0 [] l nc tries
  rw [f49_run, f49_eq, hn, he, step2, blkE]
  rfl
theorem grow_runs {c l : List AV} (ht : t.length = 32) (n0 : 0 ≤ nc) (n1 : nc < 18446744073709551616) (hT : tries ≤ 100000) (hc : Heads c) (hl : l.length ≤ 100000) (hs : Shorter l) :
    RunsX 50 [.blob t, .slice c, .slice l, .int nc, .int tries] ⟨growV t c l nc tries, [], false⟩ := by
  unfold growV
  by_cases h1 : c.length = 0
  · refine Evt.succ (.of fun n => ?_)
    rw [if_pos h1, f50_run, f50_eq, eqI_t (by omega)]; rfl
  rw [if_neg h1]
  by_cases h2 : 1024 ≤ c.length
  · refine Evt.succ (.of fun n => ?_)
    rw [if_pos h2, f50_run, f50_eq, eqI_f (by omega), cond_false, leI_t (by omega)]; rfl
  rw [if_neg h2]
  refine Evt.succ (((vectors_runs (t := t) (l := c) ht (by omega) hc).and (mined_runs (h := (c.length : Int)) (v := vecV t c c.length) (l := l) ht (by omega) (by omega) n0 n1 hT (Nat.le_trans (vecV_len t c c.length) (by omega)) (vecV_blob t c c.length) hl hs)).mono fun n hn => ?_)
  obtain ⟨g1, g2⟩ := hn
  obtain ⟨h', b, d, n', l', e, he, _⟩ := minedV_form t (c.length : Int) (vecV t c c.length) l nc tries
  rw [f50_run, f50_eq, eqI_f (by omega), cond_false, leI_f (by omega), cond_false, g1, step1f, toSlice_s, inR_nat (by rw [vecsV_len]; omega), cond_true, Int.toNat_natCast, vecsV_nth t c (by omega), toSlice_s, g2, he, step2, blkE]
  rfl

end

/- the example -/
def fillM (i : Nat) : List UInt8 := List.replicate i 255 ++ List.replicate (32 - i) 0
theorem fillM_set {i : Nat} (h : i < 32) : (fillM i).set i (UInt8.ofNat (Int.toNat 255)) = fillM (i + 1) := by
  unfold fillM
  rw [List.set_append_right _ _ (by simp), List.length_replicate, Nat.sub_self, show 32 - i = (32 - (i + 1)) + 1 by omega, List.replicate_succ, List.set_cons_zero, List.replicate_succ' (n := i), List.append_assoc]
  rfl
theorem mfull_loop (run : Run) (n : Nat) : ∀ (j k i : Nat), i + j = 32 → f23_l0 run n (k + j) (i : Int) (fillM i) = f23_l0 run n k 32 (List.replicate 32 255)
  | 0, k, i, h => by
    obtain rfl : i = 32 := by omega
    rfl
  | j + 1, k, i, h => by
    have ih := mfull_loop run n j k (i + 1) (by omega)
    rw [show k + (j + 1) = (k + j) + 1 by omega, f23_l0_eq, ltI_t (by omega), cond_true, inR_nat (n := 32) (by omega), cond_true, w64 (by omega) (by omega), Int.toNat_natCast, fillM_set (by omega)]
    exact ih
theorem okM_full {id : List UInt8} (h : id.length = 32) : okV id (List.replicate 32 255) = true := by
  unfold okV
  have h1 := natN_lt id
  rw [h] at h1
  have h2 : natN (List.replicate 32 255) = 256 ^ 32 - 1 := by decide +kernel
  rw [h2]
  exact decide_eq_true (by omega)
theorem mined_full {h : Int} {v l : List AV} {nc : Int} (hl : mayV l = 0) (n0 : 0 ≤ nc) (n1 : nc < 18446744073709551616) : minedV (List.replicate 32 255) h v l nc 1 = [Blk h (linkR v) (txR l) nc l, .int 0] := by
  unfold minedV
  rw [eqI_t hl, not_t, cond_false, show Int.toNat 1 = 0 + 1 from rfl]
  simp only [seekV]
  rw [okM_full (idV_len _ _ _ _), cond_true]
  show [Blk h (linkR v) (txR l) (nonceAt nc 0) l, .int 0] = _
  rw [nonceAt_0 n0 n1]
theorem a_short : Shorter [.str [97]] := by
  intro i hi
  obtain rfl : i = 0 := by simp at hi; omega
  decide
theorem mineAwake : RunsX 23 [] ⟨[.bool true], [], false⟩ := by
  have hh : Heads [Blk 0 (linkR []) (txR [.str [97]]) 7 [.str [97]]] := by
    intro i hi
    obtain rfl : i = 0 := by simp at hi; omega
    exact (⟨by decide, by decide, rootV_len _, rootV_len _, by decide, by decide⟩ : HeadOk 0 (linkR []) (txR [.str [97]]) 7)
  have r1 := start_runs (t := List.replicate 32 255) (nc := 7) (tries := 1) (l := [.str [97]]) (by rw [List.length_replicate]) (by omega) (by omega) (by omega) (by simp) a_short
  have r2 := grow_runs (t := List.replicate 32 255) (nc := 9) (tries := 1) (c := [Blk 0 (linkR []) (txR [.str [97]]) 7 [.str [97]]]) (l := []) (by rw [List.length_replicate]) (by omega) (by omega) (by omega) hh (by simp) nil_short
  rw [mined_full (by decide) (by omega) (by omega)] at r1
  unfold growV at r2
  rw [if_neg (by simp), if_neg (by simp), mined_full (by decide) (by omega) (by omega)] at r2
  generalize linkR (vecV (List.replicate 32 255) [Blk 0 (linkR []) (txR [.str [97]]) 7 [.str [97]]] ([Blk 0 (linkR []) (txR [.str [97]]) 7 [.str [97]]] : List AV).length) = q2 at r2
  refine Evt.succ (((r1.and r2).and (Evt.ge 40)).mono fun n hn => ?_)
  obtain ⟨⟨g1, g2⟩, g4⟩ := hn
  obtain ⟨m, hm⟩ : ∃ m, n = m + 33 := ⟨n - 33, by omega⟩
  rw [f23_run, f23_eq]
  have hL : f23_l0 (runE G ext n) n n 0 (List.replicate 32 0) = f23_l0 (runE G ext n) n (m + 1) 32 (List.replicate 32 255) := by
    have := mfull_loop (runE G ext n) n 32 (m + 1) 0 (by omega)
    rw [show m + 1 + 32 = n by omega] at this
    exact this
  rw [hL, f23_l0_eq, ltI_f (by omega), cond_false, g1, step2, blkE, g2, step2]
  rfl

theorem mineSeeks_runs {t : List UInt8} {h : Int} {ls ts : List UInt8} {nc tries : Int} (H : HeadOk h ls ts nc) (ht : t.length = 32) : RunsX 6 [.blob t, .agg [.int h, .blob ls, .blob ts, .int nc], .int tries] ⟨[.bool true], [], false⟩ := by
  by_cases hT : 60 < tries
  · refine Evt.succ (mineAwake.mono fun n hn => ?_)
    rw [f6_run, f6_eq, ltI_t hT, cond_true, hn]; rfl
  have r1 := seek_runs (t := t) (tries := tries) H ht (by omega)
  have r2 := refSeek_runs (t := t) (tries := tries) H ht (by omega)
  cases hs : seekV t h ls ts nc tries.toNat 0 with
  | none =>
    rw [hs] at r1 r2
    refine Evt.succ (((r1.and r2).and mineAwake).mono fun n hn => ?_)
    obtain ⟨⟨g1, g2⟩, g3⟩ := hn
    rw [f6_run, f6_eq, ltI_f hT, cond_false, g1]
    simp only [seekR]
    simp only [seekR] at g2
    rw [step2, g2, step2, eqI_t rfl, eqS_t rfl, eqS_t rfl, eqI_t rfl, eqO_same]
    rw [show (true && (true && (true && (true && true)))) = true from rfl, cond_true, cond_true, toBool_b, not_f, cond_true, g3]
    rfl
  | some k =>
    have hok := seekV_some hs
    rw [hs] at r1 r2
    have r4 := workOk_runs (idV_len h ls ts (nonceAt nc k)) ht
    rw [hok] at r4
    refine Evt.succ (((r1.and r2).and (mineAwake.and ((id_runs (nonceAt_ok H k)).and r4))).mono fun n hn => ?_)
    obtain ⟨⟨g1, g2⟩, g3, g4, g5⟩ := hn
    rw [f6_run, f6_eq, ltI_f hT, cond_false, g1]
    simp only [seekR]
    simp only [seekR] at g2
    rw [step2, g2, step2, eqI_t rfl, eqS_t rfl, eqS_t rfl, eqI_t rfl, eqO_same]
    rw [show (true && (true && (true && (true && true)))) = true from rfl, cond_true, cond_true, toBool_b, not_t, cond_false, fld0, fld1, fld2, fld3, toInt_i, toInt_i, toBlob_b, toBlob_b, g4, step1, toBlob_b, g5, step1, toBool_b, cond_true, g3]
    rfl
theorem mineSeeks_sat (xs : List AV) (h : Ty.HasL [.blob 32, .struct [.int .u32, .blob 32, .blob 32, .int .u64], .int .i64] xs) : ∃ r, r.vals = [.bool true] ∧ Sat Try.prog f6_info 6 xs r := by
  obtain ⟨x, r, rfl, ⟨t, rfl, ht⟩, y, r2, rfl, ⟨l0, rfl, y0, s0, rfl, ⟨a, rfl, ha⟩, y1, s1, rfl, ⟨b, rfl, hb⟩, y2, s2, rfl, ⟨c, rfl, hc⟩, y3, s3, rfl, ⟨d, rfl, hd⟩, rfl⟩, z, r3, rfl, ⟨e, rfl, _⟩, rfl⟩ := h
  have h1 := wfu32 ha
  have h2 := wfu64 hd
  exact ⟨_, rfl, sat_of_runsX (by kernel_rfl) (mineSeeks_runs ⟨h1.1, by omega, hb, hc, h2.1, by omega⟩ ht)⟩

end Go.Proofs.Ytddcooedbibehaa.Ev
