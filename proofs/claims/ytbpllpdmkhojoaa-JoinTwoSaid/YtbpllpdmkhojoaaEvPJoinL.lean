/- Joins: the laws. -/
import Derived.Test.YtbpllpdmkhojoaaEvPJoin
import Derived.Test.YtbpllpdmkhojoaaEvPMuch30
import Derived.Test.YtbpllpdmkhojoaaEvPClashL
namespace Go.Proofs.Ytbpllpdmkhojoaa.Ev
open Go Go.RowKit

def zstep : AV := .agg [.agg [.int 0, .blob (List.replicate 32 0), .blob (List.replicate 32 0), .int 0], .agg [.int 0, .int 0, .slice []]]
theorem zsteps (k : Nat) : Steps (List.replicate k zstep) := by
  intro i hi
  rw [nth_lt hi, List.getElem_replicate]
  exact ⟨⟨by decide, by decide, by decide, by decide, by decide, by decide⟩, no_blobs⟩
theorem z1 : firstJ (List.replicate 1 zstep) ((List.replicate 1 zstep).length - 1) 1 = -1 := by decide +kernel
theorem z2 : firstJ (List.replicate 2 zstep) ((List.replicate 2 zstep).length - 1) 1 = 1 := by decide +kernel

theorem joinAwake : RunsX 24 [] ⟨[.bool true], [], false⟩ := by
  have r1 := joinFirst_runs (l := List.replicate 1 zstep) (by simp) (zsteps 1)
  have r2 := joinFirst_runs (l := List.replicate 2 zstep) (by simp) (zsteps 2)
  have r3 := joinIds_runs (l := List.replicate 2 zstep) (by simp) (zsteps 2)
  rw [z1] at r1
  rw [z2] at r2
  refine Evt.succ (((r1.and r2).and r3).mono fun n hn => ?_)
  obtain ⟨⟨g1, g2⟩, g3⟩ := hn
  have e : eqI ((idsV (List.replicate 2 zstep)).length : Int) 2 = true := by rw [idsV_len]; rfl
  unfold zstep at g1 g2 g3
  rw [f24_run, f24_eq]
  repeat (first | rw [step1] | rw [step1f] | rw [step2] | rw [step3] | rw [toBool_b] | rw [toInt_i] | rw [toStr_s] | rw [toBlob_b] | rw [toSlice_s] | rw [fld0] | rw [fld1] | rw [fld2] | rw [fld3] | rw [cond_true] | rw [cond_false] | rw [not_t] | rw [not_f] | rw [g1] | rw [g2] | rw [g3] | rw [eqI_t (a := -1) (b := -1) rfl] | rw [eqI_t (a := 1) (b := 1) rfl])
  exact congrArg (fun b => some (⟨[.bool b], [], false⟩ : Res)) e

theorem joinHolds_runs {h : Int} {ls ts : List UInt8} {nc i n : Int} {P : List AV} {h' : Int} {ls' ts' : List UInt8} {nc' : Int} (hb : Blob32 P) (H : HeadOk h' ls' ts' nc') :
    RunsX 5 [.agg [.agg [.int h, .blob ls, .blob ts, .int nc], .agg [.int i, .int n, .slice P]], .agg [.int h', .blob ls', .blob ts', .int nc']] ⟨[.bool true], [], false⟩ := by
  have r1 := holds_runs' (h := h) (ls := ls) (ts := ts) (nc := nc) (i := i) (n := n) hb H
  have r2 := refHolds_runs' (h := h) (ls := ls) (ts := ts) (nc := nc) (i := i) (n := n) hb H
  refine Evt.succ (((r1.and r2).and joinAwake).mono fun m hn => ?_)
  obtain ⟨⟨g1, g2⟩, g3⟩ := hn
  rw [f5_run, f5_eq]
  cases ltI 100 (P.length : Int)
  · repeat (first | rw [step1] | rw [step1f] | rw [step2] | rw [step3] | rw [toBool_b] | rw [toInt_i] | rw [toStr_s] | rw [toBlob_b] | rw [toSlice_s] | rw [fld0] | rw [fld1] | rw [fld2] | rw [fld3] | rw [cond_true] | rw [cond_false] | rw [not_t] | rw [not_f] | rw [g1] | rw [g2] | rw [g3] | rw [eqO_same])
    rfl
  · repeat (first | rw [step1] | rw [step1f] | rw [step2] | rw [step3] | rw [toBool_b] | rw [toInt_i] | rw [toStr_s] | rw [toBlob_b] | rw [toSlice_s] | rw [fld0] | rw [fld1] | rw [fld2] | rw [fld3] | rw [cond_true] | rw [cond_false] | rw [not_t] | rw [not_f] | rw [g3])
    rfl

theorem joinHolds_sat (xs : List AV) (h : Ty.HasL [.struct [.struct [.int .u32, .blob 32, .blob 32, .int .u64], .struct [.int .i64, .int .i64, .slice (.blob 32)]], .struct [.int .u32, .blob 32, .blob 32, .int .u64]] xs) : ∃ r, r.vals = [.bool true] ∧ Sat Try.prog f5_info 5 xs r := by
  obtain ⟨x, r, rfl, hx, y, r2, rfl, hy, rfl⟩ := h
  have H := headA_of hy
  obtain ⟨l0, rfl, y0, s0, rfl, ⟨l1, rfl, z0, t0, rfl, ⟨a, rfl, ha⟩, z1, t1, rfl, ⟨b, rfl, hb⟩, z2, t2, rfl, ⟨c, rfl, hc⟩, z3, t3, rfl, ⟨d, rfl, hd⟩, rfl⟩, y1, s1, rfl, ⟨l2, rfl, w0, u0, rfl, ⟨i, rfl, _⟩, w1, u1, rfl, ⟨n, rfl, _⟩, w2, u2, rfl, ⟨P, rfl, _, _, hP⟩, rfl⟩, rfl⟩ := hx
  obtain ⟨l1', rfl, z0', t0', rfl, ⟨a', rfl, ha'⟩, z1', t1', rfl, ⟨b', rfl, hb'⟩, z2', t2', rfl, ⟨c', rfl, hc'⟩, z3', t3', rfl, ⟨d', rfl, hd'⟩, rfl⟩ := hy
  exact ⟨_, rfl, sat_of_runsX (by kernel_rfl) (joinHolds_runs (blob32_of hP) H)⟩

theorem joinFirstL_runs {l : List AV} (hl : l.length ≤ maxLen) (hs : Steps l) : RunsX 6 [.slice l] ⟨[.bool true], [], false⟩ := by
  obtain ⟨b, h0, hm⟩ := much30_runs hl
  cases b with
  | true =>
    refine Evt.succ ((hm.and joinAwake).mono fun n hn => ?_)
    rw [f6_run, f6_eq, hn.1, step1, toBool_b, cond_true, hn.2, step1]; rfl
  | false =>
  obtain ⟨k1, k2⟩ := h0 rfl
  have hle : l.length ≤ 100000 := by omega
  have r1 := joinFirst_runs hle hs
  have r2 := joinIds_runs hle hs
  have r3 := refJoinIds_runs hle hs
  have r4 := hashes_runs (l := idsV l) (by rw [idsV_len]; exact hl)
  have hall := Evt.all l.length fun i (hi : i < l.length) => refHolds_runs' (h := (((nth l i).fld 0).fld 0).toInt) (ls := (((nth l i).fld 0).fld 1).toBlob) (ts := (((nth l i).fld 0).fld 2).toBlob) (nc := (((nth l i).fld 0).fld 3).toInt) (i := (((nth l i).fld 1).fld 0).toInt) (n := (((nth l i).fld 1).fld 1).toInt) (hs i hi).2 (hs (i - 1) (by omega)).1
  refine Evt.succ (((((hm.and joinAwake).and (r1.and r2)).and (r3.and r4)).and (hall.and (Evt.ge (l.length + 2)))).mono fun n hn => ?_)
  obtain ⟨⟨⟨⟨g1, g2⟩, g3, g4⟩, g5, g6⟩, g7, g8⟩ := hn
  have fin : ∀ (k : Nat) (i : Int), i ≤ 0 → f6_l0 (runE G ext n) n (k + 1) l (firstJ l (l.length - 1) 1) i = some ⟨[.bool true], [], false⟩ := by
    intro k i hi
    rw [f6_l0_eq, ltI_f (by omega), cond_false]
    repeat (first | rw [step1] | rw [step1f] | rw [step2] | rw [step3] | rw [toBool_b] | rw [toInt_i] | rw [toStr_s] | rw [toBlob_b] | rw [toSlice_s] | rw [fld0] | rw [fld1] | rw [fld2] | rw [fld3] | rw [cond_true] | rw [cond_false] | rw [not_t] | rw [not_f] | rw [g3] | rw [g4] | rw [g5] | rw [g6] | rw [g2] | rw [eqI_t (a := firstJ l (l.length - 1) 1) (b := firstJ l (l.length - 1) 1) rfl])
    rfl
  have key : ∀ (i k : Nat), i < l.length → i < k → f6_l0 (runE G ext n) n k l (firstJ l (l.length - 1 - i) (i + 1)) (i : Int) = some ⟨[.bool true], [], false⟩ := by
    intro i
    induction i with
    | zero =>
      intro k hi hk
      obtain ⟨k, rfl⟩ : ∃ j, k = j + 1 := ⟨k - 1, by omega⟩
      exact fin k 0 (by omega)
    | succ i ih =>
      intro k hi hk
      obtain ⟨k, rfl⟩ : ∃ j, k = j + 1 := ⟨k - 1, by omega⟩
      have ih' := ih k (by omega) (by omega)
      have e := g7 (i + 1) hi
      rw [show l.length - 1 - i = l.length - 1 - (i + 1) + 1 by omega] at ih'
      simp only [firstJ] at ih'
      rw [f6_l0_eq, ltI_t (by omega), cond_true, inR_nat hi, cond_true, w64 (x := ((i + 1 : Nat) : Int) - 1) (by omega) (by omega), show ((i + 1 : Nat) : Int) - 1 = ((i + 1 - 1 : Nat) : Int) by omega, inR_nat (by omega), cond_true, Int.toNat_natCast, Int.toNat_natCast, e, step1, toBool_b]
      change (bif !(hj l (i + 1)) then _ else _) = _
      cases hb : hj l (i + 1) with
      | true => rw [hb, cond_true] at ih'; exact ih'
      | false => rw [hb, cond_false] at ih'; exact ih'
  rw [f6_run, f6_eq, g1, step1, toBool_b, cond_false]
  by_cases h : l.length = 0
  · obtain ⟨n', rfl⟩ : ∃ j, n = j + 1 := ⟨n - 1, by omega⟩
    have := fin n' (IntKind.wrap .i64 ((l.length : Int) - 1)) (by rw [w64 (by omega) (by omega)]; omega)
    rw [show firstJ l (l.length - 1) 1 = -1 by rw [h]; rfl] at this
    exact this
  · have := key (l.length - 1) n (by omega) (by omega)
    rw [show l.length - 1 - (l.length - 1) = 0 by omega] at this
    rw [w64 (by omega) (by omega), show (l.length : Int) - 1 = ((l.length - 1 : Nat) : Int) by omega]
    exact this

theorem joinFirst_sat (xs : List AV) (h : Ty.HasL [.slice (.struct [.struct [.int .u32, .blob 32, .blob 32, .int .u64], .struct [.int .i64, .int .i64, .slice (.blob 32)]])] xs) : ∃ r, r.vals = [.bool true] ∧ Sat Try.prog f6_info 6 xs r := by
  obtain ⟨x, r, rfl, ⟨l, rfl, hl, _, hx⟩, rfl⟩ := h
  exact ⟨_, rfl, sat_of_runsX (by kernel_rfl) (joinFirstL_runs hl (steps_of hx))⟩

theorem joinTwo_runs {h : Int} {ls ts : List UInt8} {nc i n : Int} {P : List AV} {i' n' : Int} {P' : List AV} {a b : List UInt8} (hb : Blob32 P) (hb' : Blob32 P') (ha : a.length = 32) (hbl : b.length = 32) :
    RunsX 11 [.agg [.agg [.int h, .blob ls, .blob ts, .int nc], .agg [.int i, .int n, .slice P]], .agg [.int i', .int n', .slice P'], .agg [.blob a, .blob b]] ⟨[.bool true], [], false⟩ := by
  have r1 := linkCheck_runs (root := ls) (id := a) (i := i) (n := n) ha hb
  have r2 := linkCheck_runs (root := ls) (id := b) (i := i) (n := n') hbl hb'
  have r3 := linkText_runs ha
  have r4 := linkText_runs hbl
  obtain ⟨t, u, r5, k1, k2, k3, k4⟩ := find_runs (root := ls) (s := [76] ++ a) (s' := [76] ++ b) (i := i) (n := n) (i' := i) (n' := n') (leads_len ha) (leads_len hbl) hb hb'
  have la : ([76] ++ a).length = 33 := by simp [ha]
  have lb : ([76] ++ b).length = 33 := by simp [hbl]
  have r6 := is_runs (a := t) (b := u) (by omega) (by omega)
  refine Evt.succ ((((joinAwake.and (r1.and r2)).and (r3.and r4)).and (r5.and r6)).mono fun m hn => ?_)
  obtain ⟨⟨⟨g0, g1, g2⟩, g3, g4⟩, g5, g6⟩ := hn
  rw [f11_run, f11_eq]
  by_cases c1 : 100 < (P.length : Int)
  · repeat (first | rw [step1] | rw [step1f] | rw [step2] | rw [step3] | rw [toBool_b] | rw [toInt_i] | rw [toStr_s] | rw [toBlob_b] | rw [toSlice_s] | rw [fld0] | rw [fld1] | rw [fld2] | rw [fld3] | rw [cond_true] | rw [cond_false] | rw [not_t] | rw [not_f] | rw [ltI_t c1] | rw [g0])
    rfl
  by_cases c2 : 100 < (P'.length : Int)
  · repeat (first | rw [step1] | rw [step1f] | rw [step2] | rw [step3] | rw [toBool_b] | rw [toInt_i] | rw [toStr_s] | rw [toBlob_b] | rw [toSlice_s] | rw [fld0] | rw [fld1] | rw [fld2] | rw [fld3] | rw [cond_true] | rw [cond_false] | rw [not_t] | rw [not_f] | rw [ltI_f c1] | rw [ltI_t c2] | rw [g0])
    rfl
  by_cases c3 : a = b
  · repeat (first | rw [step1] | rw [step1f] | rw [step2] | rw [step3] | rw [toBool_b] | rw [toInt_i] | rw [toStr_s] | rw [toBlob_b] | rw [toSlice_s] | rw [fld0] | rw [fld1] | rw [fld2] | rw [fld3] | rw [cond_true] | rw [cond_false] | rw [not_t] | rw [not_f] | rw [ltI_f c1] | rw [ltI_f c2] | rw [eqS_t c3] | rw [g0])
    rfl
  cases c4 : leadsV ls a i n P with
  | false =>
    rw [c4] at g1
    repeat (first | rw [step1] | rw [step1f] | rw [step2] | rw [step3] | rw [toBool_b] | rw [toInt_i] | rw [toStr_s] | rw [toBlob_b] | rw [toSlice_s] | rw [fld0] | rw [fld1] | rw [fld2] | rw [fld3] | rw [cond_true] | rw [cond_false] | rw [not_t] | rw [not_f] | rw [ltI_f c1] | rw [ltI_f c2] | rw [eqS_f c3] | rw [g1] | rw [g0])
    rfl
  | true => cases c5 : leadsV ls b i n' P' with
    | false =>
      rw [c4] at g1
      rw [c5] at g2
      repeat (first | rw [step1] | rw [step1f] | rw [step2] | rw [step3] | rw [toBool_b] | rw [toInt_i] | rw [toStr_s] | rw [toBlob_b] | rw [toSlice_s] | rw [fld0] | rw [fld1] | rw [fld2] | rw [fld3] | rw [cond_true] | rw [cond_false] | rw [not_t] | rw [not_f] | rw [ltI_f c1] | rw [ltI_f c2] | rw [eqS_f c3] | rw [g1] | rw [g2] | rw [g0])
      rfl
    | true =>
      have hB : bothV ls ([76] ++ a) i n P ([76] ++ b) i n' P' = true := by
        unfold leadsV at c4 c5
        unfold bothV
        have d1 : checkH ls ([76] ++ a) i n P = true := by
          cases hq : leI n 257 with
          | true => rw [hq, cond_true] at c4; exact c4
          | false => rw [hq, cond_false] at c4; cases c4
        have d2 : checkH ls ([76] ++ b) i n' P' = true := by
          cases hq : leI n' 257 with
          | true => rw [hq, cond_true] at c5; exact c5
          | false => rw [hq, cond_false] at c5; cases c5
        rw [d1, d2, eqI_t rfl, eqS_f (fun h => c3 (List.append_cancel_left h))]; rfl
      rw [c4] at g1
      rw [c5] at g2
      rw [hB] at g5
      rw [k2 hB] at g6
      repeat (first | rw [step1] | rw [step1f] | rw [step2] | rw [step3] | rw [toBool_b] | rw [toInt_i] | rw [toStr_s] | rw [toBlob_b] | rw [toSlice_s] | rw [fld0] | rw [fld1] | rw [fld2] | rw [fld3] | rw [cond_true] | rw [cond_false] | rw [not_t] | rw [not_f] | rw [ltI_f c1] | rw [ltI_f c2] | rw [eqS_f c3] | rw [g1] | rw [g2] | rw [g3] | rw [g4] | rw [g5] | rw [g6] | rw [g0])
      rfl

theorem two_blobs {l : List AV} (h1 : l.length = 2) (h : ∀ (i : Nat) y, l[i]? = some y → (Ty.blob 32).Has y) : ∃ a b : List UInt8, l = [.blob a, .blob b] ∧ a.length = 32 ∧ b.length = 32 := by
  match l, h1, h with
  | [x, y], _, h =>
    obtain ⟨a, rfl, ha⟩ := h 0 x rfl
    obtain ⟨b, rfl, hb⟩ := h 1 y rfl
    exact ⟨a, b, rfl, ha, hb⟩

theorem joinTwo_sat (xs : List AV) (h : Ty.HasL [.struct [.struct [.int .u32, .blob 32, .blob 32, .int .u64], .struct [.int .i64, .int .i64, .slice (.blob 32)]], .struct [.int .i64, .int .i64, .slice (.blob 32)], .arr 2 (.blob 32)] xs) : ∃ r, r.vals = [.bool true] ∧ Sat Try.prog f11_info 11 xs r := by
  obtain ⟨x, r, rfl, hx, y, r2, rfl, ⟨l2', rfl, w0', u0', rfl, ⟨i', rfl, _⟩, w1', u1', rfl, ⟨n', rfl, _⟩, w2', u2', rfl, ⟨P', rfl, _, _, hP'⟩, rfl⟩, z, r3, rfl, ⟨A, rfl, hA, hA2⟩, rfl⟩ := h
  obtain ⟨l0, rfl, y0, s0, rfl, ⟨l1, rfl, z0, t0, rfl, ⟨a, rfl, ha⟩, z1, t1, rfl, ⟨b, rfl, hb⟩, z2, t2, rfl, ⟨c, rfl, hc⟩, z3, t3, rfl, ⟨d, rfl, hd⟩, rfl⟩, y1, s1, rfl, ⟨l2, rfl, w0, u0, rfl, ⟨i, rfl, _⟩, w1, u1, rfl, ⟨n, rfl, _⟩, w2, u2, rfl, ⟨P, rfl, _, _, hP⟩, rfl⟩, rfl⟩ := hx
  obtain ⟨p, q, rfl, hp, hq⟩ := two_blobs hA hA2
  exact ⟨_, rfl, sat_of_runsX (by kernel_rfl) (joinTwo_runs (blob32_of hP) (blob32_of hP') hp hq)⟩

end Go.Proofs.Ytbpllpdmkhojoaa.Ev
