/- Headers' ids: both programs tell the same. -/
import Derived.Test.YtogehijjhibdkaaGreatEvPKit
namespace Go.Proofs.YtogehijjhibdkaaGreat.Ev
open Go Go.RowKit

structure HeadOk (h : Int) (ls ts : List UInt8) (nc : Int) : Prop where
  h0 : 0 ≤ h
  h1 : h < 4294967296
  l : ls.length = 32
  t : ts.length = 32
  n0 : 0 ≤ nc
  n1 : nc < 18446744073709551616
def headB (h : Int) (ls ts : List UInt8) (nc : Int) : List UInt8 := bs (BitVec.ofNat 64 h.toNat) 4 ++ ls ++ ts ++ bs (BitVec.ofNat 64 nc.toNat) 8
def idV (h : Int) (ls ts : List UInt8) (nc : Int) : List UInt8 := hashV ([3] ++ headB h ls ts nc)
theorem idV_len (h : Int) (ls ts : List UInt8) (nc : Int) : (idV h ls ts nc).length = 32 := hashV_len _
theorem headB_len {h : Int} {ls ts : List UInt8} {nc : Int} (H : HeadOk h ls ts nc) : (headB h ls ts nc).length = 76 := by
  simp [headB, bs_len, H.l, H.t]
theorem U_of {x : Int} (h0 : 0 ≤ x) (h1 : x < 18446744073709551616) : U (BitVec.ofNat 64 x.toNat) = x := by
  unfold U; rw [BitVec.toNat_ofNat]; omega

theorem headBytes_runs {h : Int} {ls ts : List UInt8} {nc : Int} (H : HeadOk h ls ts nc) : RunsX 115 [.agg [.int h, .blob ls, .blob ts, .int nc]] ⟨[.str (headB h ls ts nc)], [], false⟩ := by
  refine Evt.succ ((Evt.ge 3000).mono fun n hn => ?_)
  obtain ⟨m, rfl⟩ : ∃ j, n = j + 2 := ⟨n - 2, by omega⟩
  have e1 : runE G ext (m + 2) 144 [.int h] = some ⟨[.str (bs (BitVec.ofNat 64 h.toNat) 4)], [], false⟩ := by
    have p := put_at m (by omega) (BitVec.ofNat 64 h.toNat) (m := 4) (by omega)
    have hw : IntKind.wrap .u64 h = U (BitVec.ofNat 64 h.toNat) := by rw [U_of H.h0 (by have := H.h1; omega), wrap64]; have := H.h0; have := H.h1; omega
    rw [f144_run, f144_eq, hw]
    exact congrArg (fun x => Option.bind x _) p
  have e2 := put64_at m (by omega) (BitVec.ofNat 64 nc.toNat)
  rw [U_of H.n0 H.n1] at e2
  have n1 : Nat.ble ((bs (BitVec.ofNat 64 h.toNat) 4).length + ls.length) maxLen = true := Nat.ble_eq_true_of_le (by rw [maxLen_eq, bs_len, H.l]; omega)
  have n2 : Nat.ble ((bs (BitVec.ofNat 64 h.toNat) 4 ++ ls).length + ts.length) maxLen = true := Nat.ble_eq_true_of_le (by rw [maxLen_eq, List.length_append, bs_len, H.l, H.t]; omega)
  have n3 : Nat.ble ((bs (BitVec.ofNat 64 h.toNat) 4 ++ ls ++ ts).length + (bs (BitVec.ofNat 64 nc.toNat) 8).length) maxLen = true := Nat.ble_eq_true_of_le (by rw [maxLen_eq, List.length_append, List.length_append, bs_len, bs_len, H.l, H.t]; omega)
  rw [f115_run, f115_eq]
  repeat (first | rw [step1] | rw [step1f] | rw [step2] | rw [step3] | rw [toBool_b] | rw [toInt_i] | rw [toStr_s] | rw [toBlob_b] | rw [toSlice_s] | rw [fld0] | rw [fld1] | rw [fld2] | rw [fld3] | rw [cond_true] | rw [cond_false] | rw [not_t] | rw [not_f] | rw [e1] | rw [e2] | rw [raw32 H.l] | rw [raw32 H.t] | rw [n1] | rw [n2] | rw [n3])
  rfl

theorem headText_at (n : Nat) {s : List UInt8} (hs : s.length = 76) : runE G ext (n + 2) 143 [.str s] = some ⟨[.str ([3] ++ s)], [], false⟩ := by
  have h := text_at n 3 [.str s] (by simp) (by rw [join1]; omega)
  rw [join1, show bytesOf [.int 3] = [3] by decide +kernel] at h
  rw [f143_run, f143_eq, h, step1]
  rfl
theorem id_runs {h : Int} {ls ts : List UInt8} {nc : Int} (H : HeadOk h ls ts nc) : RunsX 79 [.agg [.int h, .blob ls, .blob ts, .int nc]] ⟨[.blob (idV h ls ts nc)], [], false⟩ := by
  have r : RunsX 114 [.str (headB h ls ts nc)] ⟨[.blob (idV h ls ts nc)], [], false⟩ := by
    refine Evt.succ (((sha_runs (b := [3] ++ headB h ls ts nc) (by rw [List.length_append, headB_len H]; simp)).and (Evt.ge 10)).mono fun n hn => ?_)
    obtain ⟨m, rfl⟩ : ∃ m, n = m + 2 := ⟨n - 2, by omega⟩
    rw [f114_run, f114_eq, headText_at m (headB_len H), step1, toStr_s, hn.1, step1]
    rfl
  refine Evt.succ (((headBytes_runs H).and r).mono fun n hn => ?_)
  rw [f79_run, f79_eq, hn.1, step1, toStr_s, hn.2, step1]
  rfl
/- headers as parts of values -/
def idA (y : AV) : List UInt8 := idV (y.fld 0).toInt (y.fld 1).toBlob (y.fld 2).toBlob (y.fld 3).toInt
theorem idA_len (y : AV) : (idA y).length = 32 := hashV_len _
def HeadA (y : AV) : Prop := HeadOk (y.fld 0).toInt (y.fld 1).toBlob (y.fld 2).toBlob (y.fld 3).toInt
abbrev headTy : Ty := .struct [.int .u32, .blob 32, .blob 32, .int .u64]
theorem wfu32 {x : Int} (h : (Lit.int .u32 x).wf = true) : 0 ≤ x ∧ x ≤ 4294967295 := by
  have := wf_bounds h
  simpa [IntKind.min, IntKind.max, IntKind.signed, IntKind.bits] using this
theorem wfu64 {x : Int} (h : (Lit.int .u64 x).wf = true) : 0 ≤ x ∧ x ≤ 18446744073709551615 := by
  have := wf_bounds h
  simpa [IntKind.min, IntKind.max, IntKind.signed, IntKind.bits] using this
theorem headA_of {y : AV} (h : headTy.Has y) : HeadA y := by
  obtain ⟨l0, rfl, y0, s0, rfl, ⟨a, rfl, ha⟩, y1, s1, rfl, ⟨b, rfl, hb⟩, y2, s2, rfl, ⟨c, rfl, hc⟩, y3, s3, rfl, ⟨d, rfl, hd⟩, rfl⟩ := h
  have h1 := wfu32 ha
  have h2 := wfu64 hd
  exact ⟨h1.1, by show a < _; omega, hb, hc, h2.1, by show d < _; omega⟩

end Go.Proofs.YtogehijjhibdkaaGreat.Ev
