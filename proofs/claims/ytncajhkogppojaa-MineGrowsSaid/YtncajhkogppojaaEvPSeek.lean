/- The search for a nonce: both programs find the same. -/
import Derived.Test.YtncajhkogppojaaEvPIdent
import Derived.Test.YtncajhkogppojaaEvPWork
namespace Go.Proofs.Ytncajhkogppojaa.Ev
open Go Go.RowKit

def nonceAt (nc : Int) (i : Nat) : Int := (nc + i) % 18446744073709551616
theorem nonceAt_0 {nc : Int} (h0 : 0 ≤ nc) (h1 : nc < 18446744073709551616) : nonceAt nc 0 = nc := by unfold nonceAt; omega
theorem nonceAt_succ (nc : Int) (i : Nat) : IntKind.wrap .u64 (nonceAt nc i + 1) = nonceAt nc (i + 1) := by rw [wrap64]; unfold nonceAt; omega
theorem nonceAt_ok {h : Int} {ls ts : List UInt8} {nc : Int} (H : HeadOk h ls ts nc) (i : Nat) : HeadOk h ls ts (nonceAt nc i) :=
  ⟨H.h0, H.h1, H.l, H.t, by unfold nonceAt; omega, by unfold nonceAt; omega⟩
def seekV (t : List UInt8) (h : Int) (ls ts : List UInt8) (nc : Int) : Nat → Nat → Option Nat
  | 0, _ => none
  | j + 1, i => bif okV (idV h ls ts (nonceAt nc i)) t then some i else seekV t h ls ts nc j (i + 1)
theorem seekV_some {t : List UInt8} {h : Int} {ls ts : List UInt8} {nc : Int} : ∀ {j i k : Nat}, seekV t h ls ts nc j i = some k → okV (idV h ls ts (nonceAt nc k)) t = true
  | 0, _, _, e => by cases e
  | j + 1, i, k, e => by
    simp only [seekV] at e
    cases hb : okV (idV h ls ts (nonceAt nc i)) t with
    | true => rw [hb, cond_true] at e; cases e; exact hb
    | false => rw [hb, cond_false] at e; exact seekV_some e
def zeroHead : AV := .agg [.int 0, .blob (List.replicate 32 0), .blob (List.replicate 32 0), .int 0]
def seekR (h : Int) (ls ts : List UInt8) (nc : Int) : Option Nat → List AV
  | none => [zeroHead, .bool false]
  | some k => [.agg [.int h, .blob ls, .blob ts, .int (nonceAt nc k)], .bool true]

theorem seek_runs {t : List UInt8} {h : Int} {ls ts : List UInt8} {nc tries : Int} (H : HeadOk h ls ts nc) (ht : t.length = 32) (hT : tries ≤ 100000) :
    RunsX 99 [.blob t, .agg [.int h, .blob ls, .blob ts, .int nc], .int tries] ⟨seekR h ls ts nc (seekV t h ls ts nc tries.toNat 0), [], false⟩ := by
  have hall := Evt.all tries.toNat fun i _ => (id_runs (nonceAt_ok H i)).and (workOk_runs (idV_len h ls ts (nonceAt nc i)) ht)
  refine Evt.succ ((hall.and (Evt.ge (tries.toNat + 2))).mono fun n hn => ?_)
  have key : ∀ (j k i : Nat) (x : Int), i + j = tries.toNat → j < k → (x = j ∨ j = 0 ∧ x ≤ 0) → f99_l0 (runE G ext n) n k x t h ls ts (nonceAt nc i) 0 (List.replicate 32 0) (List.replicate 32 0) 0 = some ⟨seekR h ls ts nc (seekV t h ls ts nc j i), [], false⟩ := by
    intro j
    induction j with
    | zero =>
      intro k i x hi hk hx
      obtain ⟨k, rfl⟩ : ∃ j, k = j + 1 := ⟨k - 1, by omega⟩
      rw [f99_l0_eq, ltI_f (by omega)]; rfl
    | succ j ih =>
      intro k i x hi hk hx
      obtain ⟨k, rfl⟩ : ∃ j, k = j + 1 := ⟨k - 1, by omega⟩
      obtain ⟨e1, e2⟩ := hn.1 i (by omega)
      have ih' := ih k (i + 1) (x - 1) (by omega) (by omega) (by omega)
      simp only [seekV]
      rw [f99_l0_eq, ltI_t (by omega), cond_true, e1, step1, toBlob_b, e2, step1, toBool_b, nonceAt_succ, w64 (by omega) (by omega), ih']
      cases okV (idV h ls ts (nonceAt nc i)) t <;> rfl
  rw [f99_run, f99_eq]
  have := key tries.toNat n 0 tries (by omega) (by omega) (by omega)
  rwa [nonceAt_0 H.n0 H.n1] at this

end Go.Proofs.Ytncajhkogppojaa.Ev
