/- Blocks: both programs make, check and compare them alike. -/
import Derived.Test.YtogehijjhibdkaaGreatEvPLinks
import Derived.Test.YtogehijjhibdkaaGreatEvPTxs
namespace Go.Proofs.YtogehijjhibdkaaGreat.Ev
open Go Go.RowKit

abbrev Hd (h : Int) (b c : List UInt8) (n : Int) : AV := .agg [.int h, .blob b, .blob c, .int n]
abbrev Blk (h : Int) (b c : List UInt8) (n : Int) (l : List AV) : AV := .agg [Hd h b c n, .slice l]

theorem make_runs {h n : Int} {v l : List AV} (hv : v.length ≤ 100000) (hb : Blob32 v) (hl : l.length ≤ 100000) (hs : Shorter l) : RunsX 112 [.int h, .slice v, .slice l, .int n] ⟨[Blk h (linkR v) (txR l) n l], [], false⟩ := by
  refine Evt.succ (((linkRoot_runs hv hb).and (txRoot_runs hl hs)).mono fun m hm => ?_)
  rw [f112_run, f112_eq, hm.1, step1, hm.2, step1, show Nat.ble (l.length * 16) 140737488355328 = true from Nat.ble_eq_true_of_le (by omega), cond_true]; rfl
/- checking -/
def checkV (h : Int) (b c : List UInt8) (l : List AV) (h' : Int) (v : List AV) : Int :=
  bif eqI h h' then bif eqI (mayV l) 0 then bif eqS (linkR v) b && eqS (txR l) c then 0 else 12 else mayV l else 8

theorem check_runs {h n h' : Int} {b c : List UInt8} {v l : List AV} (hv : v.length ≤ 100000) (hb : Blob32 v) (hl : l.length ≤ 100000) (hs : Shorter l) : RunsX 72 [Blk h b c n l, .int h', .slice v] ⟨[.int (checkV h b c l h' v)], [], false⟩ := by
  refine Evt.succ (((txMay_runs hl).and (make_runs (h := h') (n := n) hv hb hl hs)).mono fun m hm => ?_)
  unfold checkV
  rw [f72_run, f72_eq, hm.1, step1, toInt_i, hm.2, step1]
  have e0 : (((AV.fld (Blk h' (linkR v) (txR l) n l) 0).fld 0).toInt) = h' := rfl
  have e1 : (((AV.fld (Blk h' (linkR v) (txR l) n l) 0).fld 1).toBlob) = linkR v := rfl
  have e2 : (((AV.fld (Blk h' (linkR v) (txR l) n l) 0).fld 2).toBlob) = txR l := rfl
  have e3 : (((AV.fld (Blk h' (linkR v) (txR l) n l) 0).fld 3).toInt) = n := rfl
  rw [e0, e1, e2, e3, eqI_t (a := n) rfl]
  by_cases hh : h = h'
  · rw [eqI_t hh, eqI_t hh.symm]
    cases eqI (mayV l) 0 <;> cases eqS (linkR v) b <;> cases eqS (txR l) c <;> rfl
  · rw [eqI_f hh]; rfl

theorem eqS_comm' (a b : List UInt8) : eqS a b = eqS b a := by
  by_cases h : a = b
  · rw [eqS_t h, eqS_t h.symm]
  · rw [eqS_f h, eqS_f (fun e => h e.symm)]

/- comparing -/
def eqTx (l m : List AV) : Nat → Nat → Bool
  | 0, _ => true
  | j + 1, i => eqS (nth l i).toStr (nth m i).toStr && eqTx l m j (i + 1)
theorem eqTx_refl (l : List AV) : ∀ j i, eqTx l l j i = true
  | 0, _ => rfl
  | j + 1, i => by simp only [eqTx]; rw [eqS_t rfl, eqTx_refl l j]; rfl

def sameV (h : Int) (b c : List UInt8) (n : Int) (l : List AV) (h' : Int) (b' c' : List UInt8) (n' : Int) (m : List AV) : Bool :=
  (eqI h h' && (eqS b b' && (eqS c c' && (eqI n n' && true)))) && (eqI (l.length : Int) (m.length : Int) && eqTx l m l.length 0)
theorem sameV_refl (h : Int) (b c : List UInt8) (n : Int) (l : List AV) : sameV h b c n l h b c n l = true := by
  unfold sameV
  rw [eqI_t rfl, eqS_t rfl, eqS_t rfl, eqI_t rfl, eqI_t rfl, eqTx_refl]; rfl

theorem much22_l0 (run : Run) (n : Nat) (l : List AV) (hl : l.length ≤ maxLen) : ∀ (j k i : Nat) (x : Int), 1100 - i = j → i ≤ l.length → j < k → ∃ b, (b = false → l.length ≤ 1050) ∧ f37_l0 run n k l x (i : Int) = some ⟨[.bool b], [], false⟩ := by
  rw [maxLen_eq] at hl
  have fin2 : ∀ x : Int, ∃ b, (b = false → l.length ≤ 1050) ∧ (bif ltI 1050 (l.length : Int) then some ⟨[.bool true], [], false⟩ else some ⟨[.bool (ltI 6000 x)], [], false⟩) = some (⟨[.bool b], [], false⟩ : Res) := by
    intro x
    by_cases h : 1050 < (l.length : Int)
    · exact ⟨true, (fun h => by cases h), by rw [ltI_t h]; rfl⟩
    · exact ⟨ltI 6000 x, (fun _ => by omega), by rw [ltI_f h]; rfl⟩
  have fin : ∀ x : Int, ∃ b, (b = false → l.length ≤ 1050) ∧ (bif ltI 60 (l.length : Int) then bif leI (l.length : Int) 1024 then some ⟨[.bool true], [], false⟩ else (bif ltI 1050 (l.length : Int) then some ⟨[.bool true], [], false⟩ else some ⟨[.bool (ltI 6000 x)], [], false⟩) else (bif ltI 1050 (l.length : Int) then some ⟨[.bool true], [], false⟩ else some ⟨[.bool (ltI 6000 x)], [], false⟩)) = some (⟨[.bool b], [], false⟩ : Res) := by
    intro x
    cases ltI 60 (l.length : Int)
    · exact fin2 x
    · cases leI (l.length : Int) 1024
      · exact fin2 x
      · exact ⟨true, (fun h => by cases h), rfl⟩
  intro j
  induction j with
  | zero =>
    intro k i x hi _ hk
    obtain ⟨k, rfl⟩ : ∃ j, k = j + 1 := ⟨k - 1, by omega⟩
    rw [f37_l0_eq, ltI_f (a := (i : Int)) (b := 1100) (by omega)]
    cases ltI (i : Int) l.length
    · exact fin x
    · exact fin x
  | succ j ih =>
    intro k i x hi hil hk
    obtain ⟨k, rfl⟩ : ∃ j, k = j + 1 := ⟨k - 1, by omega⟩
    rw [f37_l0_eq]
    by_cases h : i < l.length
    · rw [ltI_t (a := (i : Int)) (b := (l.length : Int)) (by omega), ltI_t (a := (i : Int)) (b := 1100) (by omega), cond_true, cond_true, inR_nat h, cond_true, w64 (x := (i : Int) + 1) (by omega) (by omega)]
      have := ih k (i + 1) (mn2 (IntKind.wrap .i64 (IntKind.wrap .i64 (x + 1) + (((nth l (Int.toNat i)).toStr).length : Int))) 1048576) (by omega) (by omega) (by omega)
      rw [show ((i + 1 : Nat) : Int) = (i : Int) + 1 by omega] at this
      exact this
    · rw [ltI_f (a := (i : Int)) (b := (l.length : Int)) (by omega), cond_false]
      exact fin x

theorem much22_runs {l : List AV} (hl : l.length ≤ maxLen) : ∃ b, (b = false → l.length ≤ 1050) ∧ RunsX 37 [.slice l] ⟨[.bool b], [], false⟩ := by
  obtain ⟨b, h0, h⟩ := much22_l0 (runE G ext 1200) 1200 l hl 1100 1200 0 0 rfl (by omega) (by omega)
  exact ⟨b, h0, RunsX.of_eval 1201 (by rw [f37_run, f37_eq]; exact h)⟩

theorem blkE (h : Int) (b c : List UInt8) (n : Int) (l : List AV) : (AV.agg [.agg [.int (((AV.fld (Blk h b c n l) 0).fld 0).toInt), .blob (((AV.fld (Blk h b c n l) 0).fld 1).toBlob), .blob (((AV.fld (Blk h b c n l) 0).fld 2).toBlob), .int (((AV.fld (Blk h b c n l) 0).fld 3).toInt)], .slice ((AV.fld (Blk h b c n l) 1).toSlice)]) = Blk h b c n l := rfl

theorem nil_blob : Blob32 [] := fun y hy => by cases hy
theorem nil_short : Shorter [] := fun i hi => by simp at hi

theorem txs_of {y : AV} {t : Ty} (h : (Ty.struct [t, .slice .str]).Has y) : ((y.fld 1).toSlice).length ≤ maxLen ∧ Shorter ((y.fld 1).toSlice) := by
  obtain ⟨l0, rfl, y0, s0, rfl, _, y1, s1, rfl, ⟨l, rfl, hl, _, hx⟩, rfl⟩ := h
  exact ⟨hl, shorter_of hx⟩
end Go.Proofs.YtogehijjhibdkaaGreat.Ev
