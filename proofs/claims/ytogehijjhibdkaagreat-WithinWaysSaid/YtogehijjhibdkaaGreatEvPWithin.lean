/- Infix proofs beside proofs: both programs tell the same of them. -/
import Derived.Test.YtogehijjhibdkaaGreatEvPValid
import Derived.Test.YtogehijjhibdkaaGreatEvPTxC
namespace Go.Proofs.YtogehijjhibdkaaGreat.Ev
open Go Go.RowKit

abbrev Ix (at_ : Int) (st : List AV) (bi bn : Int) (bp : List AV) (w : Int) (tx : List UInt8) (oi om : Int) (op : List AV) : AV :=
  .agg [.int at_, .slice st, .agg [.int bi, .int bn, .slice bp], .int w, .str tx, .agg [.int oi, .int om, .slice op]]
def placeV (n at_ w : Int) (m : Nat) : Int :=
  bif ltI at_ 0 then 15 else bif leI n at_ then 15 else bif ltI w 0 then 15 else bif leI (mx2 (m : Int) 1) w then 15 else bif ltI 0 (m : Int) && eqI at_ 0 then 15 else bif ltI 1024 (m : Int) then 4 else 0
theorem placeV_zero {n at_ w : Int} {m : Nat} (h : placeV n at_ w m = 0) : 0 ≤ at_ ∧ at_ < n ∧ 0 ≤ w ∧ w < max (m : Int) 1 ∧ (0 < m → at_ ≠ 0) ∧ m ≤ 1024 := by
  unfold placeV at h
  by_cases h1 : at_ < 0
  · rw [ltI_t h1, cond_true] at h; exact absurd h (by decide)
  rw [ltI_f h1, cond_false] at h
  by_cases h2 : n ≤ at_
  · rw [leI_t h2, cond_true] at h; exact absurd h (by decide)
  rw [leI_f h2, cond_false] at h
  by_cases h3 : w < 0
  · rw [ltI_t h3, cond_true] at h; exact absurd h (by decide)
  rw [ltI_f h3, cond_false, mx2_eq] at h
  by_cases h4 : max (m : Int) 1 ≤ w
  · rw [leI_t h4, cond_true] at h; exact absurd h (by decide)
  rw [leI_f h4, cond_false] at h
  by_cases h5 : 0 < (m : Int) ∧ at_ = 0
  · rw [ltI_t h5.1, eqI_t h5.2, Bool.true_and, cond_true] at h; exact absurd h (by decide)
  have h6 : (ltI 0 (m : Int) && eqI at_ 0) = false := by
    by_cases h7 : 0 < (m : Int)
    · rw [ltI_t h7, eqI_f (fun he => h5 ⟨h7, he⟩)]; rfl
    · rw [ltI_f h7]; rfl
  rw [h6, cond_false] at h
  by_cases h8 : 1024 < (m : Int)
  · rw [ltI_t h8, cond_true] at h; exact absurd h (by decide)
  exact ⟨by omega, by omega, by omega, by omega, fun hm he => h5 ⟨by omega, he⟩, by omega⟩
theorem placeV_ok {n at_ w : Int} {m : Nat} (h : 0 ≤ at_ ∧ at_ < n ∧ 0 ≤ w ∧ w < max (m : Int) 1 ∧ (0 < m → at_ ≠ 0) ∧ m ≤ 1024) : placeV n at_ w m = 0 := by
  obtain ⟨h1, h2, h3, h4, h5, h6⟩ := h
  have h7 : (ltI 0 (m : Int) && eqI at_ 0) = false := by
    by_cases h7 : 0 < (m : Int)
    · rw [eqI_f (h5 (by omega)), Bool.and_false]
    · rw [ltI_f h7]; rfl
  unfold placeV
  rw [ltI_f (by omega), leI_f (by omega), ltI_f (by omega), mx2_eq, leI_f (by omega), h7, ltI_f (by omega)]; rfl

def oneA (t : List UInt8) (s a : AV) (below : Int) : Int :=
  bif !(ltI (a.fld 0).toInt ((s.fld 0).fld 0).toInt) then 8 else bif leI below ((s.fld 0).fld 0).toInt then 8 else bif !(okV (idA (s.fld 0)) t) then 9 else bif !(holdsA s a) then 10 else 0
def aheadA (a0 : AV) (st : List AV) (i : Nat) : AV := if i = 0 then a0 else (nth st (i - 1)).fld 0
def innerL (t : List UInt8) (st : List AV) (a0 top : AV) (bi bn : Int) (bp : List AV) : Nat → Nat → Int
  | 0, i => bif !(leadsV (top.fld 1).toBlob (idA (aheadA a0 st i)) bi bn bp) then 10 else 0
  | j + 1, i => bif !(eqI (oneA t (nth st i) (aheadA a0 st i) (top.fld 0).toInt) 0) then oneA t (nth st i) (aheadA a0 st i) (top.fld 0).toInt else innerL t st a0 top bi bn bp j (i + 1)
def innerV (t : List UInt8) (l : List AV) (p : Nat) (st : List AV) (bi bn : Int) (bp : List AV) : Int :=
  bif eqI (st.length : Int) 0 then (bif !(eqI bi 0 && (eqI bn 0 && eqI (bp.length : Int) 0)) then 2 else 0)
  else innerL t st ((nth l (p - 1)).fld 0) ((nth l p).fld 0) bi bn bp st.length 0
def blkA (l : List AV) (p : Nat) (st : List AV) (w : Nat) : AV := bif ltI 0 (st.length : Int) then (nth st w).fld 0 else (nth l p).fld 0
def withinV (t : List UInt8) (l : List AV) (at_ : Int) (st : List AV) (bi bn : Int) (bp : List AV) (w : Int) (tx : List UInt8) (oi om : Int) (op : List AV) : Int :=
  bif !(eqI (placeV (l.length : Int) at_ w st.length) 0) then placeV (l.length : Int) at_ w st.length
  else bif !(eqI (innerV t l at_.toNat st bi bn bp) 0) then innerV t l at_.toNat st bi bn bp
  else bif !(txChkV ((blkA l at_.toNat st w.toNat).fld 2).toBlob tx oi om op) then 14 else 0
def blockV (l : List AV) (at_ : Int) (st : List AV) (w : Int) : List AV :=
  bif !(eqI (placeV (l.length : Int) at_ w st.length) 0) then [.agg [.int 0, .blob (List.replicate 32 0), .blob (List.replicate 32 0), .int 0], .bool false]
  else [headN (blkA l at_.toNat st w.toNat), .bool true]

section
variable {t : List UInt8} {l : List AV} {at_ : Int} {st : List AV} {bi bn : Int} {bp : List AV} {w : Int} {tx : List UInt8} {oi om : Int} {op : List AV}
theorem place_runs {n : Int} : RunsX 69 [.int n, Ix at_ st bi bn bp w tx oi om op] ⟨[.int (placeV n at_ w st.length)], [], false⟩ := by
  refine Evt.succ (.of fun k => ?_)
  unfold placeV
  rw [f69_run, f69_eq]
  cases ltI at_ 0
  · cases leI n at_
    · cases ltI w 0
      · cases leI (mx2 (st.length : Int) 1) w
        · cases ltI 0 (st.length : Int)
          · cases ltI 1024 (st.length : Int) <;> rfl
          · cases eqI at_ 0
            · cases ltI 1024 (st.length : Int) <;> rfl
            · rfl
        · rfl
      · rfl
    · rfl
  · rfl

theorem one_runs {s a : AV} {below : Int} (ht : t.length = 32) (hs : StepA s) (ha : HeadA a) :
    RunsX 109 [.blob t, .agg [.agg [.int ((s.fld 0).fld 0).toInt, .blob ((s.fld 0).fld 1).toBlob, .blob ((s.fld 0).fld 2).toBlob, .int ((s.fld 0).fld 3).toInt], .agg [.int ((s.fld 1).fld 0).toInt, .int ((s.fld 1).fld 1).toInt, .slice ((s.fld 1).fld 2).toSlice]], .agg [.int (a.fld 0).toInt, .blob (a.fld 1).toBlob, .blob (a.fld 2).toBlob, .int (a.fld 3).toInt], .int below] ⟨[.int (oneA t s a below)], [], false⟩ := by
  have r1 := above_runs (h := ((s.fld 0).fld 0).toInt) (ls := ((s.fld 0).fld 1).toBlob) (ts := ((s.fld 0).fld 2).toBlob) (nc := ((s.fld 0).fld 3).toInt) (h' := (a.fld 0).toInt) (ls' := (a.fld 1).toBlob) (ts' := (a.fld 2).toBlob) (nc' := (a.fld 3).toInt)
  have r4 := holds_runs' (h := ((s.fld 0).fld 0).toInt) (ls := ((s.fld 0).fld 1).toBlob) (ts := ((s.fld 0).fld 2).toBlob) (nc := ((s.fld 0).fld 3).toInt) (i := ((s.fld 1).fld 0).toInt) (n := ((s.fld 1).fld 1).toInt) hs.2 ha
  have r3 := workOk_runs (idA_len (s.fld 0)) ht
  refine Evt.succ (((r1.and (id_runs hs.1)).and (r3.and r4)).mono fun n hn => ?_)
  obtain ⟨⟨g1, g2⟩, g3, g4⟩ := hn
  unfold idA at g3
  unfold oneA holdsA
  rw [f109_run, f109_eq, g1, step1, toBool_b, g2, step1, toBlob_b, g3, step1, toBool_b, g4, step1, toBool_b]
  cases ltI (a.fld 0).toInt ((s.fld 0).fld 0).toInt
  · rfl
  · cases leI below ((s.fld 0).fld 0).toInt
    · change (bif !true then _ else bif false then _ else bif !(okV (idA (s.fld 0)) t) then _ else bif !(leadsV ((s.fld 0).fld 1).toBlob (idA a) ((s.fld 1).fld 0).toInt ((s.fld 1).fld 1).toInt ((s.fld 1).fld 2).toSlice) then _ else _) = _
      cases okV (idA (s.fld 0)) t
      · rfl
      · cases leadsV ((s.fld 0).fld 1).toBlob (idA a) ((s.fld 1).fld 0).toInt ((s.fld 1).fld 1).toInt ((s.fld 1).fld 2).toSlice <;> rfl
    · rfl

theorem aheadA_ok {a0 : AV} (h0 : HeadA a0) (hs : Steps st) {i : Nat} (hi : i ≤ st.length) : HeadA (aheadA a0 st i) := by
  unfold aheadA
  by_cases h : i = 0
  · rw [if_pos h]; exact h0
  · rw [if_neg h]; exact (hs (i - 1) (by omega)).1
theorem inner_runs (ht : t.length = 32) (hl : l.length ≤ 100000) (hst : st.length ≤ 100000) (hL : Steps l) (hS : Steps st) (hb : Blob32 bp) (hp : placeV (l.length : Int) at_ w st.length = 0) :
    RunsX 70 [.blob t, .slice l, Ix at_ st bi bn bp w tx oi om op] ⟨[.int (innerV t l at_.toNat st bi bn bp)], [], false⟩ := by
  obtain ⟨p1, p2, p3, p4, p5, p6⟩ := placeV_zero hp
  unfold innerV
  by_cases h0 : (st.length : Int) = 0
  · refine Evt.succ ((none_runs (a := bi) (b := bn) (l := bp)).mono fun n hn => ?_)
    rw [f70_run, f70_eq, eqI_t h0, cond_true, cond_true, hn, step1, toBool_b]
    cases (eqI bi 0 && (eqI bn 0 && eqI (bp.length : Int) 0)) <;> rfl
  · obtain ⟨p, hpp⟩ : ∃ p : Nat, at_ = (p : Int) := ⟨at_.toNat, by omega⟩
    subst hpp
    have hp1 : 1 ≤ p := by have := p5 (by omega); omega
    have ha0 := (hL (p - 1) (by omega)).1
    have hall := Evt.all st.length fun i (hi : i < st.length) => one_runs (s := nth st i) (a := aheadA ((nth l (p - 1)).fld 0) st i) (below := (((nth l p).fld 0).fld 0).toInt) ht (hS i hi) (aheadA_ok ha0 hS (by omega))
    have r2 := holds_runs' (h := (((nth l p).fld 0).fld 0).toInt) (ls := (((nth l p).fld 0).fld 1).toBlob) (ts := (((nth l p).fld 0).fld 2).toBlob) (nc := (((nth l p).fld 0).fld 3).toInt) (i := bi) (n := bn) hb (aheadA_ok ha0 hS (Nat.le_refl st.length))
    refine Evt.succ (((hall.and r2).and (Evt.ge (st.length + 2))).mono fun n hn => ?_)
    obtain ⟨⟨g1, g2⟩, g3⟩ := hn
    have key : ∀ (j k i : Nat), i + j = st.length → j < k → f70_l0 (runE G ext n) n k st (st.length : Int) (i : Int) t (p : Int) st bi bn bp w tx oi om op
        ((aheadA ((nth l (p - 1)).fld 0) st i).fld 0).toInt ((aheadA ((nth l (p - 1)).fld 0) st i).fld 1).toBlob ((aheadA ((nth l (p - 1)).fld 0) st i).fld 2).toBlob ((aheadA ((nth l (p - 1)).fld 0) st i).fld 3).toInt
        (((nth l p).fld 0).fld 0).toInt (((nth l p).fld 0).fld 1).toBlob (((nth l p).fld 0).fld 2).toBlob (((nth l p).fld 0).fld 3).toInt = some ⟨[.int (innerL t st ((nth l (p - 1)).fld 0) ((nth l p).fld 0) bi bn bp j i)], [], false⟩ := by
      intro j
      induction j with
      | zero =>
        intro k i hi hk
        obtain ⟨k, rfl⟩ : ∃ j, k = j + 1 := ⟨k - 1, by omega⟩
        obtain rfl : i = st.length := by omega
        rw [f70_l0_eq, ltI_f (by omega), cond_false, g2, step1, toBool_b]
        simp only [innerL]
        change (bif !(leadsV (((nth l p).fld 0).fld 1).toBlob (idA (aheadA ((nth l (p - 1)).fld 0) st st.length)) bi bn bp) then _ else _) = _
        cases leadsV (((nth l p).fld 0).fld 1).toBlob (idA (aheadA ((nth l (p - 1)).fld 0) st st.length)) bi bn bp <;> rfl
      | succ j ih =>
        intro k i hi hk
        obtain ⟨k, rfl⟩ : ∃ j, k = j + 1 := ⟨k - 1, by omega⟩
        have ih' := ih k (i + 1) (by omega) (by omega)
        have e := g1 i (by omega)
        have ea : aheadA ((nth l (p - 1)).fld 0) st (i + 1) = (nth st i).fld 0 := by
          unfold aheadA; rw [if_neg (by omega), Nat.add_sub_cancel]
        rw [show ((i + 1 : Nat) : Int) = (i : Int) + 1 by omega, ea] at ih'
        simp only [innerL]
        rw [f70_l0_eq, ltI_t (by omega), cond_true, inR_nat (by omega), cond_true, Int.toNat_natCast, e, step1, toInt_i, w64 (x := (i : Int) + 1) (by omega) (by omega), ih']
        cases eqI (oneA t (nth st i) (aheadA ((nth l (p - 1)).fld 0) st i) (((nth l p).fld 0).fld 0).toInt) 0 <;> rfl
    rw [f70_run, f70_eq, eqI_f h0, cond_false, cond_false, w64 (x := (p : Int) - 1) (by omega) (by omega), show (p : Int) - 1 = ((p - 1 : Nat) : Int) by omega, inR_nat (by omega), cond_true, inR_nat (by omega), cond_true, Int.toNat_natCast, Int.toNat_natCast]
    have := key st.length n 0 (by omega) (by omega)
    exact this

theorem block_runs : RunsX 35 [.slice l, Ix at_ st bi bn bp w tx oi om op] ⟨blockV l at_ st w, [], false⟩ := by
  refine Evt.succ ((place_runs (n := (l.length : Int)) (at_ := at_) (st := st) (bi := bi) (bn := bn) (bp := bp) (w := w) (tx := tx) (oi := oi) (om := om) (op := op)).mono fun n hn => ?_)
  unfold blockV
  rw [f35_run, f35_eq, hn, step1, toInt_i]
  by_cases hp : placeV (l.length : Int) at_ w st.length = 0
  · obtain ⟨p1, p2, p3, p4, p5, p6⟩ := placeV_zero hp
    unfold blkA
    rw [eqI_t hp, not_t, cond_false, cond_false]
    by_cases h0 : 0 < (st.length : Int)
    · rw [ltI_t h0, cond_true, inR_int p3 (by omega)]; rfl
    · rw [ltI_f h0, cond_false, inR_int p1 p2]; rfl
  · rw [eqI_f hp]; rfl

theorem within_runs (ht : t.length = 32) (hl : l.length ≤ 100000) (hst : st.length ≤ 100000) (hL : Steps l) (hS : Steps st) (hb : Blob32 bp) (ho : Blob32 op) (hx : tx.length ≤ 140737488351232) :
    RunsX 36 [.blob t, .slice l, Ix at_ st bi bn bp w tx oi om op] ⟨[.int (withinV t l at_ st bi bn bp w tx oi om op)], [], false⟩ := by
  have r1 := place_runs (n := (l.length : Int)) (at_ := at_) (st := st) (bi := bi) (bn := bn) (bp := bp) (w := w) (tx := tx) (oi := oi) (om := om) (op := op)
  have r3 := block_runs (l := l) (at_ := at_) (st := st) (bi := bi) (bn := bn) (bp := bp) (w := w) (tx := tx) (oi := oi) (om := om) (op := op)
  unfold withinV
  by_cases hp : placeV (l.length : Int) at_ w st.length = 0
  · have r2 := inner_runs (t := t) (l := l) (at_ := at_) (st := st) (bi := bi) (bn := bn) (bp := bp) (w := w) (tx := tx) (oi := oi) (om := om) (op := op) ht hl hst hL hS hb hp
    have r4 := txCheck_runs (root := ((blkA l at_.toNat st w.toNat).fld 2).toBlob) (s := tx) (i := oi) (n := om) hx ho
    unfold blockV at r3
    rw [eqI_t hp, not_t, cond_false] at r3
    refine Evt.succ (((r1.and r2).and (r3.and r4)).mono fun n hn => ?_)
    obtain ⟨⟨g1, g2⟩, g3, g4⟩ := hn
    have e : ((headN (blkA l at_.toNat st w.toNat)).fld 2).toBlob = ((blkA l at_.toNat st w.toNat).fld 2).toBlob := rfl
    rw [f36_run, f36_eq, g1, step1, toInt_i, eqI_t hp, not_t, cond_false, cond_false, g2, step1, toInt_i, g3, step2, e, g4, step1, toBool_b]
    cases eqI (innerV t l at_.toNat st bi bn bp) 0
    · rfl
    · cases txChkV ((blkA l at_.toNat st w.toNat).fld 2).toBlob tx oi om op <;> rfl
  · refine Evt.succ (r1.mono fun n hn => ?_)
    rw [f36_run, f36_eq, hn, step1, toInt_i, eqI_f hp]; rfl

end

def step7 : AV := .agg [.agg [.int 0, .blob (List.replicate 32 0), .blob (List.replicate 32 0), .int 7], .agg [.int 0, .int 0, .slice []]]
theorem withinAwake : RunsX 34 [] ⟨[.bool true], [], false⟩ := by
  have hn : Steps ([] : List AV) := fun i hi => by simp at hi
  have r1 := block_runs (l := [step7]) (at_ := 0) (st := []) (bi := 0) (bn := 0) (bp := []) (w := 0) (tx := []) (oi := 0) (om := 0) (op := [])
  have r2 := within_runs (t := List.replicate 32 0) (l := []) (at_ := 0) (st := []) (bi := 0) (bn := 0) (bp := []) (w := 0) (tx := []) (oi := 0) (om := 0) (op := []) (by simp) (by simp) (by simp) hn hn no_blobs no_blobs (by simp)
  have e1 : blockV [step7] 0 [] 0 = [.agg [.int 0, .blob (List.replicate 32 0), .blob (List.replicate 32 0), .int 7], .bool true] := rfl
  have e2 : withinV (List.replicate 32 0) [] 0 [] 0 0 [] 0 [] 0 0 [] = 15 := rfl
  have z : (List.replicate 32 (0 : UInt8)) = [0, 0, 0, 0, 0, 0, 0, 0, 0, 0, 0, 0, 0, 0, 0, 0, 0, 0, 0, 0, 0, 0, 0, 0, 0, 0, 0, 0, 0, 0, 0, 0] := rfl
  rw [e1] at r1
  rw [e2, z] at r2
  unfold step7 at r1
  refine Evt.succ ((r1.and r2).mono fun n hn => ?_)
  rw [f34_run, f34_eq, hn.1, step2, hn.2, step1]
  rfl

abbrev infixTy : Ty := .struct [.int .i64, .slice stepTy, openTy, .int .i64, .str, openTy]
theorem infix_of {y : AV} (h : infixTy.Has y) : ∃ at_ st bi bn bp w tx oi om op, y = Ix at_ st bi bn bp w tx oi om op ∧ st.length ≤ maxLen ∧ Steps st ∧ Blob32 bp ∧ Blob32 op ∧ (∀ (i : Nat) y, st[i]? = some y → stepTy.Has y) := by
  obtain ⟨l0, rfl, y0, s0, rfl, ⟨a, rfl, ha⟩, y1, s1, rfl, ⟨st, rfl, hst, _, hS⟩, y2, s2, rfl, ⟨l1, rfl, z0, t0, rfl, ⟨bi, rfl, _⟩, z1, t1, rfl, ⟨bn, rfl, _⟩, z2, t2, rfl, ⟨bp, rfl, _, _, hb⟩, rfl⟩, y3, s3, rfl, ⟨w, rfl, _⟩, y4, s4, rfl, ⟨tx, rfl, _⟩, y5, s5, rfl, ⟨l2, rfl, x0, u0, rfl, ⟨oi, rfl, _⟩, x1, u1, rfl, ⟨om, rfl, _⟩, x2, u2, rfl, ⟨op, rfl, _, _, ho⟩, rfl⟩, rfl⟩ := h
  exact ⟨a, st, bi, bn, bp, w, tx, oi, om, op, rfl, hst, steps_of hS, blob32_of hb, blob32_of ho, hS⟩

theorem nth_app {l m : List AV} {i : Nat} (h : i < l.length) : nth (l ++ m) i = nth l i := by
  rw [nth_lt (by rw [List.length_append]; omega), nth_lt h, List.getElem_append_left h]
theorem withinV_app {t : List UInt8} {l m : List AV} {at_ : Int} {st : List AV} {bi bn : Int} {bp : List AV} {w : Int} {tx : List UInt8} {oi om : Int} {op : List AV}
    (h : withinV t l at_ st bi bn bp w tx oi om op = 0) : withinV t (l ++ m) at_ st bi bn bp w tx oi om op = 0 := by
  unfold withinV at h
  by_cases hp : placeV (l.length : Int) at_ w st.length = 0
  · have P := placeV_zero hp
    have hp2 : placeV ((l ++ m).length : Int) at_ w st.length = 0 := placeV_ok ⟨P.1, by rw [List.length_append]; omega, P.2.2⟩
    rw [eqI_t hp, not_t, cond_false] at h
    unfold withinV
    rw [eqI_t hp2, not_t, cond_false]
    have e1 : nth (l ++ m) at_.toNat = nth l at_.toNat := nth_app (by omega)
    have e2 : nth (l ++ m) (at_.toNat - 1) = nth l (at_.toNat - 1) := nth_app (by omega)
    have e3 : innerV t (l ++ m) at_.toNat st bi bn bp = innerV t l at_.toNat st bi bn bp := by unfold innerV; rw [e1, e2]
    have e4 : blkA (l ++ m) at_.toNat st w.toNat = blkA l at_.toNat st w.toNat := by unfold blkA; rw [e1]
    rw [e3, e4]
    exact h
  · rw [eqI_f hp, not_f, cond_true] at h
    exact absurd h hp
end Go.Proofs.YtogehijjhibdkaaGreat.Ev
