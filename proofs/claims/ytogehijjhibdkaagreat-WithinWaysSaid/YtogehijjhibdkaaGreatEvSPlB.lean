/- up.Places: a range over a function: what it hands back. -/
import Derived.RangeFuncBox
import Derived.RangeFuncLeaves
import Derived.RangeFuncFrom
import Derived.Shelf.Abstract
import Derived.Shelf.RegionOpen
import Derived.WalkKit
import Derived.OwnWalkIn
import Derived.TacticsInMore
import Derived.LoopNIn
import Derived.LoopIn
import Derived.Maps.AppendAt
import Derived.Test.YtogehijjhibdkaaGreatEvSPlA
namespace Go.Proofs
open Go.RowKit Go.Shelf

attribute [local go_sem] Oper.semAt_some

theorem Tryz.own_base {w : World} {B B' e sz k : Nat} {v : Value} {xs : List Value} (h : w.ownsRow B e sz v k xs) (hb : B' ≤ B) : w.ownsRow B' e sz v k xs := by
  refine ⟨h.1, ?_⟩
  rcases h.2 with h2 | ⟨g, cap, cur, e1, e2, e3⟩
  · exact .inl h2
  · exact .inr ⟨g, cap, cur, e1, Nat.le_trans hb e2, e3⟩

theorem Tryz.info_int : (Tryz.prog.info? 3).map (fun i => (i.zero, i.size, i.bytes)) = some (some (.int .i64 0), 1, 8) := by kernel_rfl

theorem Tryz.own_cell {w : World} {base e k cap g : Nat} {xs : List Value} (h : w.ownsRow base e 1 (.slice (some ⟨g, 0, none⟩) k cap) k xs) : ∀ j u, xs[j]? = some u → w.cell? ((⟨g, 0, none⟩ : Addr).add j) = some u := by
  rcases h.2 with ⟨e, _⟩ | ⟨g2, cap2, cur, e, _, hb, h1, h2, h3, h4⟩
  · cases e
  · cases e
    intro j u hj
    rw [← h4, List.getElem?_take] at hj
    split at hj
    · have e : (⟨g, 0, none⟩ : Addr).add j = ⟨g, j, none⟩ := by unfold Addr.add; split <;> simp_all
      rw [e]
      simp [World.cell?, hb]
      simpa using hj
    · cases hj

/-- What the walk owes behind 'out = append(out, i)'. -/
theorem Tryz.places_back {w3 W w1 : World} {o : Obj} {ad : Option Addr} {n0 ln b off cp g2 cap2 k : Nat} {level : Int} {zs : List Int} {pre : List Int} {x : Int} {row : Option Nat} {v : Value}
    (h1 : n0 + 1 < w3.heap.size) (h3 : n0 + 3 < w3.heap.size) (hsz : w3.heap.size = n0 + 4) (hb : 0 < ln → b < n0) (hB : Below n0 w3 W) (hv2 : Boxed w1 n0 38 v) (hgrow : (W.alloc o).grownBy w1 row)
    (hrow : ∀ j, row = some j → w3.heap.size ≤ j ∧ ∃ o', (W.alloc o).heap[j]? = some o' ∧ o'.isCells = true) (hk : k + 1 = (pre ++ [x]).length)
    (hown : w1.ownsRow w3.heap.size 3 1 (.slice (some ⟨g2, 0, none⟩) (k + 1) cap2) (k + 1) ((pre ++ [x]).map (Value.int .i64))) :
    KeepsFrom w3.heap.size W (w1.setCell ⟨n0, 0, none⟩ (.slice (some ⟨g2, 0, none⟩) (k + 1) cap2)) ∧
    (GoodW (n0 + 1) (n0 + 1 + 1 + 1) ad b off ln cp level zs W → GoodW (n0 + 1) (n0 + 1 + 1 + 1) ad b off ln cp level zs (w1.setCell ⟨n0, 0, none⟩ (.slice (some ⟨g2, 0, none⟩) (k + 1) cap2))) ∧
    (∃ v, Boxed (w1.setCell ⟨n0, 0, none⟩ (.slice (some ⟨g2, 0, none⟩) (k + 1) cap2)) n0 38 v ∧ (w1.setCell ⟨n0, 0, none⟩ (.slice (some ⟨g2, 0, none⟩) (k + 1) cap2)).ownsRow w3.heap.size 3 1 v (pre ++ [x]).length ((pre ++ [x]).map (Value.int .i64)) ∧ (v = .slice none 0 0 ↔ pre ++ [x] = [])) ∧ Below n0 w3 (w1.setCell ⟨n0, 0, none⟩ (.slice (some ⟨g2, 0, none⟩) (k + 1) cap2)) := by
  have hsz1 := hB.size
  have hbl : Below n0 W (w1.setCell ⟨n0, 0, none⟩ (.slice (some ⟨g2, 0, none⟩) (k + 1) cap2)) := (((Below.refl n0 W).alloc (by omega) _).grown hgrow (by simp; omega) (fun j ej => by have := (hrow j ej).1; omega)).setCell (p := ⟨n0, 0, none⟩) (Nat.le_refl _) _
  have hko : KeepsOthers W (w1.setCell ⟨n0, 0, none⟩ (.slice (some ⟨g2, 0, none⟩) (k + 1) cap2)) := ((KeepsOthers.alloc W _).trans (KeepsOthers.of_grownBy hgrow fun j o' ej hj => by
    obtain ⟨o2, h5, h6⟩ := (hrow j ej).2
    rw [h5] at hj
    cases hj; exact h6)).trans (KeepsOthers.setCell _ _ _)
  have hkeep : ∀ (B : Nat) (f : Nat), B ≠ n0 → B < w3.heap.size → (w1.setCell ⟨n0, 0, none⟩ (.slice (some ⟨g2, 0, none⟩) (k + 1) cap2)).cell? ⟨B, f, none⟩ = W.cell? ⟨B, f, none⟩ := by
    intro B f hne hlt
    have e : (w1.setCell ⟨n0, 0, none⟩ (.slice (some ⟨g2, 0, none⟩) (k + 1) cap2)).heap[B]? = W.heap[B]? := by
      rw [(grownBy_setCell' w1 n0 _).block B (by
        have := (World.grownBy_alloc W o none).size
        have := hgrow.size
        omega) (by simpa using hne)]
      rw [hgrow.block B (by have := (World.grownBy_alloc W o none).size; omega) (fun e => by have := (hrow _ e.symm).1; omega)]
      exact (World.grownBy_alloc W o none).block B (by omega) (by simp)
    unfold World.cell?
    rw [e]
  refine ⟨hko.from _, ?_, ⟨_, hv2.set _, ?_, ?_⟩, hB.trans hbl⟩
  · intro g
    exact ⟨(hkeep _ _ (by omega) (by omega)).trans g.c0, (hkeep _ _ (by omega) (by omega)).trans g.c2, fun j hj => (hkeep _ _ (by have := hb (by omega); omega) (by have := hb (by omega); omega)).trans (g.cs j hj)⟩
  · rw [← hk]
    refine hown.kept (grownBy_setCell' w1 n0 _) (.inr ?_)
    rcases hown.2 with ⟨e, _⟩ | ⟨g, cap, cur, e, hg, _⟩
    · cases e
    · cases e
      simp [Value.ownBlock]
      omega
  · simp

set_option maxRecDepth 100000 in
set_option maxHeartbeats 2000000 in
theorem Tryz.places_in (m : Nat) (hm : 1 ≤ m) (ad : Option Addr) (b off ln cp s : Nat) (had : ad = some ⟨b, off, none⟩ ∨ ln = 0) (from_ level : Int) (zs : List Int) (hreach : ln ≤ 1000000000) (hs : max from_ 0 = s) (hs2 : s ≤ 9223372036854775807) (w : World) (hb : 0 < ln → b < w.heap.size)
    (hc : ∀ j, j < ln → w.cell? ⟨b, off + j, none⟩ = some (.int .i64 (zs[j]?.getD 0))) :
    CallsIn Fence.wide m Tryz.prog 46 #[.slice ad ln cp, .int .i64 from_, .int .i64 level] w fun e W' => ∃ v, e = .returned v ∧ W'.ownsRow w.heap.size 3 1 v (Tryz.hits zs s level ln).length ((Tryz.hits zs s level ln).map (Value.int .i64)) ∧ Below w.heap.size w W' := by
  obtain ⟨i0, hi, hz0, hz1, hz2⟩ := info_parts Tryz.info_int
  refine callsIn_of_wp_marks Tryz.func46 rfl trivial ?_ rfl
  simp only [Tryz.ntmps46, List.size_toArray, List.length_cons, List.length_nil, Nat.reduceAdd, Nat.reduceSub, Array.replicate_succ, Array.replicate_zero, List.push_toArray, List.append_toArray, List.nil_append, List.cons_append]
  gi_wp2_with (refine ⟨trivial, (Tryz.each_in (m - 1) _ _ _ _ _ _).mono ?_⟩; rintro e w1 ⟨rfl, rfl⟩)
  generalize hw3 : ((((w.alloc (.cells #[.slice none 0 0] 38)).alloc (.cells #[.slice ad ln cp] 38)).alloc (.cells #[.int .i64 from_] 3)).alloc (.cells #[.int .i64 level] 3)) = w3
  have bO : Boxed w3 w.heap.size 38 (.slice none 0 0) := by rw [← hw3]; exact ((((Boxed.new w 38 (.slice none 0 0)).alloc _).alloc _).alloc _)
  have b0 : Boxed w3 (w.heap.size + 1) 38 (.slice ad ln cp) := by
    rw [← hw3]
    have := Boxed.new (w.alloc (.cells #[.slice none 0 0] 38)) 38 (.slice ad ln cp)
    simp only [World.size_alloc] at this
    exact (this.alloc _).alloc _
  have b1 : Boxed w3 (w.heap.size + 1 + 1) 3 (.int .i64 from_) := by
    rw [← hw3]
    have := Boxed.new ((w.alloc (.cells #[.slice none 0 0] 38)).alloc (.cells #[.slice ad ln cp] 38)) 3 (.int .i64 from_)
    simp only [World.size_alloc] at this
    exact this.alloc _
  have b2 : Boxed w3 (w.heap.size + 1 + 1 + 1) 3 (.int .i64 level) := by
    rw [← hw3]
    have := Boxed.new (((w.alloc (.cells #[.slice none 0 0] 38)).alloc (.cells #[.slice ad ln cp] 38)).alloc (.cells #[.int .i64 from_] 3)) 3 (.int .i64 level)
    simp only [World.size_alloc] at this
    exact this
  have hsz : w3.heap.size = w.heap.size + 4 := by rw [← hw3]; simp
  have hB0 : Below w.heap.size w w3 := by
    rw [← hw3]
    exact (((((Below.refl _ w).alloc (Nat.le_refl _) _).alloc (by simp) _).alloc (by simp; omega) _).alloc (by simp; omega) _)
  have hG : GoodW (w.heap.size + 1) (w.heap.size + 1 + 1 + 1) ad b off ln cp level zs w3 := ⟨b0.cell, b2.cell, fun j hj => (hB0.cell (p := ⟨b, off + j, none⟩) (hb (by omega))).trans (hc j hj)⟩
  clear hw3
  refine wpIn_rangeFunc_ownG (n := m) rfl hm (gf := 116) (lb := #[.pointer (some ⟨w.heap.size + 1 + 1, 0, none⟩), .pointer (some ⟨w.heap.size + 1, 0, none⟩), .pointer (some ⟨w.heap.size + 1 + 1 + 1, 0, none⟩)]) rfl trivial (enters_of Tryz.func116 (by kernel_rfl) rfl)
    (Tryz.each1_stops (m - 1) ad (w.heap.size + 1 + 1) (w.heap.size + 1) (w.heap.size + 1 + 1 + 1) b off ln cp s had from_ level zs (by omega) hs hs2 w3 ⟨by omega, by omega, by omega, fun h => by have := hb h; omega⟩ b1.cell hG)
    (fun h1 h2 g => h2 (h1 g)) ?hKb (Below.refl _ _) (fun _ => rfl)
    (fun pre W => (∃ v, Boxed W w.heap.size 38 v ∧ W.ownsRow w3.heap.size 3 1 v pre.length (pre.map (Value.int .i64)) ∧ (v = .slice none 0 0 ↔ pre = [])) ∧ Below w.heap.size w3 W)
    (fun _ _ _ => False)
    (OwnFrom.and (Own.from (holdsRow_own w3.heap.size w.heap.size 38 3 1 (fun pre : List Int => pre.length) (fun pre => pre.map (Value.int .i64)) (fun pre v => v = .slice none 0 0 ↔ pre = [])) _) (ownFrom_below (by omega) (by omega)))
    (fun _ _ _ _ _ hs _ _ => hs)
    ⟨⟨_, bO, World.ownsRow_nil _ _ _ _, by simp⟩, Below.refl _ _⟩
    (fun x => { tmps := #[.slice ad ln cp, .int .i64 from_, .int .i64 level, undef, undef, undef, .slice none 0 0, .pointer (some ⟨w.heap.size, 0, none⟩), .int .i64 x, .slice ad ln cp, .int .i64 from_, .int .i64 level, .func (.func 116) #[] #[.pointer (some ⟨w.heap.size + 1 + 1, 0, none⟩), .pointer (some ⟨w.heap.size + 1, 0, none⟩), .pointer (some ⟨w.heap.size + 1 + 1 + 1, 0, none⟩)], .int .i64 x, undef, undef, undef, undef, undef], defers := [] }) ?assign ?body ?done ?stop
  case hKb =>
    intro W l o o' hl ho hc1 hw1 g
    have hbl := belowK_b (w := w3) (Nat.le_refl _) W l o o' hl ho hc1 hw1
    exact ⟨(hbl.cell (p := ⟨w.heap.size + 1, 0, none⟩) (by show w.heap.size + 1 < w3.heap.size; omega)).trans g.c0, (hbl.cell (p := ⟨w.heap.size + 1 + 1 + 1, 0, none⟩) (by show w.heap.size + 1 + 1 + 1 < w3.heap.size; omega)).trans g.c2, fun j hj => (hbl.cell (p := ⟨b, off + j, none⟩) (by have := hb (by omega); show b < w3.heap.size; omega)).trans (g.cs j hj)⟩
  case assign =>
    intro l x W K hK
    gi_wp2
    exact hK
  case body =>
    rintro l pre x W ⟨⟨v, hv, hrow, hnil⟩, hB⟩ hlt
    have hc := hv.cell
    have hc1 := (hv.alloc (.cells #[.int .i64 x] 3)).cell
    have hsz1 := hB.size
    have hnew : ∀ j u, [Value.int .i64 x][j]? = some u → (W.alloc (.cells #[.int .i64 x] 3)).cell? ((⟨W.heap.size, 0, none⟩ : Addr).add j) = some u := by
      have hown1 : (W.alloc (.cells #[.int .i64 x] 3)).ownsRow w3.heap.size 3 1 (.slice (some ⟨W.heap.size, 0, none⟩) 1 1) 1 [.int .i64 x] := ⟨rfl, .inr ⟨W.heap.size, 1, #[.int .i64 x], rfl, hsz1, World.alloc_heap_new _ _, Nat.le_refl _, by rw [show maxLen = 9223372036854775807 from rfl]; omega, rfl, rfl⟩⟩
      exact Tryz.own_cell hown1
    have hrow1 := hrow.alloc (.cells #[.int .i64 x] 3)
    have hv1 := hv.alloc (.cells #[.int .i64 x] 3)
    cases pre with
    | nil =>
      obtain rfl := hnil.2 rfl
      gi_wp2_with (gi_at_builtin; refine wpListIn_append_own _ rfl _ _ 38 rfl w3.heap.size 3 i0 (.int .i64 0) 1 8 Tryz.underlying38 hi hz0 hz1 hz2 rfl (by decide) _ 0 [] rfl hrow1 ⟨W.heap.size, 0, none⟩ 1 1 [.int .i64 x] rfl (by simp) hnew (by intro u hu; rw [List.mem_singleton.1 hu]; rfl) (by rw [show maxLen = 9223372036854775807 from rfl]; omega) (by omega) (by simp; omega) ?_; intro v' w1 hown' hgrow hnn; obtain ⟨g2, cap2, rfl⟩ := ownsRow_succ hown'; have hgrow : (W.alloc (.cells #[.int .i64 x] 3)).grownBy w1 none := hgrow; have hv2 := hv1.kept hgrow (by simp); have hcb := hv2.cell; have hfb := hv2.frozen; clear hnn)
      try rw [← hsz]
      exact Tryz.places_back (pre := []) (k := 0) (by omega) (by omega) hsz hb hB hv2 hgrow (by simp) rfl hown'
    | cons y pre =>
      obtain ⟨g', cap', rfl⟩ := ownsRow_succ hrow
      have hg' : w3.heap.size ≤ g' ∧ ∃ o, (W.alloc (.cells #[.int .i64 x] 3)).heap[g']? = some o ∧ o.isCells = true := by
        rcases hrow1.2 with ⟨e, _⟩ | ⟨g, cap, cur, e, hg, hh, _⟩
        · cases e
        · cases e; exact ⟨hg, _, hh, rfl⟩
      have hlt' : pre.length + 1 < ln := by simpa using hlt
      gi_wp2_with (gi_at_builtin; refine wpListIn_append_own _ rfl _ _ 38 rfl w3.heap.size 3 i0 (.int .i64 0) 1 8 Tryz.underlying38 hi hz0 hz1 hz2 rfl (by decide) _ ((y :: pre).length) ((y :: pre).map (Value.int .i64)) rfl hrow1 ⟨W.heap.size, 0, none⟩ 1 1 [.int .i64 x] rfl (by simp) hnew (by intro u hu; rw [List.mem_singleton.1 hu]; rfl) (by rw [show maxLen = 9223372036854775807 from rfl]; simp; omega) (by simp; omega) (by simp; omega) ?_; intro v' w1 hown' hgrow hnn; obtain ⟨g2, cap2, rfl⟩ := ownsRow_succ hown'; have hgrow : (W.alloc (.cells #[.int .i64 x] 3)).grownBy w1 (some g') := hgrow; have hv2 := hv1.kept hgrow (by simp; omega); have hcb := hv2.cell; have hfb := hv2.frozen; clear hnn)
      try rw [← hsz]
      exact Tryz.places_back (pre := y :: pre) (k := (y :: pre).length) (by omega) (by omega) hsz hb hB hv2 hgrow (by intro j e; cases e; exact hg') (by simp) (by simpa using hown')
  case done =>
    rintro D ys W hD rfl ⟨⟨v, hv, hrow, _⟩, hB⟩ hK
    have hc := hv.cell
    gi_wp2
    refine ⟨by simp, .inl ⟨_, _, rfl, run_takeDeferred hK, ?_⟩⟩
    exact ⟨_, results_tmp rfl _ _ _, v, rfl, ownsRow_putObj (Tryz.own_base (B' := w.heap.size) hrow (by omega)) _ hK rfl, (hB0.trans hB).trans (belowK_b (w := w) (Nat.le_refl _) W D _ _ (by omega) hK rfl rfl)⟩
  case stop =>
    rintro D c pre W _ _ h _
    exact h.elim

end Go.Proofs
