/- up.Places: a range over a function: what it hands back. -/
import Derived.RangeFuncBox
import Derived.RangeFuncLeaves
import Derived.RangeFuncFrom
import Derived.Shelf.Abstract
import Derived.Shelf.RegionOpen
import Derived.WalkKit
import Derived.OwnWalkIn
import Derived.TacticsInMore
import Derived.LoopNIn
import Derived.LoopIn
import Derived.Maps.AppendAt
import Derived.Test.YtogehijjhibdkaaGreatProg
namespace Go.Proofs
open Go.RowKit Go.Shelf

attribute [local go_sem] Oper.semAt_some

def Tryz.hits (zs : List Int) (s : Nat) (level : Int) (k : Nat) : List Int :=
  ((List.range k).filter fun j => decide (s ≤ j) && decide (level ≤ zs[j]?.getD 0)).map fun (j : Nat) => (j : Int)

theorem Tryz.hits_hit {zs : List Int} {s : Nat} {level : Int} {k : Nat} (h1 : s ≤ k) (h : level ≤ zs[k]?.getD 0) : Tryz.hits zs s level (k + 1) = Tryz.hits zs s level k ++ [(k : Int)] := by
  simp [Tryz.hits, List.range_succ, List.filter_append, h1, h]
theorem Tryz.hits_miss {zs : List Int} {s : Nat} {level : Int} {k : Nat} (h : ¬ level ≤ zs[k]?.getD 0) : Tryz.hits zs s level (k + 1) = Tryz.hits zs s level k := by
  simp [Tryz.hits, List.range_succ, List.filter_append, h]
theorem Tryz.hits_low {zs : List Int} {s : Nat} {level : Int} {k : Nat} (h : k ≤ s) : Tryz.hits zs s level k = [] := by
  simp [Tryz.hits]
  intro j hj hs
  omega
theorem Tryz.hits_length (zs : List Int) (s : Nat) (level : Int) (k : Nat) : (Tryz.hits zs s level k).length ≤ k := by
  unfold Tryz.hits
  rw [List.length_map]
  exact Nat.le_trans (List.length_filter_le _ _) (by simp)

structure Tryz.GoodW (B0 B2 : Nat) (ad : Option Addr) (b off len cap : Nat) (level : Int) (zs : List Int) (W : World) : Prop where
  c0 : W.cell? ⟨B0, 0, none⟩ = some (.slice ad len cap)
  c2 : W.cell? ⟨B2, 0, none⟩ = some (.int .i64 level)
  cs : ∀ j, j < len → W.cell? ⟨b, off + j, none⟩ = some (.int .i64 (zs[j]?.getD 0))

set_option maxRecDepth 100000 in
set_option maxHeartbeats 2000000 in
theorem Tryz.each1_in (m : Nat) (ad : Option Addr) (l B1 B0 B2 b off len cap s : Nat) (had : ad = some ⟨b, off, none⟩ ∨ len = 0) (from_ level : Int) (zs : List Int) (hreach : len ≤ 140737488355328) (hs : max from_ 0 = s) (hs2 : s ≤ 9223372036854775807) (J Jx : List Int → World → Prop) (W : World)
    (hJ : AbidesFrom W.heap.size J)
    (hY : ∀ pre x W, J pre W → pre.length < len → YieldAt Fence.wide (m - 1) Tryz.prog l #[.int .i64 x] W fun e W' =>
      (e = .returned (.bool true) ∧ J (pre ++ [x]) W' ∧ (GoodW B0 B2 ad b off len cap level zs W → GoodW B0 B2 ad b off len cap level zs W')) ∨ (e = .returned (.bool false) ∧ Jx (pre ++ [x]) W'))
    (hB1 : W.cell? ⟨B1, 0, none⟩ = some (.int .i64 from_)) (hG : GoodW B0 B2 ad b off len cap level zs W) (h0 : J [] W) :
    CallsIn Fence.wide m Tryz.prog 116 #[.func (.yield l) #[] #[], .pointer (some ⟨B1, 0, none⟩), .pointer (some ⟨B0, 0, none⟩), .pointer (some ⟨B2, 0, none⟩)] W fun e W' => (∃ v, e = .returned v) ∧
      ((∃ ys, ys = Tryz.hits zs s level len ∧ J ys W') ∨ (∃ pre, Jx pre W')) := by
  refine callsIn_of_wp Tryz.func116 rfl trivial ?_ rfl
  simp only [Tryz.ntmps116, List.size_toArray, List.length_cons, List.length_nil, Nat.reduceAdd, Nat.reduceSub, Array.replicate_succ, Array.replicate_zero, List.push_toArray, List.append_toArray, List.nil_append, List.cons_append]
  have hB0 := hG.c0
  by_cases hf : from_ < 0
  · have hs0 : s = 0 := by omega
    gi_wp2
    gi_loopw [5] (fun i wr => ∃ k : Nat, s ≤ k ∧ k ≤ max len s ∧ i = .int .i64 k ∧ J (Tryz.hits zs s level (min k len)) wr ∧ GoodW B0 B2 ad b off len cap level zs wr)
      (fun i _ => len - (intOf i).toNat)
    case atStart =>
      refine ⟨s, by omega, by omega, by rw [hs0]; rfl, ?_, hG⟩
      rw [Tryz.hits_low (show min s len ≤ s by omega)]
      exact h0
    case round =>
      obtain ⟨k, hk1, hk2, rfl, hJ2, hG2⟩ := hrel
      have d0 := hG2.c0
      have d2 := hG2.c2
      by_cases hk : k < len
      · obtain rfl : ad = some ⟨b, off, none⟩ := had.resolve_right (by omega)
        have dk := hG2.cs k hk
        gi_wp2
        have hmx : Tryz.prog.follows .mixedOrders = true := by kernel_rfl
        have hhit := fun h => Tryz.hits_hit (zs := zs) (s := s) (level := level) (k := k) hk1 h
        have hmiss := fun h => Tryz.hits_miss (zs := zs) (s := s) (level := level) (k := k) h
        generalize zs[k]?.getD 0 = z at dk hhit hmiss
        by_cases hlv : level ≤ z
        · have hlen : (Tryz.hits zs s level (min k len)).length < len := by
            have := Tryz.hits_length zs s level (min k len)
            omega
          have hJd : J (Tryz.hits zs s level (min k len)) wr.drew := hJ _ _ _ none hJ2 ⟨rfl, rfl, rfl, Nat.le_refl _, fun _ _ _ => rfl⟩ (by simp)
          have hGd : GoodW B0 B2 (some ⟨b, off, none⟩) b off len cap level zs wr.drew := ⟨hG2.c0, hG2.c2, hG2.cs⟩
          obtain ⟨fn, tmps, assign, body, hy, hR⟩ := hY _ (k : Int) wr.drew hJd hlen
          gi_region_with_o (go_simp; refine ⟨fun h => (by cases h), hR.mono ?_⟩; rintro e W3 hor0; obtain ⟨rb, rfl, hor⟩ : ∃ rb, e = .returned (.bool rb) ∧ ((rb = true ∧ J (Tryz.hits zs s level (min k len) ++ [(k : Int)]) W3 ∧ (GoodW B0 B2 (some ⟨b, off, none⟩) b off len cap level zs wr.drew → GoodW B0 B2 (some ⟨b, off, none⟩) b off len cap level zs W3)) ∨ (rb = false ∧ Jx (Tryz.hits zs s level (min k len) ++ [(k : Int)]) W3)) := (by rcases hor0 with ⟨h, a⟩ | ⟨h, a⟩; exact ⟨true, h, .inl ⟨rfl, a⟩⟩; exact ⟨false, h, .inr ⟨rfl, a⟩⟩); clear hor0)
          all_goals (rcases hor with ⟨rfl, hJ3, hG3⟩ | ⟨rfl, hJx3⟩)
          all_goals gi_wp2
          all_goals first
            | exact ⟨⟨k + 1, by omega, by omega, by simp, by
                rw [show min (k + 1) len = k + 1 by omega, hhit hlv]
                rw [show min k len = k by omega] at hJ3
                exact hJ3, hG3 hGd⟩, by simp only [intOf]; omega⟩
            | (refine bodyPost_ret (results_none rfl _ _ _) rfl ?_; exact ⟨⟨_, rfl⟩, .inr ⟨_, hJx3⟩⟩)
        · have hlt : z < level := by omega
          have hdec : decide (level ≤ z) = false := decide_eq_false hlv
          first | gi_region_with_o (go_simp; refine ⟨fun _ h => (by cases h), ?_⟩) | fail
          all_goals gi_wp2
          all_goals exact ⟨⟨k + 1, by omega, by omega, by simp, by
                rw [show min (k + 1) len = k + 1 by omega, hmiss hlv]
                rw [show min k len = k by omega] at hJ2
                exact hJ _ _ _ none hJ2 ⟨rfl, rfl, rfl, Nat.le_refl _, fun _ _ _ => rfl⟩ (by simp), ⟨hG2.c0, hG2.c2, hG2.cs⟩⟩, by simp only [intOf]; omega⟩
      · gi_wp2
        go_end0
        refine ⟨⟨_, rfl⟩, .inl ⟨_, rfl, ?_⟩⟩
        by_cases hl : len ≤ s
        · rw [Tryz.hits_low hl]
          rw [Tryz.hits_low (show min k len ≤ s by omega)] at hJ2
          exact hJ2
        · rw [show min k len = len by omega] at hJ2
          exact hJ2
  · obtain rfl : from_ = (s : Int) := by omega
    gi_wp2
    gi_loopw [5] (fun i wr => ∃ k : Nat, s ≤ k ∧ k ≤ max len s ∧ i = .int .i64 k ∧ J (Tryz.hits zs s level (min k len)) wr ∧ GoodW B0 B2 ad b off len cap level zs wr)
      (fun i _ => len - (intOf i).toNat)
    case atStart =>
      refine ⟨s, by omega, by omega, rfl, ?_, hG⟩
      rw [Tryz.hits_low (show min s len ≤ s by omega)]
      exact h0
    case round =>
      obtain ⟨k, hk1, hk2, rfl, hJ2, hG2⟩ := hrel
      have d0 := hG2.c0
      have d2 := hG2.c2
      by_cases hk : k < len
      · obtain rfl : ad = some ⟨b, off, none⟩ := had.resolve_right (by omega)
        have dk := hG2.cs k hk
        gi_wp2
        have hmx : Tryz.prog.follows .mixedOrders = true := by kernel_rfl
        have hhit := fun h => Tryz.hits_hit (zs := zs) (s := s) (level := level) (k := k) hk1 h
        have hmiss := fun h => Tryz.hits_miss (zs := zs) (s := s) (level := level) (k := k) h
        generalize zs[k]?.getD 0 = z at dk hhit hmiss
        by_cases hlv : level ≤ z
        · have hlen : (Tryz.hits zs s level (min k len)).length < len := by
            have := Tryz.hits_length zs s level (min k len)
            omega
          have hJd : J (Tryz.hits zs s level (min k len)) wr.drew := hJ _ _ _ none hJ2 ⟨rfl, rfl, rfl, Nat.le_refl _, fun _ _ _ => rfl⟩ (by simp)
          have hGd : GoodW B0 B2 (some ⟨b, off, none⟩) b off len cap level zs wr.drew := ⟨hG2.c0, hG2.c2, hG2.cs⟩
          obtain ⟨fn, tmps, assign, body, hy, hR⟩ := hY _ (k : Int) wr.drew hJd hlen
          gi_region_with_o (go_simp; refine ⟨fun h => (by cases h), hR.mono ?_⟩; rintro e W3 hor0; obtain ⟨rb, rfl, hor⟩ : ∃ rb, e = .returned (.bool rb) ∧ ((rb = true ∧ J (Tryz.hits zs s level (min k len) ++ [(k : Int)]) W3 ∧ (GoodW B0 B2 (some ⟨b, off, none⟩) b off len cap level zs wr.drew → GoodW B0 B2 (some ⟨b, off, none⟩) b off len cap level zs W3)) ∨ (rb = false ∧ Jx (Tryz.hits zs s level (min k len) ++ [(k : Int)]) W3)) := (by rcases hor0 with ⟨h, a⟩ | ⟨h, a⟩; exact ⟨true, h, .inl ⟨rfl, a⟩⟩; exact ⟨false, h, .inr ⟨rfl, a⟩⟩); clear hor0)
          all_goals (rcases hor with ⟨rfl, hJ3, hG3⟩ | ⟨rfl, hJx3⟩)
          all_goals gi_wp2
          all_goals first
            | exact ⟨⟨k + 1, by omega, by omega, by simp, by
                rw [show min (k + 1) len = k + 1 by omega, hhit hlv]
                rw [show min k len = k by omega] at hJ3
                exact hJ3, hG3 hGd⟩, by simp only [intOf]; omega⟩
            | (refine bodyPost_ret (results_none rfl _ _ _) rfl ?_; exact ⟨⟨_, rfl⟩, .inr ⟨_, hJx3⟩⟩)
        · have hlt : z < level := by omega
          have hdec : decide (level ≤ z) = false := decide_eq_false hlv
          first | gi_region_with_o (go_simp; refine ⟨fun _ h => (by cases h), ?_⟩) | fail
          all_goals gi_wp2
          all_goals exact ⟨⟨k + 1, by omega, by omega, by simp, by
                rw [show min (k + 1) len = k + 1 by omega, hmiss hlv]
                rw [show min k len = k by omega] at hJ2
                exact hJ _ _ _ none hJ2 ⟨rfl, rfl, rfl, Nat.le_refl _, fun _ _ _ => rfl⟩ (by simp), ⟨hG2.c0, hG2.c2, hG2.cs⟩⟩, by simp only [intOf]; omega⟩
      · gi_wp2
        go_end0
        refine ⟨⟨_, rfl⟩, .inl ⟨_, rfl, ?_⟩⟩
        by_cases hl : len ≤ s
        · rw [Tryz.hits_low hl]
          rw [Tryz.hits_low (show min k len ≤ s by omega)] at hJ2
          exact hJ2
        · rw [show min k len = len by omega] at hJ2
          exact hJ2

theorem Tryz.each1_stops (m : Nat) (ad : Option Addr) (B1 B0 B2 b off len cap s : Nat) (had : ad = some ⟨b, off, none⟩ ∨ len = 0) (from_ level : Int) (zs : List Int) (hreach : len ≤ 140737488355328) (hs : max from_ 0 = s) (hs2 : s ≤ 9223372036854775807) (w : World)
    (hb : B1 < w.heap.size ∧ B0 < w.heap.size ∧ B2 < w.heap.size ∧ (0 < len → b < w.heap.size))
    (hB1 : w.cell? ⟨B1, 0, none⟩ = some (.int .i64 from_)) (hG : GoodW B0 B2 ad b off len cap level zs w) :
    SeqStopsK Fence.wide m Tryz.prog 116 #[.pointer (some ⟨B1, 0, none⟩), .pointer (some ⟨B0, 0, none⟩), .pointer (some ⟨B2, 0, none⟩)] (fun x : Int => #[Value.int .i64 x]) (fun W W' => GoodW B0 B2 ad b off len cap level zs W → GoodW B0 B2 ad b off len cap level zs W') (fun ys => ys = Tryz.hits zs s level len) (fun _ => True) len w := by
  intro l J Jx W hW hJ hJx hY h0
  have c1 := (hW.cell (p := ⟨B1, 0, none⟩) hb.1).trans hB1
  have g : GoodW B0 B2 ad b off len cap level zs W := ⟨(hW.cell (p := ⟨B0, 0, none⟩) hb.2.1).trans hG.c0, (hW.cell (p := ⟨B2, 0, none⟩) hb.2.2.1).trans hG.c2, fun j hj => (hW.cell (p := ⟨b, off + j, none⟩) (hb.2.2.2 (by omega))).trans (hG.cs j hj)⟩
  refine (Tryz.each1_in m ad l B1 B0 B2 b off len cap s had from_ level zs hreach hs hs2 J Jx W hJ hY c1 g h0).mono ?_
  rintro e W' ⟨hv, ⟨ys, hys, hj⟩ | ⟨pre, hp⟩⟩
  · exact ⟨hv, .inl ⟨ys, hys, hj⟩⟩
  · exact ⟨hv, .inr ⟨pre, trivial, hp⟩⟩

set_option maxRecDepth 100000 in
set_option maxHeartbeats 2000000 in
theorem Tryz.each_in (m : Nat) (ad : Option Addr) (ln cp : Nat) (from_ level : Int) (w : World) :
    CallsIn Fence.wide m Tryz.prog 80 #[.slice ad ln cp, .int .i64 from_, .int .i64 level] w fun e W' => e = .returned (.func (.func 116) #[] #[.pointer (some ⟨w.heap.size + 1, 0, none⟩), .pointer (some ⟨w.heap.size, 0, none⟩), .pointer (some ⟨w.heap.size + 1 + 1, 0, none⟩)]) ∧
      W' = ((w.alloc (.cells #[.slice ad ln cp] 38)).alloc (.cells #[.int .i64 from_] 3)).alloc (.cells #[.int .i64 level] 3) := by
  refine callsIn_of_wp Tryz.func80 rfl trivial ?_ rfl
  simp only [Tryz.ntmps80, List.size_toArray, List.length_cons, List.length_nil, Nat.reduceAdd, Nat.reduceSub, Array.replicate_succ, Array.replicate_zero, List.push_toArray, List.append_toArray, List.nil_append, List.cons_append]
  gi_wp2
  refine bodyPost_ret (results_tmp rfl _ _ _) rfl ?_
  exact ⟨rfl, rfl⟩

end Go.Proofs
