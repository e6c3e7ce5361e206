/- shape.Sides: a range over a function: what it hands back. -/
import Derived.RangeFuncBox
import Derived.RangeFuncBound
import Derived.RangeFuncLeaves
import Derived.RangeFuncFrom
import Derived.Shelf.Abstract
import Derived.Shelf.RegionOpen
import Derived.WalkKit
import Derived.OwnWalkIn
import Derived.TacticsInMore
import Derived.LoopNIn
import Derived.LoopIn
import Derived.Maps.AppendAt
import Derived.Test.YtogehijjhibdkaaGreatEvExt
import Derived.Test.YtogehijjhibdkaaGreatEvFZ
import Derived.Test.YtogehijjhibdkaaGreatEvT3
namespace Go.Proofs.YtogehijjhibdkaaGreat.Ev
open Go Go.RowKit Go.Shelf

attribute [local go_sem] Oper.semAt_some

theorem left_l0' (run : Run) (m : Nat) (n : Int) (hn : n ≤ 1152921504606846976) : ∀ (j k : Nat) (p : Int), n ≤ p * 2 ^ j → 1 ≤ p → p < n → j < k → f162_l0 run m k n p = some ⟨[.int (lv j n p)], [], false⟩ := by
  intro j
  induction j with
  | zero =>
    intro k p h1 h2 h3 hk
    rw [Int.pow_zero] at h1
    omega
  | succ j ih =>
    intro k p h1 h2 h3 hk
    obtain ⟨k, rfl⟩ : ∃ j, k = j + 1 := ⟨k - 1, by omega⟩
    have e : Int.tdiv (n - 1) 2 = (n - 1) / 2 := Int.tdiv_eq_ediv_of_nonneg (by omega)
    rw [f162_l0_eq, w64 (x := n - 1) (by omega) (by omega), e, w64 (x := (n - 1) / 2) (by omega) (by omega), w64 (x := p * 2) (by omega) (by omega)]
    simp only [lv]
    by_cases h : 2 * p < n
    · rw [leI_t (by omega), if_pos h, cond_true, show p * 2 = 2 * p by omega]
      exact ih k (2 * p) (by rw [Int.pow_succ] at h1; rw [Int.mul_comm 2 p, Int.mul_assoc, Int.mul_comm 2]; exact h1) (by omega) h (by omega)
    · rw [leI_f (by omega), if_neg h]; rfl

theorem lv_ge : ∀ (j : Nat) (n p : Int), 1 ≤ p → p < n → 1 ≤ lv j n p ∧ lv j n p < n
  | 0, _, _, h1, h2 => ⟨h1, h2⟩
  | j + 1, n, p, h1, h2 => by
    simp only [lv]
    split
    · exact lv_ge j n (2 * p) (by omega) (by omega)
    · exact ⟨h1, h2⟩
theorem leftV_in {n : Int} (h : 2 ≤ n) : 1 ≤ leftV n ∧ leftV n < n := by
  unfold leftV
  rw [if_neg (by omega)]
  exact lv_ge 64 n 1 (by omega) (by omega)

theorem left_plain {n : Int} (h : 2 ≤ n) (h2 : n ≤ 1048576) : Runs G noExt 162 [.int n] ⟨[.int (leftV n)], [], false⟩ := by
  refine Runs.of_eval 101 ?_
  rw [f162_run, f162_eq, ltI_f (by omega)]
  unfold leftV
  rw [if_neg (by omega)]
  exact left_l0' _ _ n (by omega) 64 100 1 (by rw [Int.one_mul, show (2 : Int) ^ 64 = 18446744073709551616 from rfl]; omega) (by omega) (by omega) (by omega)

theorem left_calls {n : Int} (h : 2 ≤ n) (h2 : n ≤ 1048576) (w : World) : Calls Tryz.prog 162 #[.int .i64 n] w fun e w' => e = .returned (.int .i64 (leftV n)) ∧ w.grownBy w' none := by
  have hs := sat_of_runs types_ok fns_ok (f := 162) (i := f162_info) (by kernel_rfl) (left_plain h h2)
  refine (hs (fun _ => none) w [.int .i64 n] [] (fun p v e => by cases e) ?_ (by simp)).mono ?_
  · exact ⟨.int .i64 n, [], .int n, [], rfl, rfl, ⟨[.int .i64 n], rfl, n, rfl, rfl, by have := wrap_wf .i64 n; rwa [w64 (by omega) (by omega)] at this⟩, rfl, rfl, rfl⟩
  · rintro e w' ⟨S, v, rfl, _, _, _, hk, ⟨x, hx, ⟨cs, hv, m, hm, rfl, _⟩, _⟩, _⟩
    cases hx
    cases hm
    refine ⟨?_, ?_⟩
    · rw [hv]; rfl
    · exact ⟨hk.os, hk.tape, hk.output, hk.size, fun k hk1 _ => hk.block k hk1 (by simp)⟩

/-- The turns, from the top down. -/
def downV : Nat → Int → Int → List Bool
  | 0, _, _ => []
  | k + 1, n, i => if n < 2 then [] else if i < leftV n then false :: downV k (leftV n) i else true :: downV k (n - leftV n) (i - leftV n)
theorem sides_down : ∀ k n i, sidesV k n i = ((downV k n i).reverse).map AV.bool
  | 0, _, _ => rfl
  | k + 1, n, i => by
    simp only [sidesV, downV]
    split
    · rfl
    · split
      · rw [sides_down k]; simp
      · rw [sides_down k]; simp
theorem downV_len : ∀ k n i, (downV k n i).length ≤ k
  | 0, _, _ => by simp [downV]
  | k + 1, n, i => by
    simp only [downV]
    split
    · simp
    · split
      · have := downV_len k (leftV n) i; simp; omega
      · have := downV_len k (n - leftV n) (i - leftV n); simp; omega

set_option maxRecDepth 100000 in
set_option maxHeartbeats 2000000 in
theorem down_in (m : Nat) (l : Nat) (J Jx : List Bool → World → Prop) (N : Nat) (nn ii : Int) (h1 : 0 ≤ ii) (h2 : ii < nn) (h3 : nn ≤ 1048576) (W : World) (hN : N = (downV nn.toNat nn ii).length)
    (hJ : AbidesFrom W.heap.size J)
    (hY : ∀ pre x W, J pre W → pre.length < N → YieldAt Fence.wide (m - 1) Tryz.prog l #[.bool x] W fun e W' =>
      (e = .returned (.bool true) ∧ J (pre ++ [x]) W') ∨ (e = .returned (.bool false) ∧ Jx (pre ++ [x]) W'))
    (h0 : J [] W) :
    CallsIn Fence.wide m Tryz.prog 207 #[.int .i64 nn, .int .i64 ii, .func (.yield l) #[] #[]] W fun e W' => (∃ v, e = .returned v) ∧
      ((∃ ys, ys = downV nn.toNat nn ii ∧ J ys W') ∨ (∃ pre, pre <+: downV nn.toNat nn ii ∧ Jx pre W')) := by
  refine callsIn_of_wp Tryz.func207 rfl trivial ?_ rfl
  simp only [Tryz.ntmps207, List.size_toArray, List.length_cons, List.length_nil, Nat.reduceAdd, Nat.reduceSub, Array.replicate_succ, Array.replicate_zero, List.push_toArray, List.append_toArray, List.nil_append, List.cons_append]
  gi_wp2
  gi_loopw [0, 1] (fun vn vi wr => ∃ (k : Nat) (n' i' : Int) (pre : List Bool), vn = .int .i64 n' ∧ vi = .int .i64 i' ∧ 0 ≤ i' ∧ i' < n' ∧ n' ≤ nn ∧ n' ≤ k ∧ pre ++ downV k n' i' = downV nn.toNat nn ii ∧ J pre wr)
    (fun vn _ _ => (intOf vn).toNat)
  case atStart => exact ⟨nn.toNat, nn, ii, [], rfl, rfl, h1, h2, Int.le_refl _, by omega, rfl, h0⟩
  case round =>
    obtain ⟨k, n', i', pre, rfl, rfl, g1, g2, g3, g4, g5, gJ⟩ := hrel
    obtain ⟨k, rfl⟩ : ∃ j, k = j + 1 := ⟨k - 1, by omega⟩
    by_cases hn : n' < 2
    · have g6 : pre = downV nn.toNat nn ii := by rw [← g5]; simp [downV, hn]
      clear g5
      have hn' : ¬ 1 < n' := by omega
      gi_wp2
      go_end0
      refine ⟨⟨_, rfl⟩, .inl ?_⟩
      rw [← g6]; exact gJ
    · have hp := leftV_in (n := n') (by omega)
      have hlen : pre.length < N := by
        rw [hN, ← g5]; simp only [downV, if_neg hn]; split <;> simp
      gi_wp2_with (refine ⟨trivial, fun h => (by cases h), ?_⟩; refine (callsIn_wide.2 (left_calls (n := n') (by omega) (by omega) _)).mono ?_; rintro e w1 ⟨rfl, hg⟩; have hJ1 := hJ _ _ _ none gJ hg (by simp); obtain ⟨fn, tmps, assign, body, hy, hR⟩ := hY pre (decide (leftV n' ≤ i')) w1 hJ1 hlen)
      refine ⟨fun h => (by cases h), hR.mono ?_⟩
      rintro e W3 (⟨rfl, hJ3⟩ | ⟨rfl, hJx3⟩)
      · have b1 : -9223372036854775808 ≤ n' - leftV n' ∧ n' - leftV n' ≤ 9223372036854775807 := by omega
        have b2 : leftV n' ≤ i' → -9223372036854775808 ≤ i' - leftV n' ∧ i' - leftV n' ≤ 9223372036854775807 := by omega
        by_cases hq : leftV n' ≤ i'
        · have g6 : (pre ++ [decide (leftV n' ≤ i')]) ++ downV k (n' - leftV n') (i' - leftV n') = downV nn.toNat nn ii := by
            rw [← g5, decide_eq_true hq]; simp only [downV, if_neg (show ¬ n' < 2 by omega), if_neg (show ¬ i' < leftV n' by omega)]; simp
          gi_wp2
          exact ⟨⟨k, n' - leftV n', i' - leftV n', _, rfl, rfl, by omega, by omega, by omega, by omega, g6, hJ3⟩, by simp only [intOf]; omega⟩
        · have g6 : (pre ++ [decide (leftV n' ≤ i')]) ++ downV k (leftV n') i' = downV nn.toNat nn ii := by
            rw [← g5, decide_eq_false hq]; simp only [downV, if_neg (show ¬ n' < 2 by omega), if_pos (show i' < leftV n' by omega)]; simp
          gi_wp2
          exact ⟨⟨k, leftV n', i', _, rfl, rfl, by omega, by omega, by omega, by omega, g6, hJ3⟩, by simp only [intOf]; omega⟩
      · gi_wp2
        refine bodyPost_ret (results_none rfl _ _ _) rfl ?_
        exact ⟨⟨_, rfl⟩, .inr ⟨pre ++ [decide (leftV n' ≤ i')], by
          rw [← g5]; simp only [downV, if_neg (show ¬ n' < 2 by omega)]
          split
          · rw [decide_eq_false (by omega)]; exact ⟨_, by rw [List.append_assoc]; rfl⟩
          · rw [decide_eq_true (by omega)]; exact ⟨_, by rw [List.append_assoc]; rfl⟩, hJx3⟩⟩

theorem room_wide (k : Nat) : Fence.wide.room k := fun d h => by cases h
theorem YieldAt.wide {m : Nat} (m' : Nat) {P : Program} {l : Nat} {args : Array Value} {W : World} {R : Ending → World → Prop} (h : YieldAt Fence.wide m P l args W R) : YieldAt Fence.wide m' P l args W R := by
  obtain ⟨fn, tmps, assign, body, hy, hR⟩ := h
  exact ⟨fn, tmps, assign, body, hy, hR.1, fun c cs _ => hR.2 c cs (room_wide _)⟩

set_option maxRecDepth 100000 in
set_option maxHeartbeats 2000000 in
theorem sides1_stops (m Bn Bi n₀ : Nat) (nn ii : Int) (h1 : 0 ≤ ii) (h2 : ii < nn) (h3 : nn ≤ 1048576) (w : World) (hBn : Bn < w.heap.size) (hBi : Bi < w.heap.size)
    (hcn : w.cell? ⟨Bn, 0, none⟩ = some (.int .i64 nn)) (hci : w.cell? ⟨Bi, 0, none⟩ = some (.int .i64 ii)) :
    SeqStopsK Fence.wide m Tryz.prog 206 #[.pointer (some ⟨Bn, 0, none⟩), .pointer (some ⟨Bi, 0, none⟩)] (fun x : Bool => #[Value.bool x]) (Below n₀) (fun ys => ys = downV nn.toNat nn ii) (fun pre => pre <+: downV nn.toNat nn ii) (downV nn.toNat nn ii).length w := by
  intro l J Jx W hW hJ hJx hY h0
  have cn := (hW.cell (p := ⟨Bn, 0, none⟩) hBn).trans hcn
  have ci := (hW.cell (p := ⟨Bi, 0, none⟩) hBi).trans hci
  have hd := fun k => down_in k l J Jx _ nn ii h1 h2 h3 W rfl hJ (fun pre x W1 hJ1 hlen => by
    obtain ⟨fn, tmps, assign, body, hy, hR⟩ := YieldAt.wide (k - 1) (hY pre x W1 hJ1 hlen)
    refine ⟨fn, tmps, assign, body, hy, hR.mono ?_⟩
    rintro e W' (⟨a, b, _⟩ | h)
    · exact .inl ⟨a, b⟩
    · exact .inr h) h0
  refine callsIn_of_wp Tryz.func206 rfl trivial ?_ rfl
  simp only [Tryz.ntmps206, List.size_toArray, List.length_cons, List.length_nil, Nat.reduceAdd, Nat.reduceSub, Array.replicate_succ, Array.replicate_zero, List.push_toArray, List.append_toArray, List.nil_append, List.cons_append]
  clear hY
  gi_wp2_with (refine ⟨trivial, fun h => (by cases h), ?_⟩; refine (hd _).mono ?_; rintro e w1 ⟨⟨v, rfl⟩, hor⟩)
  go_end0
  exact ⟨⟨_, rfl⟩, hor⟩

theorem wpListIn_append_zero {F : Fence} {n : Nat} {P : Program} (w : World) {ops : Array Oper} {rest : List Oper} {o : Oper} {a : Act} {Q : Exit → Act → World → Prop}
    (hg : o.guard = none) (s x : Operand) (t : TypeId) (hop : o.op = Op.call { callee := Callee.builtin Builtin.append, args := #[s, x], argTypes := #[t, t] })
    (e : TypeId) (i : TypeInfo) (h1 : P.underlying t = some (.slice e)) (h2 : P.info? e = some i)
    (base ao : Option Addr) (k cap c : Nat) (hk : k ≤ cap) (hs : a.eval s = .slice base k cap) (hx : a.eval x = .slice ao 0 c)
    (hK : wpListIn F n P ops Q rest (a.put o.dst (.slice base k cap)) w) :
    wpListIn F n P ops Q (o :: rest) a w := by
  refine wpListIn_plain hg fun K hK' => ?_
  have hrun := run_append_zero (P := P) (w := w) t o.type e i h1 h2 base ao k cap c hk
  unfold Oper.wpIn
  refine ⟨?_, ?_⟩
  · simp [Oper.about, hop, resolve, Target.leads, Sem.run_pure]
  · rw [Oper.semAt_plain F _ _ (by rw [hop]; intro c hc'; cases hc')]
    simp [execOp, hop, resolve, invoke, builtin, hs, hx, hrun, Result.andThen]
    exact hK' _ _ hK

theorem own_cell {w : World} {base e k cap g : Nat} {xs : List Value} (h : w.ownsRow base e 1 (.slice (some ⟨g, 0, none⟩) k cap) k xs) : ∀ j u, xs[j]? = some u → w.cell? ((⟨g, 0, none⟩ : Addr).add j) = some u := by
  rcases h.2 with ⟨e, _⟩ | ⟨g2, cap2, cur, e, _, hb, h1, h2, h3, h4⟩
  · cases e
  · cases e
    intro j u hj
    rw [← h4, List.getElem?_take] at hj
    split at hj
    · have e : (⟨g, 0, none⟩ : Addr).add j = ⟨g, j, none⟩ := by unfold Addr.add; split <;> simp_all
      rw [e]
      simp [World.cell?, hb]
      simpa using hj
    · cases hj

theorem info_bool : (Tryz.prog.info? 4).map (fun i => (i.zero, i.size, i.bytes)) = some (some (.bool false), 1, 1) := by kernel_rfl

def turns (nn ii : Int) : List Bool := if 0 ≤ ii ∧ ii < nn then (downV nn.toNat nn ii).reverse else []

set_option maxRecDepth 100000 in
set_option maxHeartbeats 2000000 in
theorem sides_in (m : Nat) (hm : 1 ≤ m) (nn ii : Int) (h3 : nn ≤ 1048576) (w : World) :
    CallsIn Fence.wide m Tryz.prog 190 #[.int .i64 nn, .int .i64 ii] w fun e W' => ∃ v, e = .returned v ∧ W'.ownsRow w.heap.size 4 1 v (turns nn ii).length ((turns nn ii).map Value.bool) ∧ Below w.heap.size w W' := by
  obtain ⟨i0, hi, hz0, hz1, hz2⟩ := info_parts info_bool
  refine callsIn_of_wp_marks Tryz.func190 rfl trivial ?_ rfl
  simp only [Tryz.ntmps190, List.size_toArray, List.length_cons, List.length_nil, Nat.reduceAdd, Nat.reduceSub, Array.replicate_succ, Array.replicate_zero, List.push_toArray, List.append_toArray, List.nil_append, List.cons_append]
  by_cases h1 : 0 ≤ ii ∧ ii < nn
  · have e1 : turns nn ii = (downV nn.toNat nn ii).reverse := if_pos h1
    obtain ⟨h1, h2⟩ := h1
    gi_wp2
    have bN := Boxed.new w 3 (.int .i64 nn)
    have bI := Boxed.new (w.alloc (.cells #[.int .i64 nn] 3)) 3 (.int .i64 ii)
    have bO := Boxed.new ((w.alloc (.cells #[.int .i64 nn] 3)).alloc (.cells #[.int .i64 ii] 3)) 83 (.slice none 0 0)
    have hB0 : Below w.heap.size w (((w.alloc (.cells #[.int .i64 nn] 3)).alloc (.cells #[.int .i64 ii] 3)).alloc (.cells #[.slice none 0 0] 83)) := ((((Below.refl _ w).alloc (Nat.le_refl _) _).alloc (by simp) _).alloc (by simp; omega) _)
    have bN2 := (bN.alloc (.cells #[.int .i64 ii] 3)).alloc (.cells #[.slice none 0 0] 83)
    have bI2 := bI.alloc (.cells #[.slice none 0 0] 83)
    simp only [World.size_alloc] at bI2 bO
    refine wpIn_rangeFunc_ownG (n := m) rfl hm (gf := 206) (lb := #[.pointer (some ⟨w.heap.size, 0, none⟩), .pointer (some ⟨w.heap.size + 1, 0, none⟩)]) rfl trivial (enters_of Tryz.func206 (by kernel_rfl) rfl)
      (sides1_stops (m - 1) w.heap.size (w.heap.size + 1) w.heap.size nn ii h1 h2 h3 _ (by simp; omega) (by simp) bN2.cell bI2.cell) belowK_t (belowK_b (by simp; omega)) (Below.refl _ _) (fun _ => rfl)
      (fun pre W => (∃ v, Boxed W (w.heap.size + 1 + 1) 83 v ∧ W.ownsRow w.heap.size 4 1 v pre.length (pre.reverse.map Value.bool) ∧ (v = .slice none 0 0 ↔ pre = [])) ∧ Below w.heap.size w W)
      (fun _ _ _ => False)
      (OwnFrom.and (Own.from (holdsRow_own w.heap.size (w.heap.size + 1 + 1) 83 4 1 (fun pre : List Bool => pre.length) (fun pre => pre.reverse.map Value.bool) (fun pre v => v = .slice none 0 0 ↔ pre = [])) _) (ownFrom_below (Nat.le_refl _) (by simp; omega)))
      (fun _ _ _ _ _ hs _ _ => hs)
      ⟨⟨_, bO, World.ownsRow_nil _ _ _ _, by simp⟩, hB0⟩
      (fun x => { tmps := #[.int .i64 nn, .int .i64 ii, .pointer (some ⟨w.heap.size, 0, none⟩), .pointer (some ⟨w.heap.size + 1, 0, none⟩), .slice none 0 0, .pointer (some ⟨w.heap.size + 1 + 1, 0, none⟩), .bool x, .int .i64 ii, .bool (decide (ii < 0)), .bool (decide (ii < 0)), .int .i64 ii, .int .i64 nn, .bool (decide (nn ≤ ii)), .bool (decide (ii < 0) || decide (nn ≤ ii)), undef, .func (.func 206) #[] #[.pointer (some ⟨w.heap.size, 0, none⟩), .pointer (some ⟨w.heap.size + 1, 0, none⟩)], .bool x, undef, undef, undef, undef, undef], defers := [] }) ?assign ?body ?done ?stop
    case assign =>
      intro l x W K hK
      gi_wp2
      exact hK
    case body =>
      rintro l pre x W ⟨⟨v, hv, hrow, hnil⟩, hB⟩ hlt
      have hdl := downV_len nn.toNat nn ii
      have hc := hv.cell
      have hc1 := (hv.alloc (.cells #[.bool x] 4)).cell
      have hown1 : (W.alloc (.cells #[.bool x] 4)).ownsRow w.heap.size 4 1 (.slice (some ⟨W.heap.size, 0, none⟩) 1 1) 1 [.bool x] := ⟨rfl, .inr ⟨W.heap.size, 1, #[.bool x], rfl, hB.size, World.alloc_heap_new _ _, Nat.le_refl _, by rw [maxLen_eq]; omega, rfl, rfl⟩⟩
      have hne : some (w.heap.size + 1 + 1) ≠ some W.heap.size := fun e => by have := hv.lt; simp at e; omega
      cases pre with
      | nil =>
        obtain rfl := hnil.2 rfl
        have hb1 := hv.alloc (.cells #[.bool x] 4)
        have hf1 := hb1.frozen
        gi_wp2_with (gi_at_builtin; refine wpListIn_append_zero _ rfl _ _ 83 rfl 4 i0 Tryz.underlying83 hi (some ⟨W.heap.size, 0, none⟩) none 1 1 0 (by omega) rfl rfl ?_)
        have hown2 := hown1.kept (grownBy_setCell' _ (w.heap.size + 1 + 1) (.slice (some ⟨W.heap.size, 0, none⟩) 1 1)) (.inr (hb1.not_row (by decide) hown1).symm)
        have hbel : Below w.heap.size W ((W.alloc (.cells #[.bool x] 4)).setCell ⟨w.heap.size + 1 + 1, 0, none⟩ (.slice (some ⟨W.heap.size, 0, none⟩) 1 1)) := ((Below.refl w.heap.size W).alloc hB.size _).setCell (p := ⟨w.heap.size + 1 + 1, 0, none⟩) (by simp; omega) _
        exact ⟨((KeepsOthers.alloc W _).trans (KeepsOthers.setCell _ _ _)).from _, hbel, ⟨_, hb1.set _, hown2, by simp⟩, hB.trans hbel⟩
      | cons y pre =>
        obtain ⟨g', cap', rfl⟩ := ownsRow_succ hrow
        have hcells := own_cell (hrow.alloc (.cells #[.bool x] 4))
        gi_wp2_with (gi_at_builtin; refine wpListIn_append_own _ rfl _ _ 83 rfl w.heap.size 4 i0 (.bool false) 1 1 Tryz.underlying83 hi hz0 hz1 hz2 rfl (by decide) _ 1 [.bool x] rfl hown1 ⟨g', 0, none⟩ ((y :: pre).length) cap' (((y :: pre).reverse).map Value.bool) rfl (by simp) hcells (by intro u hu; obtain ⟨b, _, rfl⟩ := List.mem_map.1 hu; rfl) (by rw [maxLen_eq]; omega) (by omega) (by have := hB.size; simp; omega) ?_; intro v' w1 hown' hgrow hnn; rw [Nat.add_comm] at hown'; obtain ⟨g2, cap2, rfl⟩ := ownsRow_succ hown'; have hgrow : (W.alloc (.cells #[.bool x] 4)).grownBy w1 (some W.heap.size) := hgrow; have hv1 := (hv.alloc (.cells #[.bool x] 4)).kept hgrow hne; have hcb := hv1.cell; have hfb := hv1.frozen; clear hnn)
        have hown2 := hown'.kept (grownBy_setCell' _ (w.heap.size + 1 + 1) (.slice (some ⟨g2, 0, none⟩) ((y :: pre).length + 1) cap2)) (.inr (hv1.not_row (by decide) hown').symm)
        have hbel : Below w.heap.size W (w1.setCell ⟨w.heap.size + 1 + 1, 0, none⟩ (.slice (some ⟨g2, 0, none⟩) ((y :: pre).length + 1) cap2)) := (((Below.refl w.heap.size W).alloc hB.size _).grown hgrow (by have := hB.size; simp; omega) (fun j ej => by cases ej; exact hB.size)).setCell (p := ⟨w.heap.size + 1 + 1, 0, none⟩) (by simp; omega) _
        have hko : KeepsOthers W (w1.setCell ⟨w.heap.size + 1 + 1, 0, none⟩ (.slice (some ⟨g2, 0, none⟩) ((y :: pre).length + 1) cap2)) := ((KeepsOthers.alloc W _).trans (KeepsOthers.of_grownBy hgrow fun j o ej hj => by
          cases ej
          rw [World.alloc_heap_new] at hj
          cases hj; rfl)).trans (KeepsOthers.setCell _ _ _)
        exact ⟨hko.from _, hbel, ⟨_, hv1.set _, by simpa using hown2, by simp⟩, hB.trans hbel⟩
    case done =>
      rintro D ys W hD rfl ⟨⟨v, hv, hrow, _⟩, hB⟩ hK
      have hc := hv.cell
      gi_wp2
      refine ⟨by simp, .inl ⟨_, _, rfl, run_takeDeferred hK, ?_⟩⟩
      exact ⟨_, results_tmp rfl _ _ _, v, rfl, by rw [e1, List.length_reverse]; exact ownsRow_putObj hrow _ hK rfl, hB.trans (belowK_b (w := w) (Nat.le_refl _) W D _ _ (by simp at hD; omega) hK rfl rfl)⟩
    case stop =>
      rintro D c pre W _ _ h _
      exact h.elim
  · have e1 : turns nn ii = [] := if_neg h1
    have h2 : 0 ≤ ii → nn ≤ ii := by omega
    clear h1
    rw [e1]
    have hB0 : Below w.heap.size w (((w.alloc (.cells #[.int .i64 nn] 3)).alloc (.cells #[.int .i64 ii] 3)).alloc (.cells #[.slice none 0 0] 83)) := ((((Below.refl _ w).alloc (Nat.le_refl _) _).alloc (by simp) _).alloc (by simp; omega) _)
    gi_wp2
    all_goals refine ⟨_, results_tmp rfl _ _ _, _, rfl, World.ownsRow_nil _ _ _ _, hB0⟩

theorem cell_parts {w : World} {p : Addr} {v : Value} (h : w.cell? p = some v) : p.spot = none ∧ p.block < w.heap.size := by
  unfold World.cell? at h
  split at h
  · rename_i hb
    split at h
    · cases h
    · rename_i hs
      refine ⟨by simpa using hs, ?_⟩
      exact (Array.getElem?_eq_some_iff.1 hb).1
  · cases h

theorem keep_of_below {B : Nat} {w w' : World} (h : Below B w w') : Keep B [] w w' := ⟨h.os, h.tape, h.output, h.size, fun k hk _ => h.block k hk⟩

/-- A new slice is handed back, and nothing turns. -/
theorem row_back {S0 : Snap} {w0 w : World} {v : Value} {e : TypeId} {T : Ty} (hT : T.size = 1) {xs : List Value} {es : List AV} (ha : ∀ p v, S0 p = some v → w0.cell? p = some v) (hb : Below w0.heap.size w0 w)
    (hrow : w.ownsRow w0.heap.size e 1 v es.length xs) (hrep : ∀ (i : Nat) y, es[i]? = some y → ∃ u, xs[i]? = some u ∧ ∀ S, Rep S T [u] y) :
    ∃ S v', (Ending.returned v) = .returned v' ∧ S0.le S ∧ (∀ p u, S p = some u → S0 p = some u ∨ w0.heap.size ≤ p.block) ∧ (∀ p u, S p = some u → w.cell? p = some u) ∧
      Keep w0.heap.size [] w0 w ∧ ResRel S w w0.heap.size [.val (.slice T)] ⟨[.slice es], [], true⟩ v' ∧ OutsRel S w [] [] [] := by
  have hold : ∀ p u, S0 p = some u → w.cell? p = some u := fun p u h => by
    have h1 := ha p u h
    exact (hb.cell (cell_parts h1).2).trans h1
  have hcells := fun g cap (hv : v = .slice (some ⟨g, 0, none⟩) es.length cap) => own_cell (g := g) (cap := cap) (by rw [← hv]; exact hrow)
  rcases hrow.2 with ⟨rfl, h0⟩ | ⟨g, cap, cur, rfl, hg, hh, h1, h2, h3, h4⟩
  · have he : es = [] := List.length_eq_zero_iff.1 h0
    subst he
    refine ⟨S0, _, rfl, Snap.le_refl _, fun p u h => .inl h, hold, keep_of_below hb, ⟨_, rfl, ⟨[.slice none 0 0], (val_one rfl _).symm, none, 0, 0, [], rfl, rfl, rfl, Nat.le_refl _, Nat.zero_le _, fun _ => rfl, fun p hp => by cases hp⟩, fun _ => ⟨T, rfl, .inl rfl⟩⟩, rfl, rfl⟩
  · have hoff : S0.off g 0 := fun p hp _ => by
      cases hs : S0 p with
      | none => rfl
      | some u => have := (cell_parts (ha p u hs)).2; omega
    have hlen : xs.length = es.length := by rw [hrow.1]; simp
    refine ⟨S0.plus g 0 xs, _, rfl, Snap.le_plus _ _ _ _, fun p u h => ?_, fun p u h => ?_, keep_of_below hb, ⟨_, rfl, ⟨[.slice (some ⟨g, 0, none⟩) es.length cap], (val_one rfl _).symm, some ⟨g, 0, none⟩, es.length, cap, es, rfl, rfl, rfl, h1, h2, (fun h => by cases h), fun p hp i y hy => ?_⟩, fun _ => ⟨T, rfl, .inr ⟨g, es.length, cap, cur.toList, rfl, hg, ⟨e, by rw [hh]⟩, by rw [hT]; simpa using h3, h1, h2, ?_⟩⟩⟩, rfl, rfl⟩
    · rcases Snap.plus_new h with k | ⟨k, _⟩
      · exact .inl k
      · exact .inr (by rw [k]; exact hg)
    · rcases Snap.plus_new h with k | ⟨k1, k2, _, k4⟩
      · exact hold p u k
      · have := hcells g cap rfl p.off u (by simpa using k4)
        rw [← this]
        congr 1
        cases p
        simp at k1 k2
        subst k1 k2
        unfold Addr.add
        split <;> simp_all
    · cases hp
      obtain ⟨u, hu, hr⟩ := hrep i y hy
      refine ⟨[u], ?_, by rw [hT]; rfl, hr _⟩
      intro j w hj
      have h5 := Snap.plus_has xs hoff i u hu
      match j, hj with
      | 0, hj =>
        cases hj
        rw [hT, Nat.mul_one]
        rw [show ((⟨g, 0, none⟩ : Addr).add i).add 0 = (⟨g, 0, none⟩ : Addr).add i by simp [Addr.add]]
        exact h5
    · have := Snap.plus_off xs hoff
      rw [Nat.zero_add, hlen] at this
      rw [hT, Nat.mul_one]
      exact this

theorem sides_sat {xs : List AV} {r : Res} (h : sidesX xs = some r) : Sat Tryz.prog f190_info 190 xs r := by
  intro S0 w0 vs bs ha hargs _
  obtain ⟨v1, vs1, x1, xs1, rfl, rfl, hv1, v2, vs2, x2, xs2, rfl, rfl, hv2, rfl, rfl, rfl⟩ := hargs
  obtain ⟨cs1, rfl, n, rfl, rfl, _⟩ := hv1
  obtain ⟨cs2, rfl, i, rfl, rfl, _⟩ := hv2
  unfold sidesX at h
  simp only [toInt_i] at h
  cases hb : leI n 1048576 with
  | false => rw [hb] at h; cases h
  | true =>
  rw [hb, cond_true] at h
  cases h
  have h3 := leI_iff.1 hb
  rw [val_one rfl, val_one rfl]
  have e1 : (bif leI 0 i && ltI i n then sidesV n.toNat n i else []) = (turns n i).map AV.bool := by
    unfold turns
    by_cases hc : 0 ≤ i ∧ i < n
    · rw [if_pos hc, leI_t hc.1, ltI_t hc.2, ← sides_down]; rfl
    · rw [if_neg hc]
      by_cases h0 : 0 ≤ i
      · rw [ltI_f (by omega), Bool.and_false]; rfl
      · rw [leI_f (by omega)]; rfl
  rw [e1]
  refine (callsIn_wide.1 (sides_in 3 (by omega) n i h3 w0)).mono fun e w' he => ?_
  obtain ⟨v, rfl, hrow, hbel⟩ := he
  refine row_back (T := .bool) rfl ha hbel (by rw [List.length_map]; exact hrow) ?_
  intro j y hy
  rw [List.getElem?_map] at hy ⊢
  cases hj : (turns n i)[j]? with
  | none => rw [hj] at hy; cases hy
  | some b => rw [hj] at hy; cases hy; exact ⟨_, rfl, fun S => ⟨b, rfl, rfl⟩⟩

end Go.Proofs.YtogehijjhibdkaaGreat.Ev
