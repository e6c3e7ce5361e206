/- shape.Sides: a range over a function: what it hands back. -/
import Derived.RangeFuncBox
import Derived.RangeFuncBound
import Derived.RangeFuncLeaves
import Derived.RangeFuncFrom
import Derived.Shelf.Abstract
import Derived.Shelf.RegionOpen
import Derived.WalkKit
import Derived.OwnWalkIn
import Derived.TacticsInMore
import Derived.LoopNIn
import Derived.LoopIn
import Derived.Maps.AppendAt
import Derived.Test.YteiahdlklppghaaGreatEvExt
import Derived.Test.YteiahdlklppghaaGreatEvFZ
import Derived.Test.YteiahdlklppghaaGreatEvT3
namespace Go.Proofs.YteiahdlklppghaaGreat.Ev
open Go Go.RowKit Go.Shelf

attribute [local go_sem] Oper.semAt_some

theorem left_l0' (run : Run) (m : Nat) (n : Int) (hn : n ≤ 1152921504606846976) : ∀ (j k : Nat) (p : Int), n ≤ p * 2 ^ j → 1 ≤ p → p < n → j < k → f125_l0 run m k n p = some ⟨[.int (lv j n p)], [], false⟩ := by
  intro j
  induction j with
  | zero =>
    intro k p h1 h2 h3 hk
    rw [Int.pow_zero] at h1
    omega
  | succ j ih =>
    intro k p h1 h2 h3 hk
    obtain ⟨k, rfl⟩ : ∃ j, k = j + 1 := ⟨k - 1, by omega⟩
    have e : Int.tdiv (n - 1) 2 = (n - 1) / 2 := Int.tdiv_eq_ediv_of_nonneg (by omega)
    rw [f125_l0_eq, w64 (x := n - 1) (by omega) (by omega), e, w64 (x := (n - 1) / 2) (by omega) (by omega), w64 (x := p * 2) (by omega) (by omega)]
    simp only [lv]
    by_cases h : 2 * p < n
    · rw [leI_t (by omega), if_pos h, cond_true, show p * 2 = 2 * p by omega]
      exact ih k (2 * p) (by rw [Int.pow_succ] at h1; rw [Int.mul_comm 2 p, Int.mul_assoc, Int.mul_comm 2]; exact h1) (by omega) h (by omega)
    · rw [leI_f (by omega), if_neg h]; rfl

theorem lv_ge : ∀ (j : Nat) (n p : Int), 1 ≤ p → p < n → 1 ≤ lv j n p ∧ lv j n p < n
  | 0, _, _, h1, h2 => ⟨h1, h2⟩
  | j + 1, n, p, h1, h2 => by
    simp only [lv]
    split
    · exact lv_ge j n (2 * p) (by omega) (by omega)
    · exact ⟨h1, h2⟩
theorem leftV_in {n : Int} (h : 2 ≤ n) : 1 ≤ leftV n ∧ leftV n < n := by
  unfold leftV
  rw [if_neg (by omega)]
  exact lv_ge 64 n 1 (by omega) (by omega)

theorem left_plain {n : Int} (h : 2 ≤ n) (h2 : n ≤ 1048576) : Runs G noExt 125 [.int n] ⟨[.int (leftV n)], [], false⟩ := by
  refine Runs.of_eval 101 ?_
  rw [f125_run, f125_eq, ltI_f (by omega)]
  unfold leftV
  rw [if_neg (by omega)]
  exact left_l0' _ _ n (by omega) 64 100 1 (by rw [Int.one_mul, show (2 : Int) ^ 64 = 18446744073709551616 from rfl]; omega) (by omega) (by omega) (by omega)

theorem left_calls {n : Int} (h : 2 ≤ n) (h2 : n ≤ 1048576) (w : World) : Calls Tryz.prog 125 #[.int .i64 n] w fun e w' => e = .returned (.int .i64 (leftV n)) ∧ w.grownBy w' none := by
  have hs := sat_of_runs types_ok fns_ok (f := 125) (i := f125_info) (by kernel_rfl) (left_plain h h2)
  refine (hs (fun _ => none) w [.int .i64 n] [] (fun p v e => by cases e) ?_ (by simp)).mono ?_
  · exact ⟨.int .i64 n, [], .int n, [], rfl, rfl, ⟨[.int .i64 n], rfl, n, rfl, rfl, by have := wrap_wf .i64 n; rwa [w64 (by omega) (by omega)] at this⟩, rfl, rfl, rfl⟩
  · rintro e w' ⟨S, v, rfl, _, _, _, hk, ⟨x, hx, ⟨cs, hv, m, hm, rfl, _⟩, _⟩, _⟩
    cases hx
    cases hm
    refine ⟨?_, ?_⟩
    · rw [hv]; rfl
    · exact ⟨hk.os, hk.tape, hk.output, hk.size, fun k hk1 _ => hk.block k hk1 (by simp)⟩

/-- The turns, from the top down. -/
def downV : Nat → Int → Int → List Bool
  | 0, _, _ => []
  | k + 1, n, i => if n < 2 then [] else if i < leftV n then false :: downV k (leftV n) i else true :: downV k (n - leftV n) (i - leftV n)
theorem sides_down : ∀ k n i, sidesV k n i = ((downV k n i).reverse).map AV.bool
  | 0, _, _ => rfl
  | k + 1, n, i => by
    simp only [sidesV, downV]
    split
    · rfl
    · split
      · rw [sides_down k]; simp
      · rw [sides_down k]; simp
theorem downV_len : ∀ k n i, (downV k n i).length ≤ k
  | 0, _, _ => by simp [downV]
  | k + 1, n, i => by
    simp only [downV]
    split
    · simp
    · split
      · have := downV_len k (leftV n) i; simp; omega
      · have := downV_len k (n - leftV n) (i - leftV n); simp; omega

theorem room_wide (k : Nat) : Fence.wide.room k := fun d h => by cases h
theorem YieldAt.wide {m : Nat} (m' : Nat) {P : Program} {l : Nat} {args : Array Value} {W : World} {R : Ending → World → Prop} (h : YieldAt Fence.wide m P l args W R) : YieldAt Fence.wide m' P l args W R := by
  obtain ⟨fn, tmps, assign, body, hy, hR⟩ := h
  exact ⟨fn, tmps, assign, body, hy, hR.1, fun c cs _ => hR.2 c cs (room_wide _)⟩

theorem wpListIn_append_zero {F : Fence} {n : Nat} {P : Program} (w : World) {ops : Array Oper} {rest : List Oper} {o : Oper} {a : Act} {Q : Exit → Act → World → Prop}
    (hg : o.guard = none) (s x : Operand) (t : TypeId) (hop : o.op = Op.call { callee := Callee.builtin Builtin.append, args := #[s, x], argTypes := #[t, t] })
    (e : TypeId) (i : TypeInfo) (h1 : P.underlying t = some (.slice e)) (h2 : P.info? e = some i)
    (base ao : Option Addr) (k cap c : Nat) (hk : k ≤ cap) (hs : a.eval s = .slice base k cap) (hx : a.eval x = .slice ao 0 c)
    (hK : wpListIn F n P ops Q rest (a.put o.dst (.slice base k cap)) w) :
    wpListIn F n P ops Q (o :: rest) a w := by
  refine wpListIn_plain hg fun K hK' => ?_
  have hrun := run_append_zero (P := P) (w := w) t o.type e i h1 h2 base ao k cap c hk
  unfold Oper.wpIn
  refine ⟨?_, ?_⟩
  · simp [Oper.about, hop, resolve, Target.leads, Sem.run_pure]
  · rw [Oper.semAt_plain F _ _ (by rw [hop]; intro c hc'; cases hc')]
    simp [execOp, hop, resolve, invoke, builtin, hs, hx, hrun, Result.andThen]
    exact hK' _ _ hK

theorem own_cell {w : World} {base e k cap g : Nat} {xs : List Value} (h : w.ownsRow base e 1 (.slice (some ⟨g, 0, none⟩) k cap) k xs) : ∀ j u, xs[j]? = some u → w.cell? ((⟨g, 0, none⟩ : Addr).add j) = some u := by
  rcases h.2 with ⟨e, _⟩ | ⟨g2, cap2, cur, e, _, hb, h1, h2, h3, h4⟩
  · cases e
  · cases e
    intro j u hj
    rw [← h4, List.getElem?_take] at hj
    split at hj
    · have e : (⟨g, 0, none⟩ : Addr).add j = ⟨g, j, none⟩ := by unfold Addr.add; split <;> simp_all
      rw [e]
      simp [World.cell?, hb]
      simpa using hj
    · cases hj

theorem info_bool : (Tryz.prog.info? 4).map (fun i => (i.zero, i.size, i.bytes)) = some (some (.bool false), 1, 1) := by kernel_rfl

def turns (nn ii : Int) : List Bool := if 0 ≤ ii ∧ ii < nn then (downV nn.toNat nn ii).reverse else []

theorem cell_parts {w : World} {p : Addr} {v : Value} (h : w.cell? p = some v) : p.spot = none ∧ p.block < w.heap.size := by
  unfold World.cell? at h
  split at h
  · rename_i hb
    split at h
    · cases h
    · rename_i hs
      refine ⟨by simpa using hs, ?_⟩
      exact (Array.getElem?_eq_some_iff.1 hb).1
  · cases h

theorem keep_of_below {B : Nat} {w w' : World} (h : Below B w w') : Keep B [] w w' := ⟨h.os, h.tape, h.output, h.size, fun k hk _ => h.block k hk⟩

/-- A new slice is handed back, and nothing turns. -/
theorem row_back {S0 : Snap} {w0 w : World} {v : Value} {e : TypeId} {T : Ty} (hT : T.size = 1) {xs : List Value} {es : List AV} (ha : ∀ p v, S0 p = some v → w0.cell? p = some v) (hb : Below w0.heap.size w0 w)
    (hrow : w.ownsRow w0.heap.size e 1 v es.length xs) (hrep : ∀ (i : Nat) y, es[i]? = some y → ∃ u, xs[i]? = some u ∧ ∀ S, Rep S T [u] y) :
    ∃ S v', (Ending.returned v) = .returned v' ∧ S0.le S ∧ (∀ p u, S p = some u → S0 p = some u ∨ w0.heap.size ≤ p.block) ∧ (∀ p u, S p = some u → w.cell? p = some u) ∧
      Keep w0.heap.size [] w0 w ∧ ResRel S w w0.heap.size [.val (.slice T)] ⟨[.slice es], [], true⟩ v' ∧ OutsRel S w [] [] [] := by
  have hold : ∀ p u, S0 p = some u → w.cell? p = some u := fun p u h => by
    have h1 := ha p u h
    exact (hb.cell (cell_parts h1).2).trans h1
  have hcells := fun g cap (hv : v = .slice (some ⟨g, 0, none⟩) es.length cap) => own_cell (g := g) (cap := cap) (by rw [← hv]; exact hrow)
  rcases hrow.2 with ⟨rfl, h0⟩ | ⟨g, cap, cur, rfl, hg, hh, h1, h2, h3, h4⟩
  · have he : es = [] := List.length_eq_zero_iff.1 h0
    subst he
    refine ⟨S0, _, rfl, Snap.le_refl _, fun p u h => .inl h, hold, keep_of_below hb, ⟨_, rfl, ⟨[.slice none 0 0], (val_one rfl _).symm, none, 0, 0, [], rfl, rfl, rfl, Nat.le_refl _, Nat.zero_le _, fun _ => rfl, fun p hp => by cases hp⟩, fun _ => ⟨T, rfl, .inl rfl⟩⟩, rfl, rfl⟩
  · have hoff : S0.off g 0 := fun p hp _ => by
      cases hs : S0 p with
      | none => rfl
      | some u => have := (cell_parts (ha p u hs)).2; omega
    have hlen : xs.length = es.length := by rw [hrow.1]; simp
    refine ⟨S0.plus g 0 xs, _, rfl, Snap.le_plus _ _ _ _, fun p u h => ?_, fun p u h => ?_, keep_of_below hb, ⟨_, rfl, ⟨[.slice (some ⟨g, 0, none⟩) es.length cap], (val_one rfl _).symm, some ⟨g, 0, none⟩, es.length, cap, es, rfl, rfl, rfl, h1, h2, (fun h => by cases h), fun p hp i y hy => ?_⟩, fun _ => ⟨T, rfl, .inr ⟨g, es.length, cap, cur.toList, rfl, hg, ⟨e, by rw [hh]⟩, by rw [hT]; simpa using h3, h1, h2, ?_⟩⟩⟩, rfl, rfl⟩
    · rcases Snap.plus_new h with k | ⟨k, _⟩
      · exact .inl k
      · exact .inr (by rw [k]; exact hg)
    · rcases Snap.plus_new h with k | ⟨k1, k2, _, k4⟩
      · exact hold p u k
      · have := hcells g cap rfl p.off u (by simpa using k4)
        rw [← this]
        congr 1
        cases p
        simp at k1 k2
        subst k1 k2
        unfold Addr.add
        split <;> simp_all
    · cases hp
      obtain ⟨u, hu, hr⟩ := hrep i y hy
      refine ⟨[u], ?_, by rw [hT]; rfl, hr _⟩
      intro j w hj
      have h5 := Snap.plus_has xs hoff i u hu
      match j, hj with
      | 0, hj =>
        cases hj
        rw [hT, Nat.mul_one]
        rw [show ((⟨g, 0, none⟩ : Addr).add i).add 0 = (⟨g, 0, none⟩ : Addr).add i by simp [Addr.add]]
        exact h5
    · have := Snap.plus_off xs hoff
      rw [Nat.zero_add, hlen] at this
      rw [hT, Nat.mul_one]
      exact this

end Go.Proofs.YteiahdlklppghaaGreat.Ev
