/- way.Between: what it hands back. -/
import Derived.Shelf.Slices.Reverse
import Derived.Shelf.Abstract
import Derived.Shelf.RegionOpen
import Derived.WalkKit
import Derived.OwnWalkIn
import Derived.TacticsInMore
import Derived.LoopNIn
import Derived.LoopIn
import Derived.Maps.AppendAt
import Derived.Test.YtogehijjhibdkaaGreatEvSWalk
import Derived.Test.YtogehijjhibdkaaGreatShelf
import Derived.Test.YtogehijjhibdkaaGreatEvSSides
namespace Go.Proofs.YtogehijjhibdkaaGreat.Ev
open Go Go.RowKit Go.Shelf Go.Sort

attribute [local go_sem] Oper.semAt_some

/-- Whole numbers in a row, from a place on. -/
def IntRow (B : Nat) (w : World) (v : Value) (zs : List Int) (n : Nat) : Prop :=
  ∃ ad cap, v = .slice ad n cap ∧ n ≤ cap ∧ (zs ≠ [] → ∃ g cs tid, ad = some ⟨g, 0, none⟩ ∧ B ≤ g ∧ w.heap[g]? = some (.cells cs tid (0, 0)) ∧ cs.size = cap ∧ cap ≤ maxLen ∧ cs.toList.take zs.length = zs.map (Value.int .i64))

theorem walk_calls {S0 : Snap} {w : World} {v : Value} {L : List AV} {x «to» : Int} (ha : ∀ p u, S0 p = some u → w.cell? p = some u) (hv : VRep S0 (.slice (.int .i64)) v (.slice L)) (hL : L.length ≤ 100000)
    (hx : (Lit.int .i64 x).wf = true) (ht : (Lit.int .i64 «to»).wf = true) :
    Calls Tryz.prog 58 #[v, .int .i64 x, .int .i64 «to»] w fun e w' => ∃ v', e = .returned v' ∧ IntRow w.heap.size w' v' ((walkV L x «to»).map AV.toInt) (walkV L x «to»).length ∧ Below w.heap.size w w' ∧ ∀ p u, S0 p = some u → w'.cell? p = some u := by
  have hr : Runs G noExt 58 [.slice L, .int x, .int «to»] ⟨[.slice (walkV L x «to»)], [], true⟩ := walk_e (e := noExt) hL
  have hs := sat_of_runs types_ok fns_ok (f := 58) (i := f58_info) (by kernel_rfl) hr
  refine (hs S0 w [v, .int .i64 x, .int .i64 «to»] [] ha ?_ (by simp)).mono ?_
  · exact ⟨v, _, _, _, rfl, rfl, hv, .int .i64 x, _, .int x, _, rfl, rfl, VRep.int_mk hx, .int .i64 «to», _, .int «to», _, rfl, rfl, VRep.int_mk ht, rfl, rfl, rfl⟩
  · rintro e w' ⟨S, v', rfl, hle, hnew, hag, hk, ⟨y, hy, hvr, hown⟩, _⟩
    cases hy
    obtain ⟨E, hE, hrow⟩ := hown rfl
    cases hE
    obtain ⟨a, len, cap, es, rfl, he, hlen, hlc, hcm, _, hes⟩ := hvr.slice
    cases he
    refine ⟨_, rfl, ⟨a, cap, by rw [hlen], by omega, fun hne => ?_⟩, hk.below, fun p u h => hag p u (hle p u h)⟩
    rw [List.length_map, hlen]
    rcases hrow with h | ⟨g, n, cap', cs, h, hB, ⟨tid, hg⟩, hcs, hn, hcap, _⟩
    · cases h
      exact absurd (List.map_eq_nil_iff.2 (List.length_eq_zero_iff.1 hlen)) hne
    · cases h
      refine ⟨g, cs.toArray, tid, rfl, hB, hg, by simpa [Ty.size] using hcs, hcap, ?_⟩
      apply List.ext_getElem?
      intro j
      rw [List.getElem?_take, List.getElem?_map, List.getElem?_map]
      split
      · rename_i hj
        have hj2 : j < (walkV L x «to»).length := by omega
        obtain ⟨ds, q1, q2, q3⟩ := hes ⟨g, 0, none⟩ rfl j _ (List.getElem?_eq_getElem hj2)
        obtain ⟨z, rfl, hz, _⟩ := q3
        have q4 := hag _ _ (q1 0 _ rfl)
        rw [add_plain, add_plain, cell_of_row w' g _ _ tid (0, 0) hg] at q4
        rw [List.getElem?_eq_getElem hj2, hz]
        simpa [Ty.size, AV.toInt] using q4
      · rename_i hj
        rw [List.getElem?_eq_none (by omega)]
        rfl

theorem walkV_ints (L : List AV) (x «to» : Int) : ∃ zs : List Int, walkV L x «to» = zs.map AV.int := by
  have key : ∀ (j : Nat) (x : Int) (r : List AV), walkG L «to» j x = some r → ∃ zs : List Int, r = zs.map AV.int := by
    intro j
    induction j with
    | zero => intro x r h; cases h; exact ⟨[], rfl⟩
    | succ j ih =>
      intro x r h
      simp only [walkG] at h
      cases h1 : ltI «to» x with
      | false => rw [h1] at h; cases h; exact ⟨[], rfl⟩
      | true =>
        rw [h1, cond_true] at h
        cases h2 : (farV L x «to»).2 with
        | false => rw [h2] at h; cases h
        | true =>
          rw [h2, cond_true] at h
          obtain ⟨r', h3, rfl⟩ := Option.map_eq_some_iff.1 h
          obtain ⟨zs, rfl⟩ := ih _ _ h3
          exact ⟨(farV L x «to»).1 :: zs, rfl⟩
  unfold walkV
  split
  · exact ⟨[], rfl⟩
  · cases h : walkG L «to» x.toNat x with
    | none => exact ⟨[], rfl⟩
    | some r =>
      obtain ⟨zs, rfl⟩ := key _ _ _ h
      exact ⟨x :: zs, rfl⟩

theorem walkV_two {L : List AV} {x «to» : Int} (h : walkV L x «to» ≠ []) (hlt : «to» < x) : 2 ≤ (walkV L x «to»).length := by
  unfold walkV at h ⊢
  by_cases hc : «to» < 0 ∨ x < «to» ∨ (L.length : Int) ≤ x
  · rw [if_pos hc] at h; exact absurd rfl h
  · rw [if_neg hc] at h ⊢
    obtain ⟨j, hj⟩ : ∃ j, x.toNat = j + 1 := ⟨x.toNat - 1, by omega⟩
    rw [hj] at h ⊢
    simp only [walkG] at h ⊢
    rw [ltI_t hlt, cond_true] at h ⊢
    cases h2 : (farV L x «to»).2 with
    | false => rw [h2] at h; exact absurd rfl h
    | true =>
      rw [h2, cond_true] at h
      rw [cond_true]
      cases h3 : walkG L «to» j (farV L x «to»).1 with
      | none => rw [h3] at h; exact absurd rfl h
      | some r => simp

theorem walkV_le {L : List AV} {x «to» : Int} : (walkV L x «to»).length ≤ L.length := by
  have key : ∀ (j : Nat) (x : Int) (r : List AV), walkG L «to» j x = some r → r.length ≤ j := by
    intro j
    induction j with
    | zero => intro x r h; cases h; exact Nat.le_refl 0
    | succ j ih =>
      intro x r h
      simp only [walkG] at h
      cases h1 : ltI «to» x with
      | false => rw [h1] at h; cases h; exact Nat.zero_le _
      | true =>
        rw [h1, cond_true] at h
        cases h2 : (farV L x «to»).2 with
        | false => rw [h2] at h; cases h
        | true =>
          rw [h2, cond_true] at h
          obtain ⟨r', h3, rfl⟩ := Option.map_eq_some_iff.1 h
          have := ih _ _ h3
          simp only [List.length_cons]
          omega
  unfold walkV
  split
  · exact Nat.zero_le _
  · rename_i hc
    cases h : walkG L «to» x.toNat x with
    | none => exact Nat.zero_le _
    | some r =>
      have := key _ _ _ h
      simp only [Option.map_some, Option.getD_some, List.length_cons]
      omega

theorem wpIn_append_run {F : Fence} {n : Nat} {P : Program} {o : Oper} {a : Act} {w w' : World} {K : Act → World → Prop} {Q : Exit → Act → World → Prop} {s x : Operand} {t : TypeId} {v1 v2 v' : Value}
    (hop : o.op = Op.call { callee := Callee.builtin Builtin.append, args := #[s, x], argTypes := #[t, t] }) (hs : a.eval s = v1) (hx : a.eval x = v2) (hrun : (Builtin.append_ #[t, t] o.type #[v1, v2]).run P w = .ok v' w') (hK : K (a.put o.dst v') w') :
    Oper.wpIn F n P o a w K Q := by
  unfold Oper.wpIn
  refine ⟨?_, ?_⟩
  · simp [Oper.about, hop, resolve, Target.leads, Sem.run_pure]
  · rw [Oper.semAt_plain F _ _ (by rw [hop]; intro c hc'; cases hc')]
    simp [execOp, hop, resolve, invoke, builtin, hs, hx, hrun, Result.andThen]
    exact hK

theorem row_tail {cs : Array Value} {zs : List Int} (h : cs.toList.take zs.length = zs.map (Value.int .i64)) {j : Nat} {u : Value} (hu : ((zs.drop 1).map (Value.int .i64))[j]? = some u) : cs[1 + j]? = some u := by
  rw [List.map_drop, List.getElem?_drop, ← h, List.getElem?_take] at hu
  split at hu
  · simpa using hu
  · cases hu

/-- Onto whole numbers of the call's own from a place on, others are appended. -/
theorem run_append_off {P : Program} {B : Nat} (w : World) (t ty e : TypeId) (i : TypeInfo) (z : Value) (ht : P.underlying t = some (.slice e)) (hi : P.info? e = some i) (hz : i.zero = some z) (hsize : i.size = 1) (hby : i.bytes = 8)
    (g k cap : Nat) (cs : Array Value) (tid : TypeId) (hg : w.heap[g]? = some (.cells cs tid (0, 0))) (hcs : cs.size = cap + 1) (hk : k ≤ cap) (hcm : cap ≤ maxLen) (xs : List Value) (hxl : xs.length = k) (hxs : ∀ (j : Nat) u, xs[j]? = some u → cs[1 + j]? = some u)
    (p : Addr) (m c : Nat) (news : List Value) (hl : news.length = m) (hnews : ∀ j u, news[j]? = some u → w.cell? (p.add j) = some u) (h1 : ∀ u ∈ news, u.oneCell' = true) (hb : k + m ≤ 1000000) (hB : B ≤ g) (hB2 : B ≤ w.heap.size) :
    ∃ v' w', (Builtin.append_ #[t, t] ty #[.slice (some ⟨g, 1, none⟩) k cap, .slice (some p) m c]).run P w = .ok v' w' ∧ Below B w w' ∧ ∃ g' off cap' cs' tid', v' = .slice (some ⟨g', off, none⟩) (k + m) cap' ∧ B ≤ g' ∧ w'.heap[g']? = some (.cells cs' tid' (0, 0)) ∧ k + m ≤ cap' ∧ cap' ≤ maxLen ∧ ∀ (j : Nat) u, (xs ++ news)[j]? = some u → cs'[off + j]? = some u := by
  by_cases hroom : k + m ≤ cap
  · have hf := run_firstCells_some (P := P) w i.size m p m c news (by rw [hsize, hl, Nat.mul_one]) hnews
    have hst := run_storeCells_at P g (1 + k) tid news 0 cs w hg (by omega) h1
    simp only [Nat.add_zero] at hst
    have had : (⟨g, 1, none⟩ : Addr).add k = ⟨g, 1 + k, none⟩ := by unfold Addr.add; split <;> simp_all
    refine ⟨.slice (some ⟨g, 1, none⟩) (k + m) cap, w.setRow g (cs.toList.take (1 + k) ++ news ++ cs.toList.drop (1 + k + news.length)).toArray, ?_, ?_, g, 1, cap, _, tid, rfl, hB, setRow_heap w g _ _ _ _ hg, hroom, hcm, ?_⟩
    · rw [hsize] at hf
      simp [Builtin.append_, run_underlying ht, sizeOf, typeInfo, hi, Builtin.lenOf, hroom, hf, hsize, had, hst]
    · exact ⟨rfl, rfl, rfl, by simp, fun q hq => setRow_other w g q _ (by omega)⟩
    · intro j u hj
      have htk : (cs.toList.take (1 + k)).length = 1 + k := by simp; omega
      rw [List.getElem?_toArray, List.append_assoc]
      by_cases hjk : j < k
      · rw [List.getElem?_append_left (by omega), List.getElem?_take, if_pos (by omega)]
        rw [List.getElem?_append_left (by omega)] at hj
        simpa using hxs j u hj
      · rw [List.getElem?_append_right (by omega), htk]
        rw [List.getElem?_append_right (by omega), hxl] at hj
        have := (List.getElem?_eq_some_iff.1 hj).1
        rw [List.getElem?_append_left (by omega), show 1 + j - (1 + k) = j - k by omega]
        exact hj
  · have hgrow := run_append_grow (P := P) w t ty e i z ht hi hz ⟨g, 1, none⟩ k cap xs (by rw [hsize, hxl, Nat.mul_one]) (fun j v hv => by
      rw [show (⟨g, 1, none⟩ : Addr).add j = ⟨g, 1 + j, none⟩ by unfold Addr.add; split <;> simp_all, cell_of_row w g _ _ tid (0, 0) hg]
      exact hxs j v hv) p m c news (by rw [hsize, hl, Nat.mul_one]) hnews (by omega) (by omega) (by rw [hby]; exact growslice_fits (by omega) (by omega))
    refine ⟨_, _, hgrow, ?_, w.heap.size, 0, _, _, e, rfl, hB2, heap_alloc_new w.drew _, grownCap_ge _ _ _ _, grownCap_le_maxLen _ _ _ _ (by rw [maxLen_eq]; omega), ?_⟩
    · exact ⟨rfl, rfl, rfl, by simp, fun q hq => heap_alloc_old w.drew _ (Nat.lt_of_lt_of_le hq hB2)⟩
    · intro j u hj
      have hlt := (List.getElem?_eq_some_iff.1 hj).1
      rw [Nat.zero_add, Array.getElem?_append_left (by simpa using hlt)]
      simpa using hj

theorem rev_holds {w : World} {g o : Nat} {cs : Array Value} {tid : TypeId} (hh : w.heap[g]? = some (.cells cs tid (0, 0))) {zs : List Int} (h : ∀ (j : Nat) u, (zs.map (Value.int .i64))[j]? = some u → cs[o + j]? = some u) : Holds (Value.int .i64) w g o zs.dropLast.toArray := by
  intro j hj
  have hj1 : j < zs.dropLast.length := by simpa using hj
  have hj2 : j < zs.length := by rw [List.length_dropLast] at hj1; omega
  have he : zs.dropLast.toArray[j]! = zs[j] := by
    rw [getElem!_pos _ j hj, List.getElem_toArray, List.getElem_dropLast]
  refine ⟨?_, by simp [World.frozen?, hh]⟩
  rw [cell_of_row w g _ _ tid (0, 0) hh, he]
  exact h j _ (by rw [List.getElem?_map, List.getElem?_eq_getElem hj2]; rfl)

theorem rev_below {w : World} {g o n B : Nat} {d : Array Int} (hB : B ≤ g) : Below B w (putRow (Value.int .i64) (Sort.ahead w n) g o d) := by
  refine ⟨rfl, rfl, rfl, ?_, fun q hq => ?_⟩
  · unfold putRow mapBlock
    simp
  · unfold putRow mapBlock
    show (w.heap.modify g _)[q]? = _
    rw [Array.getElem?_modify, if_neg (by omega)]

theorem rev_cells {w : World} {g o n : Nat} {zs : List Int} (h : Holds (Value.int .i64) w g o zs.toArray) {j : Nat} {z : AV} (hz : (zs.reverse.map AV.int)[j]? = some z) : (putRow (Value.int .i64) (Sort.ahead w n) g o zs.reverse.toArray).cell? ⟨g, o + j, none⟩ = some (.int .i64 z.toInt) := by
  have hj : j < zs.reverse.length := by simpa using (List.getElem?_eq_some_iff.1 hz).1
  rw [cell?_putRow (Value.int .i64) _ g o zs.toArray _ (holds_ahead _ w n g o _ h) (by simp) j (by simpa using hj)]
  rw [List.getElem?_map, List.getElem?_eq_getElem hj] at hz
  cases hz
  rw [getElem!_pos _ j (by simpa using hj), List.getElem_toArray]
  rfl

theorem callsIn_post {F : Fence} {n : Nat} {P : Program} {f : FuncId} {args : Array Value} {w : World} {R : Ending → World → Prop} (h : ∀ Q : Ending → World → Prop, (∀ e w', R e w' → Q e w') → CallsIn F n P f args w Q) : CallsIn F n P f args w R := h R fun _ _ h => h

set_option maxRecDepth 100000 in
set_option maxHeartbeats 400000 in
theorem between_in (m : Nat) {S0 : Snap} {w : World} {ad : Option Addr} {ln cp : Nat} {L : List AV} {high at_ low : Int} (ha : ∀ p u, S0 p = some u → w.cell? p = some u) (hv : VRep S0 (.slice (.int .i64)) (.slice ad ln cp) (.slice L)) (hL : L.length ≤ 100000)
    (h1 : (Lit.int .i64 high).wf = true) (h2 : (Lit.int .i64 at_).wf = true) (h3 : (Lit.int .i64 low).wf = true) :
    CallsIn Fence.wide m Tryz.prog 27 #[.slice ad ln cp, .int .i64 high, .int .i64 at_, .int .i64 low] w fun e w' => ∃ v, e = .returned v ∧ Below w.heap.size w w' ∧
      ∃ ad' cap off, v = .slice ad' (betV L high at_ low).length cap ∧ (betV L high at_ low).length ≤ cap ∧ cap ≤ maxLen ∧ (ad' = none → cap = 0) ∧ (betV L high at_ low ≠ [] → ∃ g, ad' = some ⟨g, off, none⟩ ∧ w.heap.size ≤ g ∧ ∀ j z, (betV L high at_ low)[j]? = some z → w'.cell? ⟨g, off + j, none⟩ = some (.int .i64 z.toInt)) := by
  obtain ⟨A, hA⟩ := walkV_ints L high at_
  obtain ⟨C, hC⟩ := walkV_ints L at_ low
  have eA : (walkV L high at_).map AV.toInt = A := by rw [hA, List.map_map]; exact List.map_id A
  have eC : (walkV L at_ low).map AV.toInt = C := by rw [hC, List.map_map]; exact List.map_id C
  have c1 := fun k w (ha : ∀ p u, S0 p = some u → w.cell? p = some u) => callsIn_wide (n := k).2 (walk_calls (w := w) (x := high) («to» := at_) ha hv hL h1 h2)
  have c2 := fun k w (ha : ∀ p u, S0 p = some u → w.cell? p = some u) => callsIn_wide (n := k).2 (walk_calls (w := w) (x := at_) («to» := low) ha hv hL h2 h3)
  rw [eA] at c1
  rw [eC] at c2
  have lA : (walkV L high at_).length = A.length := by rw [hA, List.length_map]
  have lC : (walkV L at_ low).length = C.length := by rw [hC, List.length_map]
  rw [lA] at c1
  rw [lC] at c2
  have hbet : betV L high at_ low = if A.length = 0 ∨ C.length = 0 ∨ high ≤ at_ ∨ at_ ≤ low then [] else ((A.drop 1 ++ C.drop 1).dropLast).reverse.map AV.int := by
    unfold betV
    rw [lA, lC, hA, hC]
    split
    · rfl
    · rw [← List.map_drop, ← List.map_drop, ← List.map_append, ← List.map_dropLast, List.map_reverse]
  rw [hbet]
  have twoA : A.length ≠ 0 → at_ < high → 2 ≤ A.length := fun h1 h2 => by
    rw [← lA] at h1 ⊢
    exact walkV_two (fun e => h1 (by rw [e]; rfl)) h2
  have twoC : C.length ≠ 0 → low < at_ → 2 ≤ C.length := fun h1 h2 => by
    rw [← lC] at h1 ⊢
    exact walkV_two (fun e => h1 (by rw [e]; rfl)) h2
  have bA : A.length ≤ 100000 := by rw [← lA]; exact Nat.le_trans walkV_le hL
  have bC : C.length ≤ 100000 := by rw [← lC]; exact Nat.le_trans walkV_le hL
  clear hbet hA hC eA eC lA lC
  generalize hnA : A.length = nA at c1 twoA ⊢
  generalize hnC : C.length = nC at c2 twoC ⊢
  have hmx : Tryz.prog.follows .mixedOrders = true := by kernel_rfl
  refine callsIn_post (fun Q hQ => ?_)
  refine callsIn_of_wp Tryz.func27 rfl trivial ?_ rfl
  simp only [Tryz.ntmps27, List.size_toArray, List.length_cons, List.length_nil, Nat.reduceAdd, Nat.reduceSub, Array.replicate_succ, Array.replicate_zero, List.push_toArray, List.append_toArray, List.nil_append, List.cons_append]
  have hnil : nA = 0 ∨ nC = 0 ∨ high ≤ at_ ∨ at_ ≤ low → ∀ w', Below w.heap.size w w' → Q (.returned (.slice none 0 0)) w' := by
    intro h w' hb
    apply hQ
    rw [if_pos h]
    exact ⟨_, rfl, hb, none, 0, 0, rfl, Nat.le_refl 0, Nat.zero_le _, fun _ => rfl, fun h => absurd rfl h⟩
  have HQ : Hid _ := hQ
  have HN : Hid _ := hnil
  clear hQ hnil
  gi_wp2
  refine ⟨trivial, fun h => (by cases h), (c1 _ _ ha).mono ?_⟩
  rintro e w1 ⟨v1, rfl, ⟨ad1, cp1, rfl, hle1, hr1⟩, hb1, ha1⟩
  gi_wp2
  refine ⟨trivial, fun h => (by cases h), (c2 _ _ ha1).mono ?_⟩
  rintro e w2 ⟨v2, rfl, ⟨ad2, cp2, rfl, hle2, hr2⟩, hb2, ha2⟩
  clear c1 c2
  have hb12 : Below w.heap.size w w2 := hb1.trans (hb2.mono hb1.size)
  by_cases hc0 : nA = 0 ∨ nC = 0 ∨ high ≤ at_ ∨ at_ ≤ low
  · have hq := HN.out hc0 w2 hb12
    clear HQ HN hr1 hr2 twoA twoC
    by_cases g1 : nA = 0
    · subst g1
      gi_wp2
      exact hq
    by_cases g2 : nC = 0
    · subst g2
      gi_wp2
      exact hq
    by_cases g3 : high ≤ at_
    · gi_wp2
      exact hq
    by_cases g4 : at_ ≤ low
    · gi_wp2
      exact hq
    exfalso
    omega
  clear HN
  have hQ1 := HQ.out
  rw [if_neg hc0] at hQ1
  clear HQ
  have HQ : Hid _ := hQ1
  clear hQ1
  have g1 : nA ≠ 0 := fun h => hc0 (.inl h)
  have g2 : nC ≠ 0 := fun h => hc0 (.inr (.inl h))
  have g3 : ¬ high ≤ at_ := fun h => hc0 (.inr (.inr (.inl h)))
  have g4 : ¬ at_ ≤ low := fun h => hc0 (.inr (.inr (.inr h)))
  clear hc0
  obtain ⟨gA, csA, tA, rfl, hgA, hhA, hsA, hmA, htA⟩ := hr1 (fun h => g1 (by rw [← hnA, h]; rfl))
  obtain ⟨gC, csC, tC, rfl, hgC, hhC, hsC, hmC, htC⟩ := hr2 (fun h => g2 (by rw [← hnC, h]; rfl))
  clear hr1 hr2
  have tA2 := twoA g1 (by omega)
  have tC2 := twoC g2 (by omega)
  clear twoA twoC
  obtain ⟨a, rfl⟩ : ∃ a, nA = a + 2 := ⟨nA - 2, by omega⟩
  obtain ⟨c, rfl⟩ : ∃ c, nC = c + 2 := ⟨nC - 2, by omega⟩
  obtain ⟨pa, rfl⟩ : ∃ pa, cp1 = pa + 2 := ⟨cp1 - 2, by omega⟩
  obtain ⟨pc, rfl⟩ : ∃ pc, cp2 = pc + 2 := ⟨cp2 - 2, by omega⟩
  gi_wp2_with fail
  · rename_i hc
    exfalso
    simp at hc
    omega
  have hA' : w2.heap[gA]? = some (.cells csA tA (0, 0)) := by
    rw [hb2.block gA (Array.getElem?_eq_some_iff.1 hhA).1]; exact hhA
  obtain ⟨i0, hi0, hz0, hs0, hy0⟩ : ∃ i, Tryz.prog.info? 3 = some i ∧ i.zero = some (.int .i64 0) ∧ i.size = 1 ∧ i.bytes = 8 := by
    have e1 : (Tryz.prog.info? 3).map (fun i => i.zero) = some (some (.int .i64 0)) := by kernel_rfl
    have e2 : (Tryz.prog.info? 3).map (fun i => i.size) = some 1 := by kernel_rfl
    have e3 : (Tryz.prog.info? 3).map (fun i => i.bytes) = some 8 := by kernel_rfl
    cases h : Tryz.prog.info? 3 with
    | none => rw [h] at e1; cases e1
    | some i =>
      rw [h] at e1 e2 e3
      exact ⟨i, rfl, Option.some.inj e1, Option.some.inj e2, Option.some.inj e3⟩
  have q1 : ∀ (j : Nat) u, ((A.drop 1).map (Value.int .i64))[j]? = some u → csA[1 + j]? = some u := fun j u hu => row_tail htA hu
  have q2 : ∀ j u, ((C.drop 1).map (Value.int .i64))[j]? = some u → w2.drew.cell? ((⟨gC, 1, none⟩ : Addr).add j) = some u := fun j u hu => by
    rw [show (⟨gC, 1, none⟩ : Addr).add j = ⟨gC, 1 + j, none⟩ by unfold Addr.add; split <;> simp_all, cell_of_row w2.drew gC _ _ tC (0, 0) hhC]
    exact row_tail htC hu
  have q3 : ∀ u ∈ (C.drop 1).map (Value.int .i64), u.oneCell' = true := fun u hu => by
    obtain ⟨z, _, rfl⟩ := List.mem_map.1 hu
    rfl
  have q4 : w.heap.size ≤ w2.drew.heap.size := Nat.le_trans hb1.size hb2.size
  obtain ⟨v4, w4, hrun, hb4, gD, oD, cD, csD, tD, rfl, hgD, hhD, hlD, hmD, htD⟩ := run_append_off (P := Tryz.prog) (B := w.heap.size) w2.drew 38 38 3 i0 _ (by kernel_rfl) hi0 hz0 hs0 hy0
    gA (a + 1) (pa + 1) csA tA hA' (by omega) (by omega) (by omega) ((A.drop 1).map (Value.int .i64)) (by simp; omega) q1
    ⟨gC, 1, none⟩ (c + 1) (pc + 1) ((C.drop 1).map (Value.int .i64)) (by simp; omega) q2 q3 (by omega) hgA q4
  clear hi0 hz0 hs0 hy0 q1 q2 q3 htA htC
  rw [← List.map_append] at htD
  generalize hzs : A.drop 1 ++ C.drop 1 = zs at htD ⊢
  have hzl : zs.length = a + c + 1 + 1 := by rw [← hzs, List.length_append, List.length_drop, List.length_drop, hnA, hnC]; omega
  rw [show a + 1 + (c + 1) = a + c + 1 + 1 by omega] at hlD hrun
  generalize hn : a + c + 1 = n at hzl hlD hrun
  have hbd : a + c ≤ 200000 := by omega
  obtain ⟨pd, rfl⟩ : ∃ pd, cD = n + 1 + pd := ⟨cD - (n + 1), by omega⟩
  have hH := rev_holds hhD htD
  have hdl : zs.dropLast.length = n := by rw [List.length_dropLast]; omega
  have crev := fun k => callsIn_wide (n := k).2 (Tryz.slices_Reverse_int gD oD (n + 1 + pd) zs.dropLast w4 hH (by rw [hdl]; omega))
  rw [hdl] at crev
  have hfin : ∀ nd, ∃ v, Ending.returned (Value.slice (some ⟨gD, oD, none⟩) n (n + 1 + pd)) = .returned v ∧ Below w.heap.size w (putRow (Value.int .i64) (Sort.ahead w4 nd) gD oD zs.dropLast.reverse.toArray) ∧
      ∃ ad' cap off, v = .slice ad' (zs.dropLast.reverse.map AV.int).length cap ∧ (zs.dropLast.reverse.map AV.int).length ≤ cap ∧ cap ≤ maxLen ∧ (ad' = none → cap = 0) ∧ (zs.dropLast.reverse.map AV.int ≠ [] → ∃ g, ad' = some ⟨g, off, none⟩ ∧ w.heap.size ≤ g ∧ ∀ (j : Nat) z, (zs.dropLast.reverse.map AV.int)[j]? = some z → (putRow (Value.int .i64) (Sort.ahead w4 nd) gD oD zs.dropLast.reverse.toArray).cell? ⟨g, off + j, none⟩ = some (.int .i64 z.toInt)) := by
    intro nd
    have hll : (zs.dropLast.reverse.map AV.int).length = n := by rw [List.length_map, List.length_reverse, hdl]
    have hbb : Below w.heap.size w w4 := (hb1.trans (hb2.mono hb1.size)).drew.trans hb4
    refine ⟨_, rfl, hbb.trans (rev_below hgD), some ⟨gD, oD, none⟩, n + 1 + pd, oD, by rw [hll], by omega, hmD, (fun h => by cases h), fun _ => ⟨gD, rfl, hgD, fun j z hz => rev_cells hH hz⟩⟩
  have HF : Hid (∀ nd, Q (Ending.returned (Value.slice (some ⟨gD, oD, none⟩) n (n + 1 + pd))) (putRow (Value.int .i64) (Sort.ahead w4 nd) gD oD zs.dropLast.reverse.toArray)) := fun nd => HQ.out _ _ (by rw [hzs]; exact hfin nd)
  clear HQ hfin
  refine wpIn_region_any hmx ?_
  try (change wpAnyIn _ _ _ _ _ _ _ _ _ (World.drew _))
  refine wpAnyIn_take (i := 0) (v := ?_) rfl rfl (by kernel_rfl) (by kernel_rfl) (by kernel_rfl) (fun _ _ _ h => h) ⟨Or.inl ⟨by rfl, ?_⟩, fun _ => rfl⟩ ?_
  rotate_left
  · intro w
    go_simp
    try with_reducible rfl
  refine wpAnyIn_take (i := 2) (v := ?_) rfl rfl (by kernel_rfl) (by kernel_rfl) (by kernel_rfl) (fun _ _ _ h => h) ⟨Or.inl ⟨by rfl, ?_⟩, fun _ => rfl⟩ ?_
  rotate_left
  · intro w
    go_simp
    try with_reducible rfl
  refine wpAnyIn_ready (rs := [1, 3]) (by kernel_rfl) (by simp) ?_
  refine AllReadyIn.cons rfl (fun K hK => ?_) (AllReadyIn.cons rfl (fun K hK => ?_) AllReadyIn.nil)
  · go_simp
    rw [if_pos (by omega)]
    go_simp
    refine hK _ _ ?_
    clear hK K
    refine wpAnyIn_ready (rs := [3]) (by kernel_rfl) (by simp) ?_
    refine AllReadyIn.cons rfl (fun K hK => ?_) AllReadyIn.nil
    go_simp
    rw [if_pos (by omega)]
    go_simp
    refine hK _ _ ?_
    clear hK K
    refine wpAnyIn_ready (rs := [4]) (by kernel_rfl) (by simp) ?_
    refine AllReadyIn.cons rfl (fun K hK => ?_) AllReadyIn.nil
    rw [if_pos (by kernel_rfl)]
    refine wpIn_append_run rfl rfl rfl hrun ?_
    refine hK _ _ ?_
    clear hK K
    refine wpAnyIn_ready (rs := [5]) (by kernel_rfl) (by simp) ?_
    refine AllReadyIn.cons rfl (fun K hK => ?_) AllReadyIn.nil
    go_simp
    refine hK _ _ ?_
    clear hK K
    refine wpAnyIn_done (by kernel_rfl) ?_ _
    gi_wp2_with fail
    refine ⟨trivial, fun h => (by cases h), (crev _).mono ?_⟩
    rintro e w5 ⟨rfl, nd, rfl⟩
    gi_wp2
    exact HF.out nd
  · go_simp
    rw [if_pos (by omega)]
    go_simp
    refine hK _ _ ?_
    clear hK K
    refine wpAnyIn_ready (rs := [1]) (by kernel_rfl) (by simp) ?_
    refine AllReadyIn.cons rfl (fun K hK => ?_) AllReadyIn.nil
    go_simp
    rw [if_pos (by omega)]
    go_simp
    refine hK _ _ ?_
    clear hK K
    refine wpAnyIn_ready (rs := [4]) (by kernel_rfl) (by simp) ?_
    refine AllReadyIn.cons rfl (fun K hK => ?_) AllReadyIn.nil
    rw [if_pos (by kernel_rfl)]
    refine wpIn_append_run rfl rfl rfl hrun ?_
    refine hK _ _ ?_
    clear hK K
    refine wpAnyIn_ready (rs := [5]) (by kernel_rfl) (by simp) ?_
    refine AllReadyIn.cons rfl (fun K hK => ?_) AllReadyIn.nil
    go_simp
    refine hK _ _ ?_
    clear hK K
    refine wpAnyIn_done (by kernel_rfl) ?_ _
    gi_wp2_with fail
    refine ⟨trivial, fun h => (by cases h), (crev _).mono ?_⟩
    rintro e w5 ⟨rfl, nd, rfl⟩
    gi_wp2
    exact HF.out nd

theorem walkV_mem {L : List AV} {x «to» : Int} {y : AV} (hy : y ∈ walkV L x «to») : 0 ≤ y.toInt ∧ y.toInt < L.length := by
  have key : ∀ (j : Nat) (x : Int) (r : List AV), 0 ≤ «to» → x < L.length → walkG L «to» j x = some r → ∀ y ∈ r, 0 ≤ y.toInt ∧ y.toInt < L.length := by
    intro j
    induction j with
    | zero => intro x r _ _ h y hy; cases h; cases hy
    | succ j ih =>
      intro x r h0 hx h
      simp only [walkG] at h
      cases h1 : ltI «to» x with
      | false => rw [h1] at h; cases h; intro y hy; cases hy
      | true =>
        rw [h1, cond_true] at h
        cases h2 : (farV L x «to»).2 with
        | false => rw [h2] at h; cases h
        | true =>
          rw [h2, cond_true] at h
          obtain ⟨r', h3, rfl⟩ := Option.map_eq_some_iff.1 h
          have hin := farV_in h2
          intro y hy
          rcases List.mem_cons.1 hy with rfl | hy
          · show 0 ≤ (farV L x «to»).1 ∧ (farV L x «to»).1 < _
            omega
          · exact ih _ _ h0 (by omega) h3 y hy
  unfold walkV at hy
  split at hy
  · cases hy
  · rename_i hc
    cases h : walkG L «to» x.toNat x with
    | none => rw [h] at hy; cases hy
    | some r =>
      rw [h] at hy
      rcases List.mem_cons.1 hy with rfl | hy
      · show 0 ≤ x ∧ x < _
        omega
      · exact key _ _ _ (by omega) (by omega) h y hy

theorem betV_mem {L : List AV} {high at_ low : Int} {y : AV} (hy : y ∈ betV L high at_ low) : ∃ z : Int, y = .int z ∧ 0 ≤ z ∧ z < L.length := by
  have key : ∀ (x «to» : Int), y ∈ (walkV L x «to») → ∃ z : Int, y = .int z ∧ 0 ≤ z ∧ z < L.length := by
    intro x «to» h
    obtain ⟨zs, hz⟩ := walkV_ints L x «to»
    have h1 := walkV_mem h
    rw [hz] at h
    obtain ⟨z, _, rfl⟩ := List.mem_map.1 h
    exact ⟨z, rfl, h1⟩
  unfold betV at hy
  split at hy
  · cases hy
  · have h1 := List.dropLast_subset _ (List.mem_reverse.1 hy)
    rcases List.mem_append.1 h1 with h2 | h2
    · exact key _ _ (List.mem_of_mem_drop h2)
    · exact key _ _ (List.mem_of_mem_drop h2)

theorem between_sat {xs : List AV} {r : Res} (h : betweenX xs = some r) : Sat Tryz.prog f27_info 27 xs r := by
  intro S0 w0 vs bs ha hargs _
  obtain ⟨v1, vs1, x1, xs1, rfl, rfl, hv1, v2, vs2, x2, xs2, rfl, rfl, hv2, v3, vs3, x3, xs3, rfl, rfl, hv3, v4, vs4, x4, xs4, rfl, rfl, hv4, rfl, rfl, rfl⟩ := hargs
  have hv1' := hv1
  obtain ⟨a, len, cap, L, rfl, rfl, _⟩ := hv1'.slice
  obtain ⟨cs2, rfl, high, rfl, rfl, hw2⟩ := hv2
  obtain ⟨cs3, rfl, at_, rfl, rfl, hw3⟩ := hv3
  obtain ⟨cs4, rfl, low, rfl, rfl, hw4⟩ := hv4
  unfold betweenX at h
  simp only [toInt_i, toSlice_s] at h
  cases hb : Nat.ble L.length 100000 with
  | false => rw [hb] at h; cases h
  | true =>
  rw [hb, cond_true] at h
  cases h
  have hL := Nat.le_of_ble_eq_true hb
  rw [val_one rfl, val_one rfl, val_one rfl]
  refine (callsIn_wide.1 (between_in 3 ha hv1 hL hw2 hw3 hw4)).mono fun e w' he => ?_
  obtain ⟨v, rfl, hbel, ad', cap', off, rfl, hlc, hcm, hno, hcells⟩ := he
  have hold : ∀ p u, S0 p = some u → w'.cell? p = some u := fun p u h => (hbel.cell (cell_parts (ha p u h)).2).trans (ha p u h)
  generalize hB : betV L high at_ low = R at hlc hcells ⊢
  have hRm : ∀ (j : Nat) y, R[j]? = some y → ∃ z : Int, y = .int z ∧ (Lit.int .i64 z).wf = true := fun j y hy => by
    have hm := List.mem_of_getElem? hy
    rw [← hB] at hm
    obtain ⟨z, rfl, h0, h1⟩ := betV_mem hm
    refine ⟨z, rfl, ?_⟩
    have hw := wrap_wf .i64 z
    rwa [w64 (by omega) (by omega)] at hw
  by_cases hR : R = []
  · subst hR
    exact ⟨S0, _, rfl, Snap.le_refl _, fun p u h => .inl h, hold, keep_of_below hbel, ⟨_, rfl, ⟨[.slice ad' 0 cap'], (val_one rfl _).symm, ad', 0, cap', [], rfl, rfl, rfl, Nat.zero_le _, hcm, hno, fun p hp i y hy => by simp at hy⟩, fun h => by cases h⟩, rfl, rfl⟩
  · obtain ⟨g, rfl, hg, hc⟩ := hcells hR
    have hoff : S0.off g off := fun p hp _ => by
      cases hs : S0 p with
      | none => rfl
      | some u => have := (cell_parts (ha p u hs)).2; omega
    refine ⟨S0.plus g off (R.map fun y => .int .i64 y.toInt), _, rfl, Snap.le_plus _ _ _ _, fun p u h => ?_, fun p u h => ?_, keep_of_below hbel, ⟨_, rfl, ⟨[.slice (some ⟨g, off, none⟩) R.length cap'], (val_one rfl _).symm, some ⟨g, off, none⟩, R.length, cap', R, rfl, rfl, rfl, hlc, hcm, (fun h => by cases h), fun p hp i y hy => ?_⟩, fun h => by cases h⟩, rfl, rfl⟩
    · rcases Snap.plus_new h with k | ⟨k, _⟩
      · exact .inl k
      · exact .inr (by rw [k]; exact hg)
    · rcases Snap.plus_new h with k | ⟨k1, k2, k3, k4⟩
      · exact hold p u k
      · rw [List.getElem?_map] at k4
        obtain ⟨y, hy, rfl⟩ := Option.map_eq_some_iff.1 k4
        have := hc _ _ hy
        rw [← this]
        congr 1
        cases p
        simp at k1 k2 k3
        subst k1 k2
        simp; omega
    · cases hp
      obtain ⟨z, rfl, hz⟩ := hRm i y hy
      refine ⟨[.int .i64 z], ?_, rfl, ⟨z, rfl, rfl, hz⟩⟩
      intro j w hj
      have h5 := Snap.plus_has (R.map fun y => Value.int .i64 y.toInt) hoff i (.int .i64 z) (by rw [List.getElem?_map, hy]; rfl)
      match j, hj with
      | 0, hj =>
        cases hj
        rw [show ((⟨g, off, none⟩ : Addr).add (i * Ty.size (.int .i64))).add 0 = (⟨g, off, none⟩ : Addr).add i by simp [Addr.add, Ty.size]]
        exact h5

end Go.Proofs.YtogehijjhibdkaaGreat.Ev
