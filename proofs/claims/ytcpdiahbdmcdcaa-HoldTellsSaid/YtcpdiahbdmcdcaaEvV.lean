/- Regions that draw their order. -/
import Derived.Test.YtcpdiahbdmcdcaaEvU
namespace Go.Proofs.Ytcpdiahbdmcdcaa.Ev
open Go Go.RowKit

variable {c : Ctx} {P : Program} {G : Env} {run : Run}

/-- An operation that stands out: where, which, what it does. -/
structure Item where
  i : Nat
  o : Oper
  f : Eff

def Chain (G : Env) (run : Run) (all : List Oper) : St → List Item → St → Prop
  | s, [], e => s = e
  | s, x :: r, e => dstOk s x.o.dst = true ∧ stepK G run all x.o s some = some x.f ∧ Chain G run all (x.f.apply x.o.dst s) r e

def Item.foot (all : List Oper) (x : Item) : Foot := footOf all x.o x.f

theorem dstOk_apply (s : St) (f : Eff) (d d' : Option Nat) : dstOk (f.apply d s) d' = dstOk s d' := by
  cases d <;> cases d' <;> simp [dstOk, Eff.apply]

theorem Chain.bubble {all : List Oper} {it : Item} {post : List Item} {e : St} : ∀ (pre : List Item) (s : St), Chain G run all s (pre ++ it :: post) e → (∀ x ∈ pre, (x.foot all).apart (it.foot all) = true) → Chain G run all s (it :: (pre ++ post)) e
  | [], _, h, _ => h
  | x :: pre, s, h, hap => by
    obtain ⟨h1, h2, h3⟩ := h
    obtain ⟨k1, k2, k3⟩ := Chain.bubble pre _ h3 fun y hy => hap y (by simp [hy])
    obtain ⟨m1, m2, m3⟩ := swap (hap x (by simp)) h2 k2
    rw [dstOk_apply] at k1
    refine ⟨k1, m1, ?_, m2, ?_⟩
    · rw [dstOk_apply]; exact h1
    · rw [m3]; exact k3

/- what stands ahead of an operation in every order -/
theorem bef_mem {x : Nat} {acc : List (List Nat)} : ∀ (es : List Edge) (l : List Nat), x ∈ es.foldl (fun l e => bif Region.binds .any e then e.on :: (acc.getD e.on [] ++ l) else l) l →
    x ∈ l ∨ ∃ e ∈ es, Region.binds .any e = true ∧ (x = e.on ∨ x ∈ acc.getD e.on [])
  | [], l, h => .inl h
  | e :: es, l, h => by
    rcases bef_mem es _ h with h | ⟨e', he', h⟩
    · simp only at h
      cases hb : Region.binds .any e with
      | false => rw [hb] at h; exact .inl h
      | true =>
        rw [hb, cond_true] at h
        rcases List.mem_cons.1 h with h | h
        · exact .inr ⟨e, by simp, hb, .inl h⟩
        · rcases List.mem_append.1 h with h | h
          · exact .inr ⟨e, by simp, hb, .inr h⟩
          · exact .inl h
    · exact .inr ⟨e', by simp [he'], h⟩

theorem befores_get : ∀ (r : List Oper) (acc : List (List Nat)), ∃ t, befores r acc = acc ++ t ∧ t.length = r.length ∧ ∀ n o, r[n]? = some o → t[n]? = some (befStep (acc ++ t.take n) o)
  | [], acc => ⟨[], by simp [befores], rfl, by simp⟩
  | o :: r, acc => by
    obtain ⟨t, h1, h2, h3⟩ := befores_get r (acc ++ [befStep acc o])
    refine ⟨befStep acc o :: t, by simp [befores, h1], by simp [h2], fun n o' hn => ?_⟩
    cases n with
    | zero => simp at hn ⊢; subst hn; rfl
    | succ n =>
      have := h3 n o' (by simpa using hn)
      simpa using this

/-- What the noted list tells of one operation. -/
theorem bef_spec {all : List Oper} {j x : Nat} {o : Oper} (ho : all[j]? = some o) (hx : x ∈ (befores all []).getD j []) :
    ∃ e ∈ o.after.toList, Region.binds .any e = true ∧ (x = e.on ∨ x ∈ (befores all []).getD e.on []) := by
  obtain ⟨t, h1, h2, h3⟩ := befores_get all []
  simp only [List.nil_append] at h1 h3
  rw [h1] at hx ⊢
  rw [List.getD, h3 j o ho] at hx
  rcases bef_mem _ _ hx with h | ⟨e, he, hb, h⟩
  · simp at h
  · refine ⟨e, he, hb, h.imp id fun h => ?_⟩
    simp only [List.getD, List.getElem?_take] at h ⊢
    split at h
    · exact h
    · simp at h

theorem edgesOk_spec : ∀ (r : List Oper) (k n : Nat) (o : Oper), edgesOk k r = true → r[n]? = some o → ∀ e ∈ o.after, Region.binds .any e = true → e.on < k + n
  | [], _, _, _, _, h, _, _, _ => by simp at h
  | x :: r, k, n, o, h, ho, e, he, hb => by
    simp only [edgesOk, Bool.and_eq_true, List.all_eq_true] at h
    cases n with
    | zero =>
      simp at ho
      subst ho
      have := h.1 e (by simpa using he)
      rw [hb] at this
      have h2 : Nat.ble (e.on + 1) k = true := by simpa [Nat.blt] using this
      have := Nat.le_of_ble_eq_true h2
      omega
    | succ n =>
      have := edgesOk_spec r (k + 1) n o h.2 (by simpa using ho) e he hb
      omega

theorem against_spec {f : Foot} {bef : List Nat} : ∀ (fs : List Foot) (k : Nat), againstAll f bef fs k = true → ∀ (n : Nat) g, fs[n]? = some g → k + n ∈ bef ∨ g.apart f = true
  | [], _, _, _, _, h => by simp at h
  | g :: fs, k, h, n, g', hg => by
    simp only [againstAll, Bool.and_eq_true, Bool.or_eq_true] at h
    cases n with
    | zero =>
      simp at hg
      subst hg
      exact h.1.imp (fun h => memN_iff.1 h) id
    | succ n =>
      have := against_spec fs (k + 1) h.2 n g' (by simpa using hg)
      rwa [show k + 1 + n = k + (n + 1) by omega] at this

/-- Earlier before later, in every order or far apart. -/
def Apart (all : List Oper) (x y : Item) : Prop := x.i < y.i ∧ (x.i ∈ (befores all []).getD y.i [] ∨ (x.foot all).apart (y.foot all) = true)

theorem drawn_chain {all : List Oper} {α : Type} {K : St → Option α} {res : α} : ∀ (r : List Oper) (fs : List Foot) (s : St), (∀ n, all[fs.length + n]? = r[n]?) → drawnK G run all r ((befores all []).drop fs.length) fs K s = some res →
    ∃ its e, Chain G run all s its e ∧ K e = some res ∧ its.map Item.i = List.range' fs.length r.length ∧ (∀ x ∈ its, all[x.i]? = some x.o) ∧ its.Pairwise (Apart all) ∧
      ∀ x ∈ its, ∀ (n : Nat) g, fs[n]? = some g → n ∈ (befores all []).getD x.i [] ∨ g.apart (x.foot all) = true
  | [], fs, s, _, h => ⟨[], s, rfl, h, rfl, by simp, .nil, by simp⟩
  | o :: r, fs, s, hr, h => by
    simp only [drawnK] at h
    obtain ⟨hd, h⟩ := cond_some h
    rw [refineK_eq, stepK_cps] at h
    obtain ⟨f, hf, h⟩ := bind_some h
    obtain ⟨hag, h⟩ := cond_some h
    have hl : (fs ++ [footOf all o f]).length = fs.length + 1 := by simp
    obtain ⟨its, e, h1, h2, h3, h4, h5, h6⟩ := drawn_chain r (fs ++ [footOf all o f]) (f.apply o.dst s)
      (fun n => by rw [hl, show fs.length + 1 + n = fs.length + (n + 1) by omega, hr (n + 1)]; simp) (by rw [hl]; simpa using h)
    have hge : ∀ x ∈ its, fs.length + 1 ≤ x.i := fun x hx => by
      have : x.i ∈ its.map Item.i := List.mem_map_of_mem hx
      rw [h3, hl] at this
      exact (List.mem_range'_1.1 this).1
    refine ⟨⟨fs.length, o, f⟩ :: its, e, ⟨hd, hf, h1⟩, h2, ?_, ?_, ?_, ?_⟩
    · simp [h3, List.range'_succ]
    · intro x hx
      rcases List.mem_cons.1 hx with rfl | hx
      · simpa using hr 0
      · exact h4 x hx
    · refine List.pairwise_cons.2 ⟨fun y hy => ⟨hge y hy, ?_⟩, h5⟩
      exact h6 y hy fs.length (footOf all o f) (by simp)
    · intro x hx n g hg
      rcases List.mem_cons.1 hx with rfl | hx
      · have := against_spec fs 0 hag n g hg
        simpa [List.headD_eq_head?_getD, List.head?_drop, List.getD, Item.foot] using this
      · have hn := (List.getElem?_eq_some_iff.1 hg).1
        exact h6 x hx n g (by rw [List.getElem?_append_left hn]; exact hg)

structure Inv (ops : Array Oper) (listed : Array Bool) (pend : List Item) : Prop where
  at_ : ∀ x ∈ pend, ops[x.i]? = some x.o
  open_ : ∀ j, listed.getD j true = false ↔ j ∈ pend.map Item.i
  shut : ∀ j, j ∉ pend.map Item.i → ∀ x ∈ (befores ops.toList []).getD j [], x ∉ pend.map Item.i
  ap : pend.Pairwise (Apart ops.toList)
  size : listed.size = ops.size

theorem getD_lt {l : Array Bool} {j : Nat} (h : j < l.size) (b b' : Bool) : l.getD j b = l.getD j b' := by simp [h]

theorem any_sound {ops : Array Oper} {Q : Exit → Act → World → Prop} (hT : TyAll P G) (hF : FnsOk P G run) (hE : edgesOk 0 ops.toList = true) {e : St}
    (hQ : ∀ gh' a' w', Rel c gh' e a' w' → Q .normal a' w') :
    ∀ (fuel : Nat) (pend : List Item) (listed : Array Bool) (gh : Ghost) (s : St) (a : Act) (w : World), Rel c gh s a w → Chain G run ops.toList s pend e → pend.length ≤ fuel → Inv ops listed pend →
      wpAny P .any ops Q fuel listed a w := by
  have noReady : ∀ {listed : Array Bool}, Inv ops listed [] → Region.ready .any ops listed = [] := fun {listed} inv => by
    refine List.eq_nil_iff_forall_not_mem.2 fun j hj => ?_
    have := (inv.open_ j).1 (mem_ready.1 hj).1
    simp at this
  intro fuel
  induction fuel with
  | zero =>
    intro pend listed gh s a w h hc hl inv
    have hp : pend = [] := List.length_eq_zero_iff.1 (by omega)
    subst hp
    cases hc
    exact ⟨noReady inv, hQ _ _ _ h⟩
  | succ fuel ih =>
    intro pend listed gh s a w h hc hl inv
    refine ⟨fun hr => ?_, fun j hj => ?_⟩
    · cases pend with
      | nil => cases hc; exact hQ _ _ _ h
      | cons x pend =>
        exfalso
        have hx := inv.at_ x (by simp)
        have hxs : x.i < ops.size := (Array.getElem?_eq_some_iff.1 hx).1
        have : x.i ∈ Region.ready .any ops listed := by
          refine mem_ready.2 ⟨(inv.open_ _).2 (by simp), x.o, hx, fun ed hed hb => ?_⟩
          have hlt := edgesOk_spec ops.toList 0 x.i x.o hE (by simpa using hx) ed hed hb
          rw [Nat.zero_add] at hlt
          have hno : ed.on ∉ (x :: pend).map Item.i := fun hm => by
            rcases List.mem_cons.1 hm with hm | hm
            · omega
            · obtain ⟨y, hy, hy'⟩ := List.mem_map.1 hm
              have := ((List.pairwise_cons.1 inv.ap).1 y hy).1
              omega
          have h1 : listed.getD ed.on true ≠ false := fun h => hno ((inv.open_ _).1 h)
          rw [getD_lt (by rw [inv.size]; omega) false true]
          simpa using h1
        rw [hr] at this
        cases this
    · obtain ⟨hun, o, ho, hall⟩ := mem_ready.1 hj
      obtain ⟨it, hit, hij⟩ := List.mem_map.1 ((inv.open_ j).1 hun)
      subst hij
      have hio : it.o = o := by
        have := inv.at_ it hit
        rw [ho] at this
        exact (Option.some.inj this).symm
      subst hio
      have shutE : ∀ ed ∈ it.o.after, Region.binds .any ed = true → ed.on ∉ pend.map Item.i := fun ed hed hb hm => by
        have h1 := hall ed hed hb
        have h2 := (inv.open_ ed.on).2 hm
        have h3 : ed.on < listed.size := by
          rcases Nat.lt_or_ge ed.on listed.size with h' | h'
          · exact h'
          · simp [Array.getElem?_eq_none h'] at h1
        rw [getD_lt h3 false true, h2] at h1
        cases h1
      have shutB : ∀ x ∈ (befores ops.toList []).getD it.i [], x ∉ pend.map Item.i := fun x hx => by
        obtain ⟨ed, hed, hb, h1⟩ := bef_spec (by simpa using ho) hx
        have h2 := shutE ed (by simpa using hed) hb
        rcases h1 with rfl | h1
        · exact h2
        · exact inv.shut _ h2 x h1
      obtain ⟨pre, post, hpend⟩ := List.append_of_mem hit
      have hsub : (pre ++ post).Sublist pend := by
        rw [hpend]
        exact List.Sublist.append (List.Sublist.refl _) (List.sublist_cons_self _ _)
      have hap := inv.ap
      rw [hpend] at hap hc
      obtain ⟨hap1, hap2, hap3⟩ := List.pairwise_append.1 hap
      have hbub := Chain.bubble pre s hc fun x hx => by
        have h1 := hap3 x hx it (by simp)
        rcases h1.2 with h2 | h2
        · exact absurd (List.mem_map_of_mem (by rw [hpend]; simp [hx])) (shutB _ h2)
        · exact h2
      obtain ⟨k1, k2, k3⟩ := hbub
      have hnot : it.i ∉ (pre ++ post).map Item.i := fun hm => by
        obtain ⟨y, hy, hy'⟩ := List.mem_map.1 hm
        rcases List.mem_append.1 hy with hy | hy
        · have := (hap3 y hy it (by simp)).1
          omega
        · have := ((List.pairwise_cons.1 hap2).1 y hy).1
          omega
      have hmem : ∀ i, i ∈ pend.map Item.i ↔ i = it.i ∨ i ∈ (pre ++ post).map Item.i := fun i => by
        rw [hpend]
        simp only [List.map_append, List.map_cons, List.mem_append, List.mem_cons]
        constructor
        · rintro (h | h | h)
          · exact .inr (.inl h)
          · exact .inl h
          · exact .inr (.inr h)
        · rintro (h | h | h)
          · exact .inr (.inl h)
          · exact .inl h
          · exact .inr (.inr h)
      have inv' : Inv ops (listed.setIfInBounds it.i true) (pre ++ post) := by
        refine ⟨fun x hx => inv.at_ x (hsub.subset hx), fun i => ?_, fun i hi x hx hm => ?_, inv.ap.sublist hsub, by simp [inv.size]⟩
        · by_cases hi : it.i = i
          · subst hi
            have hlt : it.i < listed.size := by rw [inv.size]; exact (Array.getElem?_eq_some_iff.1 ho).1
            constructor
            · intro h; simp [hlt] at h
            · intro h; exact absurd h hnot
          · rw [getD_set_ne true hi, inv.open_, hmem]
            constructor
            · rintro (h | h)
              · exact absurd h.symm hi
              · exact h
            · exact .inr
        · have hm' : x ∈ pend.map Item.i := (hmem x).2 (.inr hm)
          by_cases hii : i = it.i
          · subst hii; exact shutB x hx hm'
          · exact inv.shut i (fun h => ((hmem i).1 h).elim hii hi) x hx hm'
      have := step_sound (Q := Q) (K := wpAny P .any ops Q fuel (listed.setIfInBounds it.i true)) hT hF h k1 k2 fun gh' a' w' h' =>
        ih (pre ++ post) _ gh' _ a' w' h' k3 (by rw [hpend] at hl; simp at hl ⊢; omega) inv'
      unfold StepWp at this
      unfold wpOp
      rw [ho]
      simp only
      split
      · rename_i hw; rw [if_pos hw] at this; exact .inl this
      · rename_i hw; rw [if_neg hw] at this; exact this

theorem Rel.drawn {gh : Ghost} {s : St} {a : Act} {w : World} (h : Rel c gh s a w) (n : Nat) : Rel c gh s a { w with drawn := n } := by
  have hk : ∀ (B : Nat) (ex : List Nat) (w0 : World), Keep B ex w0 w → Keep B ex w0 { w with drawn := n } := fun _ _ _ k => ⟨k.os, k.tape, k.output, k.size, k.block⟩
  exact { h with keep := hk _ _ _ h.keep, agree := h.agree, objs := h.objs, owns := h.owns, fix := h.fix }

theorem drawnK_sound {ops : Array Oper} {Q : Exit → Act → World → Prop} {α : Type} {K : St → Option α} {r : α} {id : Nat} {gh : Ghost} {s : St} {a : Act} {w : World} (hT : TyAll P G) (hF : FnsOk P G run)
    (hQ : ∀ s' gh' a' w', Rel c gh' s' a' w' → K s' = some r → Q .normal a' w') (h : Rel c gh s a w) (hE : edgesOk 0 ops.toList = true)
    (hk : drawnK G run ops.toList ops.toList (befores ops.toList []) [] K s = some r) : (Code.region id ops true).wp P Q a w := by
  obtain ⟨its, e, h1, h2, h3, h4, h5, _⟩ := drawn_chain (all := ops.toList) ops.toList [] s (by simp) hk
  refine wp_region_any hT.mixed (any_sound hT hF hE (fun gh' a' w' h' => hQ e gh' a' w' h' h2) ops.size its _ gh s a _ (h.drawn _) h1 ?_ ?_)
  · have := congrArg List.length h3
    simp at this
    omega
  · refine ⟨fun x hx => by simpa using h4 x hx, fun j => ?_, fun j hj x hx hm => ?_, h5, by simp⟩
    · rw [h3]
      by_cases hj : j < ops.size
      · simp [List.mem_range'_1, hj]
      · simp [List.mem_range'_1, hj]
    · rw [h3] at hj
      have hj' : (befores ops.toList []).length ≤ j := by
        obtain ⟨t, e1, e2, _⟩ := befores_get ops.toList []
        rw [e1]
        simp at hj
        simp [e2]
        simpa [List.mem_range'_1] using hj
      simp [List.getD, List.getElem?_eq_none hj'] at hx

end Go.Proofs.Ytcpdiahbdmcdcaa.Ev
