/- Code: what the evaluator tells is what a run brings about. -/
import Derived.Test.YtcpdiahbdmcdcaaEvV
namespace Go.Proofs.Ytcpdiahbdmcdcaa.Ev
open Go Go.RowKit

variable {c : Ctx} {gh : Ghost} {s : St} {a : Act} {w : World} {P : Program} {G : Env} {run : Run}

/- a loop's head -/
theorem clearO_get {ko : List Nat} : ∀ (l : List OSlot) (k n : Nat), (clearO ko k l)[n]? = (l[n]?).map fun o => bif memN (k + n) ko then o else ⟨0, none⟩
  | [], _, _ => by simp [clearO]
  | e :: l, k, n => by
    cases n with
    | zero => simp [clearO]
    | succ n => simp only [clearO, List.getElem?_cons_succ]; rw [clearO_get l (k + 1) n, show k + 1 + n = k + (n + 1) by omega]
theorem clearT_len {ks ko : List Nat} : ∀ (l : List Ent) (used : List Nat) (k : Nat), (clearT s ks ko used k l).length = l.length
  | [], _, _ => rfl
  | e :: l, used, k => by
    simp only [clearT]
    cases memN k ks
    · simp [clearT_len l used (k + 1)]
    · simp only [cond_true]
      split <;> simp [clearT_len l _ (k + 1)]
theorem clearO_len {ko : List Nat} : ∀ (l : List OSlot) (k : Nat), (clearO ko k l).length = l.length
  | [], _ => rfl
  | e :: l, k => by simp [clearO, clearO_len l (k + 1)]

/-- Who holds an own slice at a loop's head. -/
def ownAt (s : St) (ks : List Nat) : List Nat → Nat → List Ent → Nat → Option (Ty × Nat × AV)
  | _, _, [], _ => none
  | used, i, e :: r, t => match memN i ks, e.owned s used with
    | true, some z => if t = i then some z else ownAt s ks (z.2.1 :: used) (i + 1) r t
    | _, _ => ownAt s ks used (i + 1) r t

theorem ownAt_ge {ks : List Nat} : ∀ (l : List Ent) (used : List Nat) (i t : Nat) z, ownAt s ks used i l t = some z → i ≤ t
  | [], _, _, _, _, h => by cases h
  | e :: l, used, i, t, z, h => by
    simp only [ownAt] at h
    split at h
    · split at h
      · omega
      · have := ownAt_ge l _ _ _ _ h; omega
    · have := ownAt_ge l _ _ _ _ h; omega

theorem owned_some {e : Ent} {used : List Nat} {z : Ty × Nat × AV} (h : e.owned s used = some z) : ∃ n, e = .val z.1 (some (z.2.1, n)) z.2.2 ∧ s.own z.2.1 = n ∧ z.2.1 ∉ used := by
  unfold Ent.owned at h
  split at h
  · obtain ⟨hb, h⟩ := cond_some h
    simp only [Bool.and_eq_true, Bool.not_eq_true'] at hb
    cases h
    exact ⟨_, rfl, Nat.eq_of_beq_eq_true hb.1, fun hm => by rw [memN_iff.2 hm] at hb; cases hb.2.2⟩
  · cases h

theorem ownAt_spec {ks : List Nat} : ∀ (l : List Ent) (used : List Nat) (i t : Nat) z, ownAt s ks used i l t = some z → (∃ n, l[t - i]? = some (.val z.1 (some (z.2.1, n)) z.2.2) ∧ s.own z.2.1 = n) ∧ z.2.1 ∉ used
  | [], _, _, _, _, h => by cases h
  | e :: l, used, i, t, z, h => by
    simp only [ownAt] at h
    split at h
    · rename_i z' _ ho
      split at h
      · cases h
        obtain ⟨n, h1, h2, h3⟩ := owned_some ho
        exact ⟨⟨n, by rename_i e'; rw [e', Nat.sub_self]; simp [h1], h2⟩, h3⟩
      · have hge := ownAt_ge l _ _ _ _ h
        obtain ⟨⟨n, h1, h2⟩, h3⟩ := ownAt_spec l _ _ _ _ h
        refine ⟨⟨n, ?_, h2⟩, fun hm => h3 (by simp [hm])⟩
        rw [show t - i = (t - (i + 1)) + 1 by omega]
        simpa using h1
    · have hge := ownAt_ge l _ _ _ _ h
      obtain ⟨⟨n, h1, h2⟩, h3⟩ := ownAt_spec l _ _ _ _ h
      refine ⟨⟨n, ?_, h2⟩, h3⟩
      rw [show t - i = (t - (i + 1)) + 1 by omega]
      simpa using h1

theorem ownAt_inj {ks : List Nat} : ∀ (l : List Ent) (used : List Nat) (i t t' : Nat) z z', ownAt s ks used i l t = some z → ownAt s ks used i l t' = some z' → z.2.1 = z'.2.1 → t = t'
  | [], _, _, _, _, _, _, h, _, _ => by cases h
  | e :: l, used, i, t, t', z, z', h, h', he => by
    simp only [ownAt] at h h'
    split at h
    · rename_i z0 hm ho
      rw [hm, ho] at h'
      simp only at h'
      split at h <;> split at h'
      · omega
      · cases h
        have h3 := (ownAt_spec l _ _ _ _ h').2
        rw [← he] at h3
        simp at h3
      · cases h'
        have h3 := (ownAt_spec l _ _ _ _ h).2
        rw [he] at h3
        simp at h3
      · exact ownAt_inj l _ _ _ _ _ _ h h' he
    · rename_i hno
      split at h'
      · rename_i z0 hm ho
        exact (hno z0 hm ho).elim
      · exact ownAt_inj l _ _ _ _ _ _ h h' he

theorem clearT_get {ks ko : List Nat} : ∀ (l : List Ent) (used : List Nat) (k n : Nat) (e : Ent), l[n]? = some e →
    (clearT s ks ko used k l)[n]? = some .any ∨ (clearT s ks ko used k l)[n]? = some (e.fit s ko) ∨ ∃ z, ownAt s ks used k l (k + n) = some z ∧ (clearT s ks ko used k l)[n]? = some (.val z.1 (some (k + n, 0)) z.2.2)
  | [], _, _, _, _, h => by simp at h
  | e0 :: l, used, k, n, e, h => by
    simp only [clearT, ownAt]
    cases hm : memN k ks with
    | false =>
      cases n with
      | zero =>
        simp at h
        subst h
        cases memN (k + 1000000) ks
        · exact .inl (by simp)
        · exact .inr (.inl (by simp))
      | succ n =>
        have := clearT_get (ks := ks) (ko := ko) l used (k + 1) n e (by simpa using h)
        rw [show k + 1 + n = k + (n + 1) by omega] at this
        simpa using this
    | true =>
      simp only [cond_true]
      cases ho : e0.owned s used with
      | none =>
        cases n with
        | zero => simp at h; subst h; exact .inr (.inl (by simp))
        | succ n =>
          have := clearT_get (ks := ks) (ko := ko) l used (k + 1) n e (by simpa using h)
          rw [show k + 1 + n = k + (n + 1) by omega] at this
          simpa using this
      | some z =>
        obtain ⟨t, g, x⟩ := z
        cases n with
        | zero => exact .inr (.inr ⟨(t, g, x), by simp, by simp⟩)
        | succ n =>
          have := clearT_get (ks := ks) (ko := ko) l (g :: used) (k + 1) n e (by simpa using h)
          rw [show k + 1 + n = k + (n + 1) by omega] at this
          simp only [List.getElem?_cons_succ]
          rw [if_neg (by omega)]
          exact this

theorem clear_look (ks ko : List Nat) (t : Nat) : (s.clear ks ko).look t = .any ∨ (s.clear ks ko).look t = (s.look t).fit s ko ∨ ∃ z, ownAt s ks [] 0 s.tmps t = some z ∧ (s.clear ks ko).look t = .val z.1 (some (t, 0)) z.2.2 := by
  simp only [St.look, St.clear, List.getD]
  cases h : s.tmps[t]? with
  | none =>
    refine .inl ?_
    rw [List.getElem?_eq_none (by rw [clearT_len]; exact List.getElem?_eq_none_iff.1 h)]
    rfl
  | some e =>
    rcases clearT_get (ks := ks) (ko := ko) s.tmps [] 0 t e h with h1 | h1 | ⟨z, h1, h2⟩
    · exact .inl (by rw [h1]; rfl)
    · exact .inr (.inl (by rw [h1]; rfl))
    · rw [Nat.zero_add] at h1 h2
      exact .inr (.inr ⟨z, h1, by rw [h2]; rfl⟩)
theorem clear_slot (ks ko : List Nat) (i : Nat) : (s.clear ks ko).slot i = bif memN i ko then s.slot i else ⟨0, none⟩ := by
  simp only [St.slot, St.clear, List.getD, clearO_get, Nat.zero_add]
  cases s.objs[i]? with
  | none => cases memN i ko <;> rfl
  | some o => rfl
theorem clear_own (ks ko : List Nat) (i : Nat) : (s.clear ks ko).own i = 0 := by
  simp only [St.own, St.clear, List.getD, List.getElem?_map]
  cases s.owns[i]? <;> rfl

theorem clear_ob {ks ko : List Nat} {i : Nat} {ob : Ob} (h : ((s.clear ks ko).slot i).ob = some ob) : (s.clear ks ko).slot i = s.slot i ∧ (s.slot i).ob = some ob := by
  rw [clear_slot] at h ⊢
  cases hm : memN i ko with
  | true => rw [hm] at h; exact ⟨rfl, h⟩
  | false => rw [hm] at h; cases h

theorem PtRel.clear {gh' : Ghost} {ks ko : List Nat} {p : Pt} {v : Value} (h : PtRel gh s p v) (he : gh'.m = gh.m) (hm : memN p.id ko = true) : PtRel gh' (s.clear ks ko) p v := by
  unfold PtRel at h ⊢
  rw [clear_slot, hm, he]
  exact h

theorem EntRel.fit {gh' : Ghost} {ks ko : List Nat} {e : Ent} {v : Value} (h : EntRel gh s e v) (hS : gh'.S = gh.S) (hm' : gh'.m = gh.m) : EntRel gh' (s.clear ks ko) (e.fit s ko) v := by
  cases e with
  | any => trivial
  | undef => exact h
  | «at» t x => simp only [Ent.fit, EntRel] at h ⊢; rw [hS]; exact h
  | tup l => simp only [Ent.fit, EntRel] at h ⊢; rw [hS]; exact h
  | val t g x => exact ⟨by rw [hS]; exact h.1, fun g' n e => by cases e⟩
  | ptr p =>
    simp only [Ent.fit]
    cases hb : (Nat.beq (s.slot p.id).gen p.gen && memN p.id ko) with
    | false => trivial
    | true =>
      simp only [Bool.and_eq_true] at hb
      exact PtRel.clear h hm' hb.2
  | ref p lo hi =>
    simp only [Ent.fit]
    cases hb : (Nat.beq (s.slot p.id).gen p.gen && memN p.id ko) with
    | false => trivial
    | true =>
      simp only [Bool.and_eq_true] at hb
      simp only [cond_true, EntRel, RefRel] at h ⊢
      rw [clear_slot, hb.2, hm']
      exact h
  | clo f caps =>
    simp only [Ent.fit]
    cases hb : (caps.all fun p => Nat.beq (s.slot p.id).gen p.gen && memN p.id ko) with
    | false => trivial
    | true =>
      rw [List.all_eq_true] at hb
      obtain ⟨vs, h1, h2, h3⟩ := h
      refine ⟨vs, h1, h2, fun i p u e1 e2 => (h3 i p u e1 e2).clear hm' ?_⟩
      have := hb p (List.mem_of_getElem? e1)
      simp only [Bool.and_eq_true] at this
      exact this.2

/-- Whose block an own slice stands on, when the slots have been renamed. -/
def Ghost.renamed (gh : Ghost) (s : St) (ks : List Nat) : Ghost :=
  { gh with τ := fun t => match ownAt s ks [] 0 s.tmps t with | some z => gh.τ z.2.1 | none => .slice none 0 0, z := fun t => match ownAt s ks [] 0 s.tmps t with | some z => gh.z z.2.1 | none => 0 }

theorem renamed_block {ks : List Nat} {t b : Nat} (h : ((gh.renamed s ks).τ t).ownBlock = some b) : ∃ z, ownAt s ks [] 0 s.tmps t = some z ∧ (gh.τ z.2.1).ownBlock = some b := by
  simp only [Ghost.renamed] at h
  split at h
  · rename_i z hz
    exact ⟨z, hz, h⟩
  · cases h

theorem Rel.clear (h : Rel c gh s a w) (ks ko : List Nat) : Rel c (gh.renamed s ks) (s.clear ks ko) a w where
  keep := h.keep
  size := h.size
  le := h.le
  new := h.new
  agree := h.agree
  ntm := by simp [St.clear, clearT_len, h.ntm]
  nob := by simp [St.clear, clearT_len, clearO_len, h.nob]
  now := by simp [St.clear, clearT_len, h.now]
  defers := h.defers
  tmps := fun t => by
    rcases clear_look (s := s) ks ko t with e | e | ⟨z, hz, e⟩
    · rw [e]; trivial
    · rw [e]; exact (h.tmps t).fit rfl rfl
    · rw [e]
      obtain ⟨⟨n, h1, h2⟩, _⟩ := ownAt_spec _ _ _ _ _ hz
      have h3 := h.tmps t
      have hl : s.look t = .val z.1 (some (z.2.1, n)) z.2.2 := by
        simp only [Nat.sub_zero] at h1
        simp [St.look, List.getD, h1]
      rw [hl] at h3
      obtain ⟨q1, q2⟩ := h3
      obtain ⟨q3, q4⟩ := (q2 _ _ rfl).2 h2.symm
      refine ⟨q1, fun g' n' he => ?_⟩
      simp only [Option.some.injEq, Prod.mk.injEq] at he
      obtain ⟨rfl, rfl⟩ := he
      refine ⟨Nat.zero_le _, fun _ => ?_⟩
      simp only [Ghost.renamed, hz]
      exact ⟨q3, q4⟩
  objs := fun id ob ho => h.objs id ob (clear_ob ho).2
  minj := fun i j oi oj h1 h2 e => h.minj i j oi oj (clear_ob h1).2 (clear_ob h2).2 e
  owns := fun t => by
    simp only [Ghost.renamed]
    cases hz : ownAt s ks [] 0 s.tmps t with
    | none => exact .inl rfl
    | some z => exact h.owns _
  odist := fun g g' b h1 h2 => by
    obtain ⟨z, hz, h1⟩ := renamed_block h1
    obtain ⟨z', hz', h2⟩ := renamed_block h2
    exact ownAt_inj _ _ _ _ _ _ _ hz hz' (h.odist _ _ b h1 h2)
  mo := fun id ob g b h1 h2 => by
    obtain ⟨z, hz, h2⟩ := renamed_block h2
    exact h.mo id ob _ b (clear_ob h1).2 h2
  fix := fun k b h1 h2 ob h3 => by
    obtain ⟨e1, e2⟩ := clear_ob h3
    rw [e1] at h2
    exact h.fix k b h1 h2 ob e2

def Ex.out : Ex → Exit
  | .normal => .normal
  | .exit id => .exit id
  | .ret => .ret

theorem exists_least {p : Nat → Prop} (h : ∃ n, p n) : ∃ n, p n ∧ ∀ m, p m → n ≤ m := by
  obtain ⟨n, hn⟩ := h
  induction n using Nat.strongRecOn with
  | _ n ih =>
    by_cases hm : ∃ m, m < n ∧ p m
    · obtain ⟨m, h1, h2⟩ := hm
      exact ih m h1 h2
    · exact ⟨n, hn, fun m hp => Nat.le_of_not_lt fun hlt => hm ⟨m, hlt, hp⟩⟩

open Classical in
noncomputable def least (p : Nat → Prop) : Nat := if h : ∃ n, p n then Classical.choose (exists_least h) else 0

theorem least_spec {p : Nat → Prop} (h : ∃ n, p n) : p (least p) ∧ ∀ m, p m → least p ≤ m := by
  unfold least
  rw [dif_pos h]
  exact Classical.choose_spec (exists_least h)

theorem evalK_sound {α : Type} {r : α} (hT : TyAll P G) (hF : FnsOk P G run) (n : Nat) (keep : List (Nat × (List Nat × List Nat))) :
    ∀ (code : Code) (b : Nat) (K : Ex → St → Option α) (Q : Exit → Act → World → Prop) (gh : Ghost) (s : St) (a : Act) (w : World), Rel c gh s a w → evalK G run n keep b code K s = some r →
      (∀ ex s' gh' a' w', Rel c gh' s' a' w' → K ex s' = some r → Q ex.out a' w') → code.wp P Q a w
  | .skip, b, K, Q, gh, s, a, w, h, hk, hQ => wp_skip (hQ .normal s gh a w h hk)
  | .region id ops draw, b, K, Q, gh, s, a, w, h, hk, hQ => by
    simp only [evalK] at hk
    cases draw with
    | true =>
      rw [cond_true] at hk
      obtain ⟨hE, hk⟩ := cond_some hk
      exact drawnK_sound hT hF (fun s' gh' a' w' h' hk' => hQ .normal s' gh' a' w' h' hk') h hE hk
    | false =>
      rw [cond_false] at hk
      exact wp_region_list (opsK_sound hT hF (fun s' gh' a' w' h' hk' => hQ .normal s' gh' a' w' h' hk') ops.toList gh s a w h hk)
  | .seq x y, b, K, Q, gh, s, a, w, h, hk, hQ => by
    simp only [evalK] at hk
    refine wp_seq (evalK_sound hT hF n keep x b _ _ gh s a w h hk fun ex s' gh' a' w' h' hk' => ?_)
    cases ex with
    | normal => exact evalK_sound hT hF n keep y b K Q gh' s' a' w' h' hk' hQ
    | exit id => exact hQ (.exit id) s' gh' a' w' h' hk'
    | ret => exact hQ .ret s' gh' a' w' h' hk'
  | .cond x y z, b, K, Q, gh, s, a, w, h, hk, hQ => by
    simp only [evalK] at hk
    obtain ⟨v, hv, hk⟩ := bind_some hk
    obtain ⟨t, ht, rfl⟩ := (h.opv hv).bool
    refine wp_cond ht ?_
    cases t with
    | true => exact evalK_sound hT hF n keep y b K Q gh s a w h hk hQ
    | false => exact evalK_sound hT hF n keep z b K Q gh s a w h hk hQ
  | .block id x, b, K, Q, gh, s, a, w, h, hk, hQ => by
    simp only [evalK] at hk
    refine wp_block (evalK_sound hT hF n keep x id _ _ gh s a w h hk fun ex s' gh' a' w' h' hk' => ?_)
    cases ex with
    | normal => exact hQ .normal s' gh' a' w' h' hk'
    | exit id' =>
      simp only [Ex.out, Exit.inBlock]
      simp only [blockK] at hk'
      by_cases he : id' = id
      · rw [if_pos he]
        rw [he, show Nat.beq id id = true from Nat.beq_refl id, cond_true] at hk'
        exact hQ .normal s' gh' a' w' h' hk'
      · rw [if_neg he]
        have : Nat.beq id' id = false := by
          cases hb : Nat.beq id' id with
          | false => rfl
          | true => exact absurd (Nat.eq_of_beq_eq_true hb) he
        rw [this, cond_false] at hk'
        exact hQ (.exit id') s' gh' a' w' h' hk'
    | ret => exact hQ .ret s' gh' a' w' h' hk'
  | .loop x, b, K, Q, gh, s, a, w, h, hk, hQ => by
    simp only [evalK] at hk
    obtain ⟨ks, _, hk⟩ := bind_some hk
    let J : Act → World → Nat → Prop := fun a w m => ∃ s gh, Rel c gh s a w ∧ iterK (evalK G run n keep b x) ks.1 ks.2 K m s = some r
    refine wp_loop (fun a w => ∃ m, J a w m) (fun a w => least (J a w)) ⟨n, _, _, h.clear ks.1 ks.2, hk⟩ fun a w hI => ?_
    obtain ⟨⟨s, gh, h, hk⟩, _⟩ := least_spec hI
    generalize hm : least (J a w) = m at hk
    cases m with
    | zero => cases hk
    | succ m =>
      simp only [iterK] at hk
      refine evalK_sound hT hF n keep x b _ _ gh _ a w h hk fun ex s' gh' a' w' h' hk' => ?_
      cases ex with
      | normal =>
        have hJ : J a' w' m := ⟨_, _, h'.clear ks.1 ks.2, hk'⟩
        refine ⟨⟨m, hJ⟩, ?_⟩
        have := (least_spec ⟨m, hJ⟩).2 m hJ
        exact Nat.lt_succ_of_le this
      | exit id => exact hQ (.exit id) s' gh' a' w' h' hk'
      | ret => exact hQ .ret s' gh' a' w' h' hk'
  | .exit id, b, K, Q, gh, s, a, w, h, hk, hQ => wp_exit (hQ (.exit id) s gh a w h hk)
  | .ret, b, K, Q, gh, s, a, w, h, hk, hQ => wp_ret (hQ .ret s gh a w h hk)
  | .rangeFunc _ _ _ _, _, _, _, _, _, _, _, _, hk, _ => by cases hk
  | .scope _, _, _, _, _, _, _, _, _, hk, _ => by cases hk
  | .label _, _, _, _, _, _, _, _, _, hk, _ => by cases hk
  | .goto _, _, _, _, _, _, _, _, _, hk, _ => by cases hk
  | .refuse _, _, _, _, _, _, _, _, _, hk, _ => by cases hk

end Go.Proofs.Ytcpdiahbdmcdcaa.Ev
