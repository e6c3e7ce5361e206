/- Lists that differ have unlike roots, or two unlike texts of their trees have one sum. -/
import Derived.Test.YtcpdiahbdmcdcaaEvPRoots
namespace Go.Proofs.Ytcpdiahbdmcdcaa.Ev
open Go Go.RowKit

/-- All texts of which sums are taken. -/
def textsV : Nat → List AV → List (List UInt8)
  | 0, _ => []
  | k + 1, l => if l.length < 2 then (if l.length = 1 then [leafT (nth l 0).toStr] else [])
    else nodeT (topV (leftV l.length).toNat (leavesV (l.take (leftV l.length).toNat))) (topV (l.length - (leftV l.length).toNat) (leavesV (l.drop (leftV l.length).toNat))) ::
      (textsV k (l.take (leftV l.length).toNat) ++ textsV k (l.drop (leftV l.length).toNat))

def Strs (l : List (List UInt8)) : List AV := l.map AV.str

theorem textsV_short : ∀ (k : Nat) (l : List AV), Short l → ∀ x ∈ textsV k l, x.length ≤ 281474976710656
  | 0, _, _, x, hx => by cases hx
  | k + 1, l, hs, x, hx => by
    simp only [textsV] at hx
    split at hx
    · split at hx
      · rename_i h1
        rw [List.mem_singleton] at hx
        have := hs 0 (by omega)
        rw [hx, leafT_len]; omega
      · cases hx
    · rcases List.mem_cons.1 hx with h | h
      · rw [h, nodeT_len (topV_len _ _ (leavesV_blob _)) (topV_len _ _ (leavesV_blob _))]; omega
      · rcases List.mem_append.1 h with h | h
        · refine textsV_short k _ (fun i hi => ?_) x h
          have : i < l.length := by simp at hi; omega
          have h2 := hs i this
          rw [nth_lt hi, List.getElem_take]
          rw [nth_lt this] at h2
          exact h2
        · refine textsV_short k _ (fun i hi => ?_) x h
          have : (leftV (l.length : Int)).toNat + i < l.length := by simp at hi; omega
          have h2 := hs _ this
          rw [nth_lt hi, List.getElem_drop]
          rw [nth_lt this] at h2
          exact h2

theorem short_take {l : List AV} (hs : Short l) (p : Nat) : Short (l.take p) := fun i hi => by
  have : i < l.length := by simp at hi; omega
  have h2 := hs i this
  rw [nth_lt hi, List.getElem_take]
  rw [nth_lt this] at h2
  exact h2
theorem short_drop {l : List AV} (hs : Short l) (p : Nat) : Short (l.drop p) := fun i hi => by
  have : p + i < l.length := by simp at hi; omega
  have h2 := hs _ this
  rw [nth_lt hi, List.getElem_drop]
  rw [nth_lt this] at h2
  exact h2

theorem texts_len : ∀ (k : Nat) (l : List AV), (textsV k l).length ≤ 2 * l.length - 1
  | 0, l => by simp [textsV]
  | k + 1, l => by
    simp only [textsV]
    split
    · split
      · rename_i h; simp; omega
      · simp
    · rename_i h
      obtain ⟨p1, p2⟩ := leftV_range (n := (l.length : Int)) (by omega)
      have h1 := texts_len k (l.take (leftV (l.length : Int)).toNat)
      have h2 := texts_len k (l.drop (leftV (l.length : Int)).toNat)
      simp only [List.length_cons, List.length_append, List.length_take, List.length_drop] at h1 h2 ⊢
      omega

theorem Strs_len (l : List (List UInt8)) : (Strs l).length = l.length := by simp [Strs]
theorem Strs_nth {l : List (List UInt8)} {i : Nat} (h : i < l.length) : (nth (Strs l) i).toStr = l[i] := by
  rw [nth_lt (by rw [Strs_len]; exact h)]; simp [Strs, AV.toStr]

theorem texts_runs : ∀ (k : Nat) (l : List AV), l.length ≤ k → l.length ≤ 100000 → Short l → RunsX 69 [.slice l] ⟨[.slice (Strs (textsV k l))], [], true⟩
  | 0, l, hk, _, _ => by
    refine Evt.succ (.of fun n => ?_)
    rw [f69_run, f69_eq, ltI_t (by omega), eqI_f (by omega)]; rfl
  | k + 1, l, hk, hl, hs => by
    simp only [textsV]
    by_cases h2 : l.length < 2
    · rw [if_pos h2]
      by_cases h1 : l.length = 1
      · rw [if_pos h1]
        have h0 := hs 0 (by omega)
        refine Evt.succ ((Evt.ge 10).mono fun n hn => ?_)
        obtain ⟨m, rfl⟩ : ∃ m, n = m + 2 := ⟨n - 2, by omega⟩
        rw [f69_run, f69_eq, ltI_t (by omega), eqI_t (by omega), cond_true, cond_true, inR_yes (by omega) (by omega), cond_true, refLeafText_at m h0, step1, toStr_s]
        rfl
      · rw [if_neg h1]
        refine Evt.succ (.of fun n => ?_)
        rw [f69_run, f69_eq, ltI_t (by omega), eqI_f (by omega)]; rfl
    · rw [if_neg h2]
      obtain ⟨p1, p2⟩ := leftV_range (n := (l.length : Int)) (by omega)
      have pe : (leftV (l.length : Int)) = (((leftV (l.length : Int)).toNat : Nat) : Int) := by omega
      have hL := fun m hm => refLeft_at m hm (n := (l.length : Int)) (by omega)
      generalize (leftV (l.length : Int)).toNat = p at pe
      rw [pe] at hL p1 p2
      have la : (l.take p).length = p := by simp; omega
      have lb : (l.drop p).length = l.length - p := by simp
      have r1 := refLeaves_runs (l := l.take p) (by omega) (short_take hs p)
      have r2 := refLeaves_runs (l := l.drop p) (by omega) (short_drop hs p)
      have r3 := refTop_runs p (leavesV (l.take p)) (by rw [leavesV_len]; omega) (by rw [leavesV_len]; omega) (leavesV_blob _)
      have r4 := refTop_runs (l.length - p) (leavesV (l.drop p)) (by rw [leavesV_len]; omega) (by rw [leavesV_len]; omega) (leavesV_blob _)
      have r5 := texts_runs k (l.take p) (by omega) (by omega) (short_take hs p)
      have r6 := texts_runs k (l.drop p) (by omega) (by omega) (short_drop hs p)
      have t1 := texts_len k (l.take p)
      have t2 := texts_len k (l.drop p)
      have n1 := topV_len p _ (leavesV_blob (l.take p))
      have n2 := topV_len (l.length - p) _ (leavesV_blob (l.drop p))
      generalize topV p (leavesV (l.take p)) = ta at r3 n1
      generalize topV (l.length - p) (leavesV (l.drop p)) = tb at r4 n2
      generalize textsV k (l.take p) = xa at r5 t1
      generalize textsV k (l.drop p) = xb at r6 t2
      refine Evt.succ ((((r1.and r2).and (r3.and r4)).and ((r5.and r6).and (Evt.ge 300))).mono fun n hn => ?_)
      obtain ⟨⟨⟨g1, g2⟩, g3, g4⟩, ⟨g5, g6⟩, g7⟩ := hn
      obtain ⟨m, rfl⟩ : ∃ m, n = m + 2 := ⟨n - 2, by omega⟩
      have b1 : boundsOk 0 (p : Int) (l.length : Int) (l.length : Int) = true := by simp [boundsOk]; omega
      have b2 : boundsOk (p : Int) (l.length : Int) (l.length : Int) (l.length : Int) = true := by simp [boundsOk]; omega
      rw [f69_run, f69_eq, ltI_f (by omega), cond_false, hL (m + 1) (by omega), step1, toInt_i, b1, b2, Int.toNat_natCast, Int.toNat_natCast, List.drop_zero, List.take_length, Bool.and_true, cond_true, g1, step1f, toSlice_s, g3, step1, cond_true, g2, step1f, toSlice_s, g4, step1,
        toBlob_b, toBlob_b, refNodeText_at m (by omega) n1 n2, step1, cond_true, g5, step1f, toSlice_s, Strs_len, show Nat.ble ((1 + xa.length) * 16) 140737488355328 = true from Nat.ble_eq_true_of_le (by omega), cond_true, cond_true, g6, step1f, toSlice_s, toStr_s, Strs_len,
        show Nat.ble ((([AV.str (nodeT ta tb)] ++ Strs xa : List AV).length + xb.length) * 16) 140737488355328 = true from Nat.ble_eq_true_of_le (by simp [Strs_len]; omega), cond_true]
      simp only [Strs, List.map_cons, List.map_append, List.cons_append]
      rfl

/- clashes -/
def rowB (x : List UInt8) (Y : List (List UInt8)) : Bool := Y.any fun y => !(eqS x y) && eqS (hashV x) (hashV y)
def clashB (X Y : List (List UInt8)) : Bool := X.any fun x => rowB x Y

theorem clash_l2 (run : Run) (n k0 : Nat) (X Y : List (List UInt8)) (hX : X.length ≤ 1000000) (hY : Y.length ≤ 1000000) (i : Nat) (hi : i < X.length)
    (h60 : ∀ z, z ∈ X ∨ z ∈ Y → run 60 [.str z] = some ⟨[.blob (hashV z)], [], false⟩) : ∀ (j k c : Nat), c + j = Y.length → j < k →
    f24_l2 run n k0 k (Strs X) (Strs Y) (i : Int) (c : Int) = bif rowB X[i] (Y.drop c) then some ⟨[.bool true], [], false⟩ else f24_l0 run n k0 (Strs X) (Strs Y) ((i : Int) + 1) := by
  intro j
  induction j with
  | zero =>
    intro k c hc hk
    obtain ⟨k, rfl⟩ : ∃ j, k = j + 1 := ⟨k - 1, by omega⟩
    rw [f24_l2_eq, Strs_len, ltI_f (by omega), cond_false, w64 (by omega) (by omega), List.drop_eq_nil_of_le (by omega)]; rfl
  | succ j ih =>
    intro k c hc hk
    obtain ⟨k, rfl⟩ : ∃ j, k = j + 1 := ⟨k - 1, by omega⟩
    have hc' : c < Y.length := by omega
    have ih' := ih k (c + 1) (by omega) (by omega)
    rw [show ((c + 1 : Nat) : Int) = (c : Int) + 1 by omega] at ih'
    have e : rowB X[i] (Y.drop c) = ((!(eqS X[i] Y[c]) && eqS (hashV X[i]) (hashV Y[c])) || rowB X[i] (Y.drop (c + 1))) := by
      unfold rowB
      rw [List.drop_eq_getElem_cons hc', List.any_cons]
    rw [f24_l2_eq, Strs_len, Strs_len, ltI_t (by omega), cond_true, inR_nat hi, inR_nat hc', cond_true, cond_true, Int.toNat_natCast, Int.toNat_natCast, Strs_nth hi, Strs_nth hc', w64 (x := (c : Int) + 1) (by omega) (by omega), ih',
      h60 _ (.inl (List.getElem_mem hi)), h60 _ (.inr (List.getElem_mem hc')), step1, step1, toBlob_b, toBlob_b, e, cond_true, cond_true]
    cases eqS X[i] Y[c] <;> cases eqS (hashV X[i]) (hashV Y[c]) <;> rfl

theorem clash_l0 (run : Run) (n : Nat) (X Y : List (List UInt8)) (hX : X.length ≤ 1000000) (hY : Y.length ≤ 1000000) (hn : Y.length < n)
    (h60 : ∀ z, z ∈ X ∨ z ∈ Y → run 60 [.str z] = some ⟨[.blob (hashV z)], [], false⟩) : ∀ (j k i : Nat), i + j = X.length → j < k →
    f24_l0 run n k (Strs X) (Strs Y) (i : Int) = some ⟨[.bool (clashB (X.drop i) Y)], [], false⟩ := by
  intro j
  induction j with
  | zero =>
    intro k i hi hk
    obtain ⟨k, rfl⟩ : ∃ j, k = j + 1 := ⟨k - 1, by omega⟩
    rw [f24_l0_eq, Strs_len, ltI_f (by omega), List.drop_eq_nil_of_le (by omega)]; rfl
  | succ j ih =>
    intro k i hi hk
    obtain ⟨k, rfl⟩ : ∃ j, k = j + 1 := ⟨k - 1, by omega⟩
    have hi' : i < X.length := by omega
    have ih' := ih k (i + 1) (by omega) (by omega)
    rw [show ((i + 1 : Nat) : Int) = (i : Int) + 1 by omega] at ih'
    have h2 := clash_l2 run n k X Y hX hY i hi' h60 Y.length n 0 (by omega) hn
    rw [ih', List.drop_zero] at h2
    have e : clashB (X.drop i) Y = (rowB X[i] Y || clashB (X.drop (i + 1)) Y) := by
      unfold clashB
      rw [List.drop_eq_getElem_cons hi', List.any_cons]
    rw [f24_l0_eq, Strs_len, ltI_t (by omega), cond_true, e]
    refine Eq.trans h2 ?_
    cases rowB X[i] Y <;> rfl

/-- All texts of a list's tree. -/
def allT (l : List AV) : List (List UInt8) := textsV l.length l ++ [rootT l.length (topV l.length (leavesV l))]
theorem allT_len (l : List AV) : (allT l).length ≤ 2 * l.length + 1 := by
  have := texts_len l.length l
  simp [allT]; omega
theorem allT_short {l : List AV} (hs : Short l) : ∀ x ∈ allT l, x.length ≤ 281474976710656 := by
  intro x hx
  rcases List.mem_append.1 hx with h | h
  · exact textsV_short _ _ hs x h
  · rw [List.mem_singleton.1 h, rootT_len _ (topV_len _ _ (leavesV_blob _))]; omega

theorem clashes_runs {a b : List AV} (ha : a.length ≤ 1000) (hb : b.length ≤ 1000) (sa : Short a) (sb : Short b) : RunsX 24 [.slice a, .slice b] ⟨[.bool (clashB (allT a) (allT b))], [], false⟩ := by
  have h60 : Evt fun n => ∀ z, z ∈ allT a ∨ z ∈ allT b → runE G ext n 60 [.str z] = some ⟨[.blob (hashV z)], [], false⟩ := by
    have hx := Evt.all (allT a).length fun i hi => refSha_runs (b := (allT a)[i]?.getD []) (by
      rw [List.getElem?_eq_getElem hi]
      have := allT_short sa _ (List.getElem_mem hi)
      simp only [Option.getD_some]; omega)
    have hy := Evt.all (allT b).length fun i hi => refSha_runs (b := (allT b)[i]?.getD []) (by
      rw [List.getElem?_eq_getElem hi]
      have := allT_short sb _ (List.getElem_mem hi)
      simp only [Option.getD_some]; omega)
    refine (hx.and hy).mono fun n hn z hz => ?_
    rcases hz with hz | hz
    · obtain ⟨i, hi, rfl⟩ := List.getElem_of_mem hz
      have := hn.1 i hi
      rw [List.getElem?_eq_getElem hi] at this
      exact this
    · obtain ⟨i, hi, rfl⟩ := List.getElem_of_mem hz
      have := hn.2 i hi
      rw [List.getElem?_eq_getElem hi] at this
      exact this
  have la := texts_len a.length a
  have lb := texts_len b.length b
  have ra := texts_runs a.length a (Nat.le_refl _) (by omega) sa
  have rb := texts_runs b.length b (Nat.le_refl _) (by omega) sb
  have va := refLeaves_runs (l := a) (by omega) sa
  have vb := refLeaves_runs (l := b) (by omega) sb
  have ta := refTop_runs a.length (leavesV a) (by rw [leavesV_len]; omega) (by rw [leavesV_len]; omega) (leavesV_blob a)
  have tb := refTop_runs b.length (leavesV b) (by rw [leavesV_len]; omega) (by rw [leavesV_len]; omega) (leavesV_blob b)
  refine Evt.succ ((((ra.and rb).and (va.and vb)).and ((ta.and tb).and (h60.and (Evt.ge 5000)))).mono fun n hn => ?_)
  obtain ⟨⟨⟨g1, g2⟩, g3, g4⟩, ⟨g5, g6⟩, g7, g8⟩ := hn
  obtain ⟨m, rfl⟩ : ∃ m, n = m + 3 := ⟨n - 3, by omega⟩
  have q1 := refRootText_at m (by omega) a.length (topV_len a.length _ (leavesV_blob a))
  have q2 := refRootText_at m (by omega) b.length (topV_len b.length _ (leavesV_blob b))
  rw [f24_run, f24_eq, g1, step1f, g3, step1f, toSlice_s, toSlice_s, g5, step1, wrapLen (by omega), toBlob_b, q1, step1, Strs_len, show Nat.ble (((textsV a.length a).length + 1) * 16) 140737488355328 = true from Nat.ble_eq_true_of_le (by omega), cond_true,
    g2, step1f, g4, step1f, toSlice_s, toSlice_s, g6, step1, wrapLen (by omega), toBlob_b, q2, step1, Strs_len, show Nat.ble (((textsV b.length b).length + 1) * 16) 140737488355328 = true from Nat.ble_eq_true_of_le (by omega), cond_true, toStr_s, toStr_s]
  have lA := allT_len a
  have lB := allT_len b
  have := clash_l0 (runE G ext (m + 3)) (m + 3) (allT a) (allT b) (by omega) (by omega) (by omega) g7 (allT a).length (m + 3) 0 (by omega) (by omega)
  rw [List.drop_zero] at this
  have eA : Strs (textsV a.length a) ++ [.str (rootT a.length (topV a.length (leavesV a)))] = Strs (allT a) := by simp [Strs, allT]
  have eB : Strs (textsV b.length b) ++ [.str (rootT b.length (topV b.length (leavesV b)))] = Strs (allT b) := by simp [Strs, allT]
  rw [eA, eB]
  exact this

/- the law -/
/-- No two unlike texts have one sum. -/
def NC (X Y : List (List UInt8)) : Prop := ∀ x ∈ X, ∀ y ∈ Y, hashV x = hashV y → x = y
theorem nc_of {X Y : List (List UInt8)} (h : clashB X Y = false) : NC X Y := by
  intro x hx y hy e
  unfold clashB at h
  rw [List.any_eq_false] at h
  have h1 := h x hx
  unfold rowB at h1
  simp only [Bool.not_eq_true, List.any_eq_false] at h1
  have h2 := h1 y hy
  rw [eqS_t e, Bool.and_true] at h2
  by_cases hxy : x = y
  · exact hxy
  · rw [eqS_f hxy] at h2; exact absurd h2 (by decide)

/-- The same texts, one by one. -/
def Eqv (l m : List AV) : Prop := l.length = m.length ∧ ∀ i, i < l.length → (nth l i).toStr = (nth m i).toStr

theorem top_fuel : ∀ (k k' : Nat) (l : List AV), l.length ≤ k → l.length ≤ k' → topV k l = topV k' l
  | 0, k', l, h, _ => by
    have h0 : l.length = 0 := by omega
    cases k' with
    | zero => rfl
    | succ k' => simp only [topV]; rw [if_pos h0]
  | k + 1, 0, l, _, h => by
    have h0 : l.length = 0 := by omega
    simp only [topV]; rw [if_pos h0]
  | k + 1, k' + 1, l, h, h' => by
    simp only [topV]
    by_cases h0 : l.length = 0
    · rw [if_pos h0, if_pos h0]
    · by_cases h1 : l.length = 1
      · rw [if_neg h0, if_pos h1, if_neg h0, if_pos h1]
      · obtain ⟨p1, p2⟩ := leftV_range (n := (l.length : Int)) (by omega)
        rw [if_neg h0, if_neg h1, if_neg h0, if_neg h1, top_fuel k k' _ (by simp; omega) (by simp; omega), top_fuel k k' (l.drop _) (by simp; omega) (by simp; omega)]

theorem leavesV_take' (l : List AV) (p : Nat) : (leavesV l).take p = leavesV (l.take p) := by simp [leavesV, List.map_take]
theorem leavesV_drop' (l : List AV) (p : Nat) : (leavesV l).drop p = leavesV (l.drop p) := by simp [leavesV, List.map_drop]

theorem top_inj : ∀ (k : Nat) (l m : List AV), l.length ≤ k → l.length = m.length → NC (textsV k l) (textsV k m) → topV k (leavesV l) = topV k (leavesV m) → ∀ i, i < l.length → (nth l i).toStr = (nth m i).toStr
  | 0, l, m, h, _, _, _, i, hi => by omega
  | k + 1, l, m, h, hlm, nc, ht, i, hi => by
    have ll := leavesV_len l
    have lm := leavesV_len m
    by_cases h1 : l.length = 1
    · have h1m : m.length = 1 := by omega
      have i0 : i = 0 := by omega
      subst i0
      have hx : leafT (nth l 0).toStr ∈ textsV (k + 1) l := by simp only [textsV]; rw [if_pos (by omega), if_pos h1]; exact List.mem_singleton.2 rfl
      have hy : leafT (nth m 0).toStr ∈ textsV (k + 1) m := by simp only [textsV]; rw [if_pos (by omega), if_pos h1m]; exact List.mem_singleton.2 rfl
      simp only [topV] at ht
      rw [if_neg (by omega), if_pos (by omega), if_neg (by omega), if_pos (by omega)] at ht
      have el : (nth (leavesV l) 0).toBlob = leafH (nth l 0).toStr := by rw [nth_lt (by omega), nth_lt (by omega)]; simp [leavesV, AV.toBlob]
      have em : (nth (leavesV m) 0).toBlob = leafH (nth m 0).toStr := by rw [nth_lt (by omega), nth_lt (by omega)]; simp [leavesV, AV.toBlob]
      rw [el, em] at ht
      have := nc _ hx _ hy ht
      unfold leafT at this
      exact List.append_cancel_left this
    · have h2 : ¬ l.length < 2 := by omega
      obtain ⟨p1, p2⟩ := leftV_range (n := (l.length : Int)) (by omega)
      simp only [topV] at ht
      rw [if_neg (by omega), if_neg (by omega), if_neg (by omega), if_neg (by omega), ll, lm, ← hlm, leavesV_take', leavesV_drop', leavesV_take', leavesV_drop'] at ht
      simp only [textsV] at nc
      rw [if_neg h2, if_neg (by omega), ← hlm] at nc
      have hpn : (leftV (l.length : Int)).toNat < l.length := by omega
      have hp0 : 1 ≤ (leftV (l.length : Int)).toNat := by omega
      generalize (leftV (l.length : Int)).toNat = p at ht nc hpn hp0
      have la : (l.take p).length = p := by simp; omega
      have lb : (l.drop p).length = l.length - p := by simp
      have ma : (m.take p).length = p := by simp; omega
      have mb : (m.drop p).length = l.length - p := by simp; omega
      rw [top_fuel k p (leavesV (l.take p)) (by rw [leavesV_len]; omega) (by rw [leavesV_len]; omega), top_fuel k (l.length - p) (leavesV (l.drop p)) (by rw [leavesV_len]; omega) (by rw [leavesV_len]; omega),
        top_fuel k p (leavesV (m.take p)) (by rw [leavesV_len]; omega) (by rw [leavesV_len]; omega), top_fuel k (l.length - p) (leavesV (m.drop p)) (by rw [leavesV_len]; omega) (by rw [leavesV_len]; omega)] at ht
      have hn := nc _ (List.mem_cons_self ..) _ (List.mem_cons_self ..) ht
      unfold nodeT at hn
      rw [List.append_assoc, List.append_assoc] at hn
      have hn := List.append_inj (List.append_cancel_left hn) (by rw [topV_len _ _ (leavesV_blob _), topV_len _ _ (leavesV_blob _)])
      by_cases hip : i < p
      · have h3 := top_inj k (l.take p) (m.take p) (by omega) (by omega) (fun x hx y hy => nc x (List.mem_cons_of_mem _ (List.mem_append_left _ hx)) y (List.mem_cons_of_mem _ (List.mem_append_left _ hy)))
          (by rw [top_fuel k p _ (by rw [leavesV_len]; omega) (by rw [leavesV_len]; omega), top_fuel k p (leavesV (m.take p)) (by rw [leavesV_len]; omega) (by rw [leavesV_len]; omega)]; exact hn.1) i (by omega)
        rw [nth_lt (by omega), nth_lt (by omega), List.getElem_take, List.getElem_take] at h3
        rw [nth_lt hi, nth_lt (by omega)]
        exact h3
      · have h3 := top_inj k (l.drop p) (m.drop p) (by omega) (by omega) (fun x hx y hy => nc x (List.mem_cons_of_mem _ (List.mem_append_right _ hx)) y (List.mem_cons_of_mem _ (List.mem_append_right _ hy)))
          (by rw [top_fuel k (l.length - p) _ (by rw [leavesV_len]; omega) (by rw [leavesV_len]; omega), top_fuel k (l.length - p) (leavesV (m.drop p)) (by rw [leavesV_len]; omega) (by rw [leavesV_len]; omega)]; exact hn.2) (i - p) (by omega)
        rw [nth_lt (by omega), nth_lt (by omega), List.getElem_drop, List.getElem_drop] at h3
        rw [nth_lt hi, nth_lt (by omega)]
        have e : p + (i - p) = i := by omega
        simp only [e] at h3
        exact h3

theorem bs8_inj {n m : Nat} (hn : n < 256) (hm : m < 256) (h : bs (BitVec.ofNat 64 n) 8 = bs (BitVec.ofNat 64 m) 8) : n = m := by
  simp only [bs, List.cons.injEq] at h
  have h1 := h.2.2.2.2.2.2.2.1
  have e : ∀ k : Nat, k < 256 → ((byteOf (BitVec.ofNat 64 k >>> (8 * 0))).toNat : Int) = k := by
    intro k hk
    rw [byteOf_toNat, Nat.mul_zero, BitVec.ushiftRight_zero]
    unfold U
    rw [BitVec.toNat_ofNat]
    omega
  have := e n hn
  rw [h1, e m hm] at this
  omega

theorem apart {l m : List AV} (hl : l.length ≤ 100) (hm : m.length ≤ 100) (h : ¬ Eqv l m) (hr : rootV l = rootV m) : clashB (allT l) (allT m) = true := by
  cases hc : clashB (allT l) (allT m) with
  | true => rfl
  | false =>
    exfalso
    apply h
    have nc := nc_of hc
    have hR := nc _ (List.mem_append_right _ (List.mem_singleton.2 rfl)) _ (List.mem_append_right _ (List.mem_singleton.2 rfl)) hr
    unfold rootT at hR
    rw [List.append_assoc, List.append_assoc] at hR
    have hR := List.append_inj (List.append_cancel_left hR) (by rw [bs_len, bs_len])
    have hlen := bs8_inj (by omega) (by omega) hR.1
    refine ⟨hlen, ?_⟩
    have ht := hR.2
    rw [← hlen] at ht
    refine top_inj l.length l m (Nat.le_refl _) hlen (fun x hx y hy => nc x (List.mem_append_left _ hx) y (List.mem_append_left _ ?_)) ht
    rw [← hlen]; exact hy

theorem root_eqv {l m : List AV} (h : Eqv l m) : rootV l = rootV m := by
  have e : leavesV l = leavesV m := by
    apply List.ext_getElem
    · rw [leavesV_len, leavesV_len, h.1]
    · intro i h1 h2
      rw [leavesV_len] at h1 h2
      have := h.2 i h1
      rw [nth_lt h1, nth_lt h2] at this
      simp [leavesV, this]
  unfold rootV
  rw [e, h.1]

theorem apart_l0 (n : Nat) {l m : List AV} (hl : l.length ≤ 100) (hm : m.length ≤ 100) (run : Run)
    (h20 : run 20 [.slice l] = some ⟨[.blob (rootV l)], [], false⟩) (h20' : run 20 [.slice m] = some ⟨[.blob (rootV m)], [], false⟩)
    (h24 : run 24 [.slice l, .slice m] = some ⟨[.bool (clashB (allT l) (allT m))], [], false⟩) (h16 : run 16 [] = some ⟨[.bool true], [], false⟩) :
    ∀ (j k i : Nat) (same : Bool), i + j = l.length → j < k → (same = true ↔ (l.length = m.length ∧ ∀ q, q < i → (nth l q).toStr = (nth m q).toStr)) →
      f5_l0 run n k l m same (i : Int) = some ⟨[.bool true], [], false⟩ := by
  have tail : ∀ same : Bool, (same = true → Eqv l m) → (same = false → ¬ Eqv l m) →
      (bif eqO same (eqS (rootV l) (rootV m)) then (some ⟨[.bool true], [], false⟩ : Option Res) else bif !same then (bif clashB (allT l) (allT m) then some ⟨[.bool true], [], false⟩ else some ⟨[.bool false], [], false⟩) else some ⟨[.bool false], [], false⟩) = some ⟨[.bool true], [], false⟩ := by
    intro same h1 h2
    cases same with
    | true => rw [eqS_t (root_eqv (h1 rfl)), eqO_t rfl]; rfl
    | false =>
      by_cases hr : rootV l = rootV m
      · rw [eqS_t hr, eqO_f (by decide), apart hl hm (h2 rfl) hr]; rfl
      · rw [eqS_f hr, eqO_t rfl]; rfl
  intro j
  induction j with
  | zero =>
    intro k i same hi hk hs
    obtain ⟨k, rfl⟩ : ∃ j, k = j + 1 := ⟨k - 1, by omega⟩
    rw [f5_l0_eq, ltI_f (by omega), cond_false, h20, h20', h24, h16, step1, step1, step1, step1, toBlob_b, toBlob_b, toBool_b, toBool_b]
    refine tail same (fun h => ?_) (fun h he => ?_)
    · obtain ⟨h1, h2⟩ := hs.1 h
      exact ⟨h1, fun q hq => h2 q (by omega)⟩
    · have := hs.2 ⟨he.1, fun q hq => he.2 q (by omega)⟩
      rw [h] at this; cases this
  | succ j ih =>
    intro k i same hi hk hs
    obtain ⟨k, rfl⟩ : ∃ j, k = j + 1 := ⟨k - 1, by omega⟩
    rw [f5_l0_eq, ltI_t (by omega), cond_true]
    cases same with
    | false =>
      rw [cond_false, h20, h20', h24, h16, step1, step1, step1, step1, toBlob_b, toBlob_b, toBool_b, toBool_b]
      refine tail false (fun h => by cases h) (fun _ he => ?_)
      have := hs.2 ⟨he.1, fun q hq => he.2 q (by omega)⟩
      cases this
    | true =>
      obtain ⟨h1, h2⟩ := hs.1 rfl
      rw [cond_true, inR_nat (by omega), inR_nat (by omega), cond_true, cond_true, Int.toNat_natCast, w64 (by omega) (by omega)]
      have ih' := ih k (i + 1) (eqS (nth l i).toStr (nth m i).toStr) (by omega) (by omega) (by
        rw [eqS_iff]
        constructor
        · intro e
          refine ⟨h1, fun q hq => ?_⟩
          rcases Nat.lt_or_ge q i with h3 | h3
          · exact h2 q h3
          · rw [show q = i by omega]; exact e
        · intro h3
          exact h3.2 i (by omega))
      rw [show ((i + 1 : Nat) : Int) = (i : Int) + 1 by omega] at ih'
      exact ih'

theorem treeApart_runs {l m : List AV} (hl : l.length ≤ maxLen) (hm : m.length ≤ maxLen) (sl : Short l) (sm : Short m) : RunsX 5 [.slice l, .slice m] ⟨[.bool true], [], false⟩ := by
  obtain ⟨b, h0, r1⟩ := much_runs hl
  obtain ⟨c, h0', r2⟩ := much_runs hm
  cases b with
  | true =>
    refine Evt.succ ((r1.and treeAwake).mono fun n hn => ?_)
    rw [f5_run, f5_eq, hn.1, step1, toBool_b, cond_true, hn.2, step1]; rfl
  | false =>
    cases c with
    | true =>
      refine Evt.succ (((r1.and r2).and treeAwake).mono fun n hn => ?_)
      rw [f5_run, f5_eq, hn.1.1, step1, toBool_b, cond_false, hn.1.2, step1, toBool_b, cond_true, hn.2, step1]; rfl
    | false =>
      have h1 := h0 rfl
      have h2 := h0' rfl
      refine Evt.succ (((((r1.and r2).and treeAwake).and ((root_runs (l := l) (by omega) sl).and (root_runs (l := m) (by omega) sm))).and ((clashes_runs (a := l) (b := m) (by omega) (by omega) sl sm).and (Evt.ge 1000))).mono fun n hn => ?_)
      obtain ⟨⟨⟨⟨g1, g2⟩, g3⟩, g4, g5⟩, g6, g7⟩ := hn
      rw [f5_run, f5_eq, g1, step1, toBool_b, cond_false, g2, step1, toBool_b, cond_false]
      refine apart_l0 n h1 h2 _ g4 g5 g6 g3 l.length n 0 _ (by omega) (by omega) ?_
      rw [eqI_iff]
      constructor
      · intro e; exact ⟨by omega, fun q hq => by omega⟩
      · intro e; have := e.1; omega

theorem treeApart_sat (xs : List AV) (h : Ty.HasL [.slice .str, .slice .str] xs) : ∃ r, r.vals = [.bool true] ∧ Sat Try.prog f5_info 5 xs r := by
  obtain ⟨x, r, rfl, ⟨l, rfl, hl, _, hx⟩, y, r2, rfl, ⟨m, rfl, hm, _, hy⟩, rfl⟩ := h
  exact ⟨_, rfl, sat_of_runsX (by kernel_rfl) (treeApart_runs hl hm (short_of hx) (short_of hy))⟩

end Go.Proofs.Ytcpdiahbdmcdcaa.Ev
