/- append, new variables, stores, copy, make, structs and slices built. -/
import Derived.Test.YtcpdiahbdmcdcaaEvM
import Derived.Laws.MakeOwn
namespace Go.Proofs.Ytcpdiahbdmcdcaa.Ev
open Go Go.RowKit

variable {c : Ctx} {gh : Ghost} {s : St} {a : Act} {w : World} {P : Program} {G : Env}

theorem run_append_zero (t ty e : TypeId) (i : TypeInfo) (ht : P.underlying t = some (.slice e)) (hi : P.info? e = some i) (base ao : Option Addr) (n cap k : Nat) (h : n ≤ cap) :
    (Builtin.append_ #[t, t] ty #[.slice base n cap, .slice ao 0 k]).run P w = .ok (.slice base n cap) w := by
  have hl : ∀ x : Addr, (loadCells x 0).run P w = .ok #[] w := fun x => by simpa using run_loadCells_list (P := P) w x [] (by simp)
  cases base <;> cases ao <;> simp [Builtin.append_, run_underlying ht, sizeOf, typeInfo, hi, Builtin.lenOf, h, Builtin.firstCells, hl, storeCells]

theorem run_append_in (t ty e : TypeId) (i : TypeInfo) (ht : P.underlying t = some (.slice e)) (hi : P.info? e = some i) (g sLen sCap : Nat) (cur : Array Value) (tid : TypeId) (hg : w.heap[g]? = some (.cells cur tid (0, 0)))
    (p : Addr) (m k : Nat) (news : List Value) (hl : news.length = m * i.size) (hnews : ∀ j u, news[j]? = some u → w.cell? (p.add j) = some u) (h1 : ∀ u ∈ news, u.oneCell' = true)
    (hroom : sLen + m ≤ sCap) (hfit : sLen * i.size + news.length ≤ cur.size) :
    (Builtin.append_ #[t, t] ty #[.slice (some ⟨g, 0, none⟩) sLen sCap, .slice (some p) m k]).run P w =
      .ok (.slice (some ⟨g, 0, none⟩) (sLen + m) sCap) (w.setRow g (cur.toList.take (sLen * i.size) ++ news ++ cur.toList.drop (sLen * i.size + news.length)).toArray) := by
  have hf := run_firstCells_some (P := P) w i.size m p m k news hl hnews
  have hst := run_storeCells_at P g (sLen * i.size) tid news 0 cur w hg (by simpa using hfit) h1
  simp only [Nat.add_zero] at hst
  simp [Builtin.append_, run_underlying ht, sizeOf, typeInfo, hi, Builtin.lenOf, hroom, hf, Addr.add_lit, hst]

theorem setRow_turned (w : World) (g : Nat) (cs : Array Value) : Turned g w (w.setRow g cs) := ⟨rfl, rfl, rfl, by simp [World.setRow], fun k hk => setRow_other w g k cs hk⟩

theorem zeroCells_list (z : Array Value) (n : Nat) : (Builtin.zeroCells z n).toList.length = n * z.size := by simp [Builtin.zeroCells]

theorem val_cells {T : Ty} {cs : List Value} (h : cs.length = T.size) (h1 : ∀ (j : Nat) v, cs[j]? = some v → v.oneCell' = true) : (T.val cs).cells = cs.toArray := by
  cases ha : T.isAgg with
  | true => simp [Ty.val, ha, Value.cells]
  | false =>
    rw [size_one ha] at h
    match cs, h with
    | [v], _ =>
      have := h1 0 v rfl
      rw [val_one ha]
      cases v <;> simp [Value.oneCell'] at this <;> rfl

theorem zeroCells_len (T : Ty) : T.zeroCells.length = T.size := by
  exact (zlen T)
where
  zlen : ∀ T : Ty, T.zeroCells.length = T.size
    | .bool => rfl
    | .int _ => rfl
    | .str => rfl
    | .slice _ => rfl
    | .fn => rfl
    | .blob n => by simp [Ty.zeroCells, Ty.size]
    | .arr n e => by simp [Ty.zeroCells, Ty.size, repCells_length, zlen e]
    | .struct fs => by simp [Ty.zeroCells, Ty.size, zlenL fs]
  zlenL : ∀ Ts : List Ty, (Ty.zeroCellsL Ts).length = Ty.sizeL Ts
    | [] => rfl
    | t :: ts => by simp [Ty.zeroCellsL, Ty.sizeL, zlen t, zlenL ts]

theorem zval_size {T : Ty} : (T.val T.zeroCells).cells.size = T.size := by
  cases ha : T.isAgg with
  | true => simp [Ty.val, ha, Value.cells, zeroCells_len]
  | false => cases T <;> simp [Ty.isAgg] at ha <;> rfl

theorem list_one {cs : List Value} (h : ∀ (j : Nat) v, cs[j]? = some v → v.oneCell' = true) : ∀ u ∈ cs, u.oneCell' = true := fun u hu => by
  obtain ⟨j, hj⟩ := List.mem_iff_getElem?.1 hu
  exact h j u hj

theorem appendK_does (hP : EnvOk P G) (h : Rel c gh s a w) {t rt : TypeId} {E : Ty} {b_ : Nat} {d : Option Nat} {x y : Operand} {f : Eff} (ht : G.tyOf t = some (.slice E)) (hby : assoc G.bytes t = some b_) (hd : dstOk s d = true)
    (hk : appendK s d E b_ x y some = some f) : Does P c s a w (Builtin.append_ #[t, t] rt #[a.eval x, a.eval y]) f := by
  unfold appendK at hk
  cases d with
  | none => cases hk
  | some d =>
  simp only at hk
  have hdo := h.dst_own hd
  obtain ⟨⟨bs, ro⟩, hb, hk⟩ := bind_some hk
  obtain ⟨_, hpos, e, h1, hE⟩ := hP.ty _ _ ht
  obtain ⟨i, hi, hsz, hz⟩ := hE.base
  obtain ⟨e', i', h1', hi', hby', hbpos⟩ := hP.bytes _ _ hby
  rw [h1] at h1'
  simp only [Option.some.injEq, TypeDesc.slice.injEq] at h1'
  subst h1'
  rw [hi] at hi'
  simp only [Option.some.injEq] at hi'
  subst hi'
  subst hby'
  obtain ⟨ao, cap', news, hy, hml, hnr, hnews, hnil⟩ := h.src hb
  have hnl := (arr_len hnr).2
  have hone := list_one (Rep.one _ _ _ hnr)
  -- growing onto a new block
  have grow : ∀ (n cap : Nat) (base : Option Addr) (olds : List Value) (es : List AV), 0 < bs.length → cap < n + bs.length → (base = none → n = 0 ∧ cap = 0) → (∀ p, base = some p → ∀ j u, olds[j]? = some u → w.cell? (p.add j) = some u) →
      Rep gh.S (.arr n E) olds (.agg es) → (n + bs.length) * i.bytes ≤ 140737488355328 → n + bs.length ≤ maxLen →
      ∃ cap2 more tid, (Builtin.append_ #[t, t] rt #[.slice base n cap, a.eval y]).run P w = .ok (.slice (some ⟨w.heap.size, 0, none⟩) (n + bs.length) cap2) (w.drew.alloc (.cells (olds ++ news ++ more).toArray tid)) ∧
        (olds ++ news ++ more).length = cap2 * E.size ∧ n + bs.length ≤ cap2 ∧ cap2 ≤ maxLen := by
    intro n cap base olds es hm hg hbase hc ho hbytes h63
    have hol := (arr_len ho).2
    have h63' : ((n + bs.length : Nat) : Int) ≤ 9223372036854775807 := by simp only [maxLen] at h63; omega
    cases ao with
    | none => have := (hnil rfl).1; rw [this] at hm; simp at hm
    | some p =>
      rw [hy]
      cases base with
      | none =>
        obtain ⟨rfl, rfl⟩ := hbase rfl
        have : olds = [] := List.eq_nil_of_length_eq_zero (by simpa using hol)
        subst this
        simp only [Nat.zero_add, List.nil_append] at *
        have hr := run_append_nil (P := P) w t rt e i _ h1 hi hz p bs.length cap' news (by rw [hnl, hsz]) (hnews p rfl) hm h63' (by omega)
        refine ⟨grownCap w bs.length 0 e, (Builtin.zeroCells (E.val E.zeroCells).cells (grownCap w bs.length 0 e - bs.length)).toList, e, ?_, ?_, grownCap_ge _ _ _ _, grownCap_le_maxLen _ _ _ _ h63⟩
        · have harr : (news ++ (Builtin.zeroCells (E.val E.zeroCells).cells (grownCap w bs.length 0 e - bs.length)).toList).toArray = news.toArray ++ Builtin.zeroCells (E.val E.zeroCells).cells (grownCap w bs.length 0 e - bs.length) := by
            apply Array.ext'; simp
          rw [harr]
          exact hr
        · rw [List.length_append, zeroCells_list, zval_size, hnl, ← Nat.add_mul]
          congr 1
          have := grownCap_ge w bs.length 0 e
          omega
      | some q =>
        have hr := run_append_grow (P := P) w t rt e i _ h1 hi hz q n cap olds (by rw [hol, hsz]) (hc q rfl) p bs.length cap' news (by rw [hnl, hsz]) (hnews p rfl) hg h63' (growslice_fits hg hbytes)
        refine ⟨grownCap w (n + bs.length) cap e, (Builtin.zeroCells (E.val E.zeroCells).cells (grownCap w (n + bs.length) cap e - (n + bs.length))).toList, e, ?_, ?_, grownCap_ge _ _ _ _, grownCap_le_maxLen _ _ _ _ h63⟩
        · have harr : (olds ++ news ++ (Builtin.zeroCells (E.val E.zeroCells).cells (grownCap w (n + bs.length) cap e - (n + bs.length))).toList).toArray = olds.toArray ++ news.toArray ++ Builtin.zeroCells (E.val E.zeroCells).cells (grownCap w (n + bs.length) cap e - (n + bs.length)) := by
            apply Array.ext'; simp
          rw [harr]
          exact hr
        · rw [List.length_append, List.length_append, zeroCells_list, zval_size, hol, hnl, ← Nat.add_mul, ← Nat.add_mul]
          congr 1
          have := grownCap_ge w (n + bs.length) cap e
          omega
  have drew : w.drew.os = w.os ∧ w.drew.tape = w.tape ∧ w.drew.output = w.output ∧ w.drew.heap = w.heap := ⟨rfl, rfl, rfl, rfl⟩
  have hbd : ∀ n : Nat, n * i.bytes ≤ 140737488355328 → n ≤ maxLen := fun n hn => by
    have : n * 1 ≤ n * i.bytes := Nat.mul_le_mul_left _ hbpos
    simp only [maxLen]; omega
  have nodist : ∀ g b, g ≠ d → (gh.τ g).ownBlock = some b → (Value.slice none 0 0).ownBlock ≠ some b := fun _ _ _ _ e => by cases e
  split at hk
  · rename_i x0 _
    obtain ⟨hle, hk⟩ := cond_some hk
    have hle := Nat.le_of_ble_eq_true hle
    simp only [Option.some.injEq] at hk
    subst hk
    have hmid : s.mid ⟨.val (.slice E) (some (d, s.own d + 1)) (.slice bs), [], [(d, s.own d + 1)], ro, [d]⟩ = ⟨s.tmps, s.objs, s.owns.set d (s.own d + 1)⟩ := rfl
    show ∃ gh' v w', _ ∧ _ ∧ _
    rw [hmid]
    by_cases hm : bs.length = 0
    · have : bs = [] := List.eq_nil_of_length_eq_zero hm
      subst this
      obtain ⟨gh', r1, r2⟩ := h.named d hdo (s.own d + 1) (by omega) (own_nil c.B gh.S w E.size) (nil_rep gh.S E) nodist (fun id ob b _ e => by cases e)
      refine ⟨gh', .slice none 0 0, w, ?_, r1, r2⟩
      rw [hy]
      exact run_append_zero t rt e i h1 hi none ao 0 0 cap' (Nat.le_refl _)
    · obtain ⟨cap2, more, tid, q1, q2, q3, q4⟩ := grow 0 0 none [] [] (by omega) (by omega) (fun _ => ⟨rfl, rfl⟩) (fun p e => by cases e) arr_nil (by simpa using hle) (by simpa using hbd _ hle)
      simp only [Nat.zero_add, List.nil_append] at q1 q2 q3 q4
      obtain ⟨gh', r1, r2⟩ := h.newSlice w.drew drew news more tid hnr q2 q3 q4 d hdo (s.own d + 1) (by omega)
      exact ⟨gh', _, _, q1, r1, r2⟩
  · rename_i x _ _ T' g n av _ _ hx
    obtain ⟨hc, hk1⟩ := cond_some hk
    clear hk
    obtain ⟨hle, hk2⟩ := cond_some hk1
    clear hk1
    simp only [Bool.and_eq_true] at hc
    obtain ⟨⟨hc1, hc2⟩, hc3⟩ := hc
    have hT' := Ty.beq_eq _ _ hc1
    subst hT'
    have hg2 := Nat.eq_of_beq_eq_true hc2
    have hg3 : g < s.owns.length := Nat.le_of_ble_eq_true hc3
    have hle := Nat.le_of_ble_eq_true hle
    simp only [Option.some.injEq] at hk2
    have hv := h.ope x
    rw [hx] at hv
    obtain ⟨hv1, hv2⟩ := hv
    obtain ⟨_, hv3⟩ := hv2 g n rfl
    obtain ⟨hτ, E', hE', hzg⟩ := hv3 hg2.symm
    simp only [Ty.slice.injEq] at hE'
    subst hE'
    obtain ⟨bo, cap, es, olds, hxe, rfl, g3, g4, g5, g6, g7⟩ := hv1.cells
    simp only [AV.toSlice] at hle hk2
    have hown := h.owns g
    rw [← hτ, hxe, hzg] at hown
    -- the old name is given up
    have hb1 := h.bump g (n + 1) hg3 (by omega) (.slice none 0 0) E.size (own_nil _ _ _ _) (fun _ _ _ _ e => by cases e) (fun id ob b _ e => by cases e)
    have hs1 : ∀ j, St.own ⟨s.tmps, s.objs, s.owns.set g (n + 1)⟩ j = if j = g then n + 1 else s.own j := fun j => own_set hg3
    have hd1 : d < (s.owns.set g (n + 1)).length := by simpa using hdo
    have hn1 : St.own ⟨s.tmps, s.objs, s.owns.set g (n + 1)⟩ d < (bif Nat.beq g d then n + 1 else s.own d) + 1 := by
      rw [hs1]
      cases hgd : Nat.beq g d with
      | true => have := Nat.eq_of_beq_eq_true hgd; rw [if_pos this.symm]; simp
      | false =>
        have : d ≠ g := fun e => by subst e; simp at hgd
        rw [if_neg this]; simp
    generalize hnn : (bif Nat.beq g d then n + 1 else s.own d) + 1 = n' at hk2 hn1
    subst hk2
    show ∃ gh' v w', _ ∧ Rel c gh' ⟨s.tmps, s.objs, (s.owns.set g (n + 1)).set d n'⟩ a w' ∧ EntRel gh' ⟨s.tmps, s.objs, (s.owns.set g (n + 1)).set d n'⟩ (.val (.slice E) (some (d, n')) (.slice (es ++ bs))) v
    have hlen63 := hbd _ hle
    -- nobody else names the old block
    have apartτ : ∀ b, (gh.τ g).ownBlock = some b → ∀ j, (upd gh.τ g (Value.slice none 0 0) j).ownBlock ≠ some b := fun b hb j e => by
      by_cases hj : j = g
      · subst hj; rw [upd_same] at e; cases e
      · rw [upd_ne _ _ hj] at e; exact hj (h.odist j g b e hb)
    by_cases hm : bs.length = 0
    · have : bs = [] := List.eq_nil_of_length_eq_zero hm
      subst this
      rw [List.append_nil]
      have hvr : VRep gh.S (.slice E) (.slice bo es.length cap) (.slice es) := by rw [← hxe]; exact hv1
      obtain ⟨gh', r1, r2⟩ := hb1.named d hd1 n' hn1 hown hvr
        (fun j b _ hj e => apartτ b (by rw [← hτ, hxe]; exact e) j hj)
        (fun id ob b ho e => h.mo id ob g b ho (by rw [← hτ, hxe]; exact e))
      refine ⟨gh', .slice bo es.length cap, w, ?_, r1, r2⟩
      rw [hy, hxe]
      exact run_append_zero t rt e i h1 hi bo ao _ _ cap' g3
    · by_cases hroom : es.length + bs.length ≤ cap
      · -- in place
        rcases hown with h0 | ⟨gb, n0, cap0, cs, hv0, k1, k2, k3, k4, k5, k6⟩
        · simp only [Value.slice.injEq] at h0
          omega
        · simp only [Value.slice.injEq] at hv0
          obtain ⟨rfl, rfl, rfl⟩ := hv0
          obtain ⟨tid, k2'⟩ := k2
          cases ao with
          | none => have := (hnil rfl).1; rw [this] at hm; simp at hm
          | some p =>
            have hcapE : (es.length + bs.length) * E.size ≤ cap * E.size := Nat.mul_le_mul_right _ hroom
            rw [Nat.add_mul] at hcapE
            have hrun := run_append_in (P := P) t rt e i h1 hi gb es.length cap cs.toArray tid k2' p bs.length cap' news (by rw [hnl, hsz]) (hnews p rfl) hone hroom (by rw [hsz]; simp; omega)
            rw [hsz] at hrun
            simp only at hrun
            generalize hcs' : cs.take (es.length * E.size) ++ news ++ cs.drop (es.length * E.size + news.length) = cs' at hrun
            have hτb : (gh.τ g).ownBlock = some gb := by rw [← hτ, hxe]; rfl
            have hnewblk : (w.setRow gb cs'.toArray).heap[gb]? = some (.cells cs'.toArray tid (0, 0)) := setRow_heap w gb _ _ _ _ k2'
            have hrow' : Row (w.setRow gb cs'.toArray) gb cs' := ⟨tid, hnewblk⟩
            have holdlen : (cs.take (es.length * E.size)).length = es.length * E.size := by simp; omega
            have hfill := hb1.fill (w' := w.setRow gb cs'.toArray) (S' := gh.S.plus gb (es.length * E.size) news) gb k1 (apartτ gb hτb) (fun id ob ho => h.mo id ob g gb ho hτb)
              (setRow_turned w gb cs'.toArray) (Snap.le_plus _ _ _ _)
              (fun q v hq => (Snap.plus_new hq).imp id (fun z => z.1))
              (fun q v hq => by
                rcases Snap.plus_new hq with z | ⟨z1, z2, z3, z4⟩
                · have hcell := h.agree q v z
                  by_cases hqb : q.block = gb
                  · have hqo : q.off < es.length * E.size := by
                      rcases Nat.lt_or_ge q.off (es.length * E.size) with hh | hh
                      · exact hh
                      · rw [k6 q hqb hh] at z; cases z
                    have hsp : q.spot = none := by
                      unfold World.cell? at hcell
                      rw [hqb, k2'] at hcell
                      cases hq2 : q.spot with
                      | none => rfl
                      | some u => simp [hq2] at hcell
                    have hqq : q = ⟨gb, q.off, none⟩ := by cases q; simp at hqb hsp ⊢; exact ⟨hqb, hsp⟩
                    rw [hqq] at hcell ⊢
                    rw [hrow'.cell, ← hcs', List.append_assoc, List.getElem?_append_left (by omega), List.getElem?_take, if_pos hqo]
                    rw [Row.cell ⟨tid, k2'⟩] at hcell
                    exact hcell
                  · rw [World.cell?_of_block (setRow_other w gb q.block _ hqb)]
                    exact hcell
                · have hqq : q = ⟨gb, q.off, none⟩ := by cases q; simp at z1 z2 ⊢; exact ⟨z1, z2⟩
                  rw [hqq, hrow'.cell, ← hcs', List.append_assoc, List.getElem?_append_right (by omega), holdlen, List.getElem?_append_left (List.getElem?_eq_some_iff.1 z4).1]
                  exact z4)
            have hhas : (gh.S.plus gb (es.length * E.size) news).has ⟨gb, 0, none⟩ (olds ++ news) := by
              have z0 := Snap.has_mono (Snap.le_plus gh.S gb (es.length * E.size) news) (g6 _ rfl)
              have z1 : (gh.S.plus gb (es.length * E.size) news).has ((⟨gb, 0, none⟩ : Addr).add (0 + olds.length)) news := by
                rw [add_plain, (arr_len g5).2]
                simpa using Snap.plus_has (S := gh.S) (k := es.length * E.size) news k6
              have := Snap.has_append (m := 0) (p := ⟨gb, 0, none⟩) (by simpa [Addr.add] using z0) z1
              simpa [Addr.add] using this
            have hrep := arr_append (Rep.mono (Snap.le_plus gh.S gb (es.length * E.size) news) _ _ _ g5) (Rep.mono (Snap.le_plus gh.S gb (es.length * E.size) news) _ _ _ hnr)
            obtain ⟨gh', r1, r2⟩ := hfill.named d hd1 n' hn1 (v := .slice (some ⟨gb, 0, none⟩) (es.length + bs.length) cap)
              (.inr ⟨gb, es.length + bs.length, cap, cs', rfl, k1, hrow', by rw [← hcs']; simp; omega, hroom, g4, by rw [Nat.add_mul, ← hnl]; exact Snap.plus_off news k6⟩)
              (VRep.slice_mk hrep hhas hroom g4)
              (fun j b _ hj e => by
                simp only [Value.ownBlock, Option.some.injEq] at e
                subst e
                exact apartτ gb hτb j hj)
              (fun id ob b ho e => by
                simp only [Value.ownBlock, Option.some.injEq] at e
                subst e
                exact h.mo id ob g gb ho hτb)
            refine ⟨gh', _, _, ?_, r1, r2⟩
            rw [hy, hxe]
            exact hrun
      · -- onto a new block
        have hbase : bo = none → es.length = 0 ∧ cap = 0 := fun e => by
          have := g7 e
          exact ⟨by rw [this.1]; rfl, this.2.2⟩
        obtain ⟨cap2, more, tid, q1, q2, q3, q4⟩ := grow es.length cap bo olds es (by omega) (by omega) hbase (fun p e j u hj => h.agree _ _ (g6 p e j u hj)) g5 hle hlen63
        obtain ⟨gh', r1, r2⟩ := hb1.newSlice w.drew drew (olds ++ news) more tid (arr_append g5 hnr) q2 q3 q4 d hd1 n' hn1
        refine ⟨gh', _, _, ?_, r1, r2⟩
        rw [hxe]
        exact q1
  · cases hk

end Go.Proofs.Ytcpdiahbdmcdcaa.Ev
