/- New variables, stores, copy, make, structs and slices built. -/
import Derived.Test.YtcpdiahbdmcdcaaEvN
namespace Go.Proofs.Ytcpdiahbdmcdcaa.Ev
open Go Go.RowKit

variable {c : Ctx} {gh : Ghost} {s : St} {a : Act} {w : World} {P : Program} {G : Env}

/- new variables -/
theorem Rel.newVar (h : Rel c gh s a w) {t : TypeId} {T : Ty} {d : Nat} (hd : dstOk s (some d) = true) {v : Value} {x : AV} (hv : VRep gh.S T v x) :
    ∃ gh', (Go.newVar t v).run P w = .ok ⟨w.heap.size, 0, none⟩ (w.alloc (.cells v.cells t)) ∧
      Rel c gh' ⟨s.tmps, s.objs.set d ⟨(s.slot d).gen + 1, some ⟨T, x⟩⟩, s.owns⟩ a (w.alloc (.cells v.cells t)) ∧
      EntRel gh' ⟨s.tmps, s.objs.set d ⟨(s.slot d).gen + 1, some ⟨T, x⟩⟩, s.owns⟩ (.ptr ⟨T, d, (s.slot d).gen + 1, []⟩) (.pointer (some ⟨w.heap.size, 0, none⟩)) ∧ gh'.S = gh.S := by
  obtain ⟨cs, rfl, r⟩ := hv
  have hc := val_cells (Rep.len _ _ _ r) (Rep.one _ _ _ r)
  have hrow : Row (w.alloc (.cells (T.val cs).cells t)) w.heap.size cs := ⟨t, by rw [hc]; exact alloc_new w _⟩
  have hg : Rel c gh s a (w.alloc (.cells (T.val cs).cells t)) := by
    refine h.grow (S' := gh.S) ⟨⟨rfl, rfl, rfl, by simp, fun k hk _ => alloc_old w _ hk⟩, Snap.le_refl _, fun p v hp => .inl hp, fun p v hp => ?_⟩
    have hlt := World.block_lt_of_cell? w p (h.agree p v hp)
    rw [World.cell?_of_block (w := w) (alloc_old w _ hlt)]
    exact h.agree p v hp
  refine ⟨_, rfl, hg.newOb d _ (h.dst_obj hd) (Nat.lt_succ_self _) w.heap.size ⟨T, x⟩ ⟨cs, hrow, .inl h.size, r, h.off_new (Nat.le_refl _)⟩ (h.fresh_m (Nat.le_refl _)) (h.fresh_τ (Nat.le_refl _)), ?_, rfl⟩
  simp only [EntRel, PtRel, slot_set (h.dst_obj hd), if_pos]
  refine ⟨Nat.le_refl _, fun _ ob hob => ?_⟩
  simp only [Option.some.injEq] at hob
  subst hob
  exact ⟨0, ⟨rfl, rfl⟩, by rw [upd_same]⟩

theorem tellNew_does (h : Rel c gh s a w) {t : TypeId} {T : Ty} {d : Option Nat} (hd : dstOk s d = true) {v : Value} {x : AV} {f : Eff} (hv : VRep gh.S T v x) (hk : tellNew s d T x some = some f) :
    Does P c s a w (do pure (.pointer (some (← Go.newVar t v)))) f := by
  cases d with
  | none => cases hk
  | some d =>
    simp only [tellNew, Option.some.injEq] at hk
    subst hk
    obtain ⟨gh', h1, h2, h3, _⟩ := h.newVar (P := P) (t := t) hd hv
    exact ⟨gh', _, _, by simp [h1], h2, h3⟩

theorem tellOwn_nil (h : Rel c gh s a w) {d : Option Nat} (hd : dstOk s d = true) {E : Ty} {f : Eff} {m : Sem Value} (hm : m.run P w = .ok (.slice none 0 0) w) (hk : tellOwn s d (.slice E) (.slice []) some = some f) : Does P c s a w m f := by
  cases d with
  | none => cases hk
  | some d =>
    simp only [tellOwn, Option.some.injEq] at hk
    subst hk
    obtain ⟨gh', r1, r2⟩ := h.named d (h.dst_own hd) (s.own d + 1) (by omega) (own_nil c.B gh.S w E.size) (nil_rep gh.S E) (fun _ _ _ _ e => by cases e) (fun id ob b _ e => by cases e)
    exact ⟨gh', _, w, hm, r1, r2⟩

/- stores -/
theorem Rel.setPt (h : Rel c gh s a w) {p : Pt} {y : AV} {z : Nat × OSlot} {v u : Value} (hv : PtRel gh s p v) (hy : VRep gh.S p.t u y) (hz : s.setPt p y = some z) :
    ∃ ad w', v = .pointer (some ad) ∧ (∀ t, TyOk P p.t t → (storeVar t ad u).run P w = .ok () w') ∧ Rel c gh ⟨s.tmps, s.objs.set z.1 z.2, s.owns⟩ a w' := by
  unfold St.setPt at hz
  obtain ⟨ob, hob, rfl⟩ := Option.map_eq_some_iff.1 hz
  obtain ⟨hgen, hob⟩ := obAt_some hob
  obtain ⟨off, k1, k2⟩ := hv.2 hgen ob hob
  obtain ⟨cs0, ⟨tid, g1⟩, g2, g3, g4⟩ := h.objs p.id ob hob
  obtain ⟨ds, rfl, ry⟩ := hy
  have hdl := Rep.len _ _ _ ry
  have hle := PathOk.le _ _ _ _ k1
  have hcl := Rep.len _ _ _ g3
  have hc := val_cells hdl (Rep.one _ _ _ ry)
  have hst := run_storeCells_at P (gh.m p.id) off tid ds 0 cs0.toArray w g1 (by simp; omega) (list_one (Rep.one _ _ _ ry))
  simp only [Nat.add_zero] at hst
  have hset := setP_rep p.path ob.t p.t off cs0 ds ob.x y k1 g3 ry
  rw [← hdl] at hset
  refine ⟨_, w.setRow (gh.m p.id) (cs0.take off ++ ds ++ cs0.drop (off + ds.length)).toArray, k2, fun t ht => ?_, ?_⟩
  · unfold storeVar
    have hne : ¬ (p.t.val ds).cells.size ≠ p.t.size := by rw [hc]; simpa using hdl
    simp only [Sem.run_bind, ht.size, Result.andThen_ok]
    rw [if_neg hne, hc]
    simpa using hst
  · rw [hgen]
    exact h.turn p.id (by
      rcases Nat.lt_or_ge p.id s.objs.length with hh | hh
      · exact hh
      · simp [St.slot, List.getD, List.getElem?_eq_none hh] at hob) ob hob (setRow_turned w _ _) _ ⟨tid, setRow_heap w _ _ _ _ _ g1⟩ _ hset

/- structs and arrays built -/
theorem fold_cells : ∀ (vs : List Value) (k off : Nat) (cells : Array Value), off + k + vs.length ≤ cells.size →
    (vs.zipIdx k).foldl (fun cs (x : Value × Nat) => cs.setIfInBounds (off + x.2) x.1) cells = (cells.toList.take (off + k) ++ vs ++ cells.toList.drop (off + k + vs.length)).toArray
  | [], k, off, cells, _ => by simp
  | v :: vs, k, off, cells, h => by
    simp only [List.zipIdx_cons, List.foldl_cons]
    simp only [List.length_cons] at h
    rw [fold_cells vs (k + 1) off _ (by simp; omega)]
    apply Array.ext'
    simp only [List.length_cons, Array.toList_setIfInBounds]
    have h1 : off + k < cells.toList.length := by simp; omega
    rw [List.take_set, List.drop_set_of_lt (by omega)]
    rw [show off + (k + 1) = off + k + 1 by omega, List.take_succ_eq_append_getElem h1, List.set_append_right _ _ (by simp; omega)]
    simp [show min (off + k) cells.size = off + k by simp at h1; omega]
    congr 1
    omega

theorem fill_one {place : Nat → Option (Nat × Nat)} {cells : List Value} {i off size : Nat} {v : Value} {rest : List (Nat × Value)} {ds : List Value} (hp : place i = some (off, size)) (hv : v.cells = ds.toArray) (hd : ds.length = size) (hle : off + size ≤ cells.length) :
    Instr.fill place cells.toArray ((i, v) :: rest) = Instr.fill place (cells.take off ++ ds ++ cells.drop (off + size)).toArray rest := by
  have hf : v.cells.zipIdx.foldl (fun cs (x : Value × Nat) => cs.setIfInBounds (off + x.2) x.1) cells.toArray = (cells.take off ++ ds ++ cells.drop (off + size)).toArray := by
    have := fold_cells ds 0 off cells.toArray (by simp; omega)
    rw [hv]
    simp only [Nat.add_zero, hd] at this
    rw [← this, ← Array.foldl_toList]
    simp
  have hsz : v.cells.size = size := by rw [hv]; simpa using hd
  show (match place i with
    | none => none
    | some (off, size) => if v.cells.size ≠ size || off + v.cells.size > cells.toArray.size then none else Instr.fill place (v.cells.zipIdx.foldl (fun cs (x : Value × Nat) => cs.setIfInBounds (off + x.2) x.1) cells.toArray) rest) = _
  rw [hp]
  simp only [hsz]
  rw [if_neg (by simp; omega), hf]

theorem fill_struct (h : Rel c gh s a w) {Fs : List Ty} {place : Nat → Option (Nat × Nat)} (hp : ∀ i F, Fs[i]? = some F → place i = some (Ty.sizeL (Fs.take i), F.size)) :
    ∀ (ps : List (Nat × Operand)) (cells : List Value) (l l' : List AV), RepL gh.S Fs cells l → partsE s ps Fs l = some l' →
      ∃ cells', Instr.fill place cells.toArray (ps.map fun (i, x) => (i, a.eval x)) = some cells'.toArray ∧ RepL gh.S Fs cells' l'
  | [], cells, l, l', r, e => by
    simp [partsE] at e
    subst e
    exact ⟨cells, rfl, r⟩
  | (i, x) :: ps, cells, l, l', r, e => by
    simp only [partsE] at e
    split at e
    · rename_i F hF
      obtain ⟨u, hu, e⟩ := bind_some e
      obtain ⟨ds, hx, ru⟩ := h.opv hu
      obtain ⟨y, hy, ry, hle⟩ := RepL.at Fs cells l i F r hF
      have hds := Rep.len _ _ _ ru
      obtain ⟨cells', h1, h2⟩ := fill_struct h hp ps _ _ l' (RepL.set Fs cells l i F ds u r hF ru) e
      refine ⟨cells', ?_, h2⟩
      rw [List.map_cons, fill_one (hp i F hF) (by simp only [hx]; exact val_cells hds (Rep.one _ _ _ ru)) hds hle]
      exact h1
    · cases e

theorem fill_arr (h : Rel c gh s a w) {E : Ty} {n : Nat} {place : Nat → Option (Nat × Nat)} (hp : ∀ i, place i = some (i * E.size, E.size)) :
    ∀ (ps : List (Nat × Operand)) (cells : List Value) (l l' : List AV), Rep gh.S (.arr n E) cells (.agg l) → elemsE s E ps l = some l' →
      ∃ cells', Instr.fill place cells.toArray (ps.map fun (i, x) => (i, a.eval x)) = some cells'.toArray ∧ Rep gh.S (.arr n E) cells' (.agg l')
  | [], cells, l, l', r, e => by
    simp [elemsE] at e
    subst e
    exact ⟨cells, rfl, r⟩
  | (i, x) :: ps, cells, l, l', r, e => by
    simp only [elemsE] at e
    obtain ⟨hlt, e⟩ := cond_some e
    have hlt : i < l.length := Nat.le_of_ble_eq_true hlt
    obtain ⟨u, hu, e⟩ := bind_some e
    obtain ⟨ds, hx, ru⟩ := h.opv hu
    have hds := Rep.len _ _ _ ru
    obtain ⟨ln, lc⟩ := arr_len r
    have hset := setP_rep [i] (.arr n E) E (i * E.size) cells ds (.agg l) u (by simp only [PathOk]; exact ⟨by omega, 0, by omega, trivial, rfl⟩) r ru
    simp only [setP, AV.toAgg] at hset
    have hb : (i + 1) * E.size ≤ n * E.size := Nat.mul_le_mul_right _ (by omega)
    rw [Nat.succ_mul] at hb
    obtain ⟨cells', h1, h2⟩ := fill_arr h hp ps _ _ l' hset e
    refine ⟨cells', ?_, h2⟩
    rw [List.map_cons, fill_one (hp i) (by simp only [hx]; exact val_cells hds (Rep.one _ _ _ ru)) hds (by omega)]
    exact h1

theorem map_eval (ps : Array (Nat × Operand)) : (ps.map fun (i, x) => (i, a.eval x)).toList = ps.toList.map fun (i, x) => (i, a.eval x) := by simp

theorem places_of {P : Program} : ∀ (Fs : List Ty) (fs : List Field) (off : Nat), TyOkL P Fs fs off → ∃ pl, fs.mapM (fun f => (P.info? f.type).map fun i => (f.offset, i.size)) = some pl ∧ ∀ i F, Fs[i]? = some F → pl[i]? = some (off + Ty.sizeL (Fs.take i), F.size)
  | [], fs, off, h => by
    simp only [TyOkL] at h
    subst h
    exact ⟨[], rfl, by simp⟩
  | T :: Ts, fs, off, h => by
    simp only [TyOkL] at h
    obtain ⟨f, r, rfl, h1, _, h2, h3, h4⟩ := h
    obtain ⟨i, hi, hs, _⟩ := h3.base
    obtain ⟨pl, q1, q2⟩ := places_of Ts r _ h4
    refine ⟨(f.offset, i.size) :: pl, by simp [hi, q1], fun j F hF => ?_⟩
    cases j with
    | zero => simp at hF; subst hF; simp [Ty.sizeL, h1, hs]
    | succ j =>
      have := q2 j F (by simpa using hF)
      simp only [List.getElem?_cons_succ, this, List.take_succ_cons, Ty.sizeL]
      congr 2
      omega

theorem repCells_one (v : Value) : ∀ n, repCells [v] n = List.replicate n v
  | 0 => rfl
  | n + 1 => by rw [repCells, repCells_one v n]; rfl

theorem build_tells (hP : EnvOk P G) (h : Rel c gh s a w) {t : TypeId} {T : Ty} {ps : Array (Nat × Operand)} {x : AV} (ht : G.tyOf t = some T) (hf : T.noFn = true)
    (hk : (∃ fs l, T = .struct fs ∧ partsE s ps.toList fs (Ty.zeroL fs) = some l ∧ x = .agg l) ∨ (∃ n e l, T = .arr n e ∧ elemsE s e ps.toList (List.replicate n e.zero) = some l ∧ x = .agg l) ∨ (∃ n l, T = .blob n ∧ elemsE s (.int .u8) ps.toList (List.replicate n (.int 0)) = some l ∧ x = .blob (bytesOf l))) :
    Tells P gh s w (Instr.build t (ps.map fun (i, x) => (i, a.eval x))) ⟨.val T none x, [], [], [], []⟩ := by
  have hT := hP.ty _ _ ht
  obtain ⟨it, hit, _, hz⟩ := hT.base
  have hzr := zero_rep gh.S T hf
  rcases hk with ⟨Fs, l, rfl, hp, rfl⟩ | ⟨n, E, l, rfl, hp, rfl⟩ | ⟨n, l, rfl, hp, rfl⟩
  · obtain ⟨_, _, fs, h1, h2⟩ := hT
    obtain ⟨pl, q1, q2⟩ := places_of Fs fs.toList 0 h2
    have hzr' : RepL gh.S Fs (Ty.zeroCellsL Fs) (Ty.zeroL Fs) := by
      simp only [Rep, Ty.zero, Ty.zeroCells, AV.agg.injEq] at hzr
      obtain ⟨_, rfl, r⟩ := hzr
      exact r
    obtain ⟨cells', k1, k2⟩ := fill_struct h (place := (pl.toArray[·]?)) (fun i F hF => by simpa using q2 i F hF) ps.toList _ _ l hzr' hp
    refine .mk (v := .agg cells'.toArray) ?_ (.plain ⟨cells', rfl, by simp only [Rep]; exact ⟨l, rfl, k2⟩⟩)
    refine run_build w t _ _ ?_
    simp only [Program.built, hit, h1, hz, q1, map_eval]
    exact k1
  · obtain ⟨_, e, h1, hE⟩ := hT
    obtain ⟨ie, hie, hs, _⟩ := hE.base
    have hzr' : Rep gh.S (.arr n E) (repCells E.zeroCells n) (.agg (List.replicate n E.zero)) := by
      simpa only [Ty.zero, Ty.zeroCells] using hzr
    obtain ⟨cells', k1, k2⟩ := fill_arr h (place := fun i => some (i * ie.size, ie.size)) (fun i => by rw [hs]) ps.toList _ _ l hzr' hp
    refine .mk (v := .agg cells'.toArray) ?_ (.plain ⟨cells', rfl, k2⟩)
    refine run_build w t _ _ ?_
    simp only [Program.built, hit, h1, hz, hie, map_eval]
    exact k1
  · obtain ⟨_, e, h1, _, hbe⟩ := hT
    obtain ⟨ie, hie, hs, _⟩ := hbe
    have hzr' : Rep gh.S (.arr n (.int .u8)) (repCells [.int .u8 0] n) (.agg (List.replicate n (.int 0))) := zero_rep gh.S (.arr n (.int .u8)) rfl
    rw [repCells_one] at hzr'
    obtain ⟨cells', k1, k2⟩ := fill_arr h (place := fun i => some (i * ie.size, ie.size)) (fun i => by rw [hs]) ps.toList _ _ l hzr' hp
    refine .mk (v := .agg cells'.toArray) ?_ (.plain ⟨cells', rfl, elems_back (t := .blob n) rfl k2⟩)
    refine run_build w t _ _ ?_
    simp only [Program.built, hit, h1, hz, hie, map_eval]
    exact k1

theorem range_zero (E : Ty) (n : Nat) (hpos : 0 < E.size) : ((Array.range (n * E.size)).map (fun k => (E.zeroCells.toArray)[k % E.zeroCells.toArray.size]!)) = (repCells E.zeroCells n).toArray := by
  have hl := zeroCells_len E
  apply Array.ext
  · simp [repCells_length, hl]
  · intro k h1 h2
    simp [repCells_length, hl] at h2
    simp only [Array.getElem_map, Array.getElem_range, List.size_toArray, hl]
    have hm : k % E.size < E.zeroCells.length := by rw [hl]; exact Nat.mod_lt _ hpos
    have hi : k / E.size < n := (Nat.div_lt_iff_lt_mul hpos).2 h2
    have hp := repCells_part E.zeroCells n (k / E.size) hi
    have hg := congrArg (fun l => l[k % E.size]?) hp
    simp only [List.getElem?_take, List.getElem?_drop, hl, if_pos (Nat.mod_lt _ hpos), Nat.mul_comm (k / E.size), Nat.div_add_mod] at hg
    rw [getElem!_pos _ _ (by simpa using hm)]
    simp only [List.getElem_toArray]
    have h3 : k < (repCells E.zeroCells n).length := by rw [repCells_length, hl]; exact h2
    rw [List.getElem?_eq_getElem h3, List.getElem?_eq_getElem hm] at hg
    simpa using hg.symm

theorem run_newRow (e : TypeId) (cells : Array Value) : (newRow e cells).run P w = .ok ⟨w.heap.size, 0, none⟩ (w.alloc (.cells cells e)) := rfl

theorem buildSlice_does (hP : EnvOk P G) (h : Rel c gh s a w) {t : TypeId} {E : Ty} {n : Nat} {d : Option Nat} (hd : dstOk s d = true) {ps : Array (Nat × Operand)} {l : List AV} {f : Eff} (ht : G.tyOf t = some (.slice E)) (hf : E.noFn = true)
    (hp : elemsE s E ps.toList (List.replicate n E.zero) = some l) (hn : n * E.size ≤ 16777216) (hk : tellOwn s d (.slice E) (.slice l) some = some f) :
    Does P c s a w (Instr.buildSlice t n (ps.map fun (i, x) => (i, a.eval x))) f := by
  cases d with
  | none => cases hk
  | some d =>
    simp only [tellOwn, Option.some.injEq] at hk
    subst hk
    obtain ⟨_, hpos, e, h1, hE⟩ := hP.ty _ _ ht
    have hzr : Rep gh.S (.arr n E) (repCells E.zeroCells n) (.agg (List.replicate n E.zero)) := zero_rep gh.S (.arr n E) hf
    obtain ⟨cells', k1, k2⟩ := fill_arr h (place := fun i => some (i * E.size, E.size)) (fun i => rfl) ps.toList _ _ l hzr hp
    have hcl := (arr_len k2).2
    have hn63 : n ≤ maxLen := by
      have : n * 1 ≤ n * E.size := Nat.mul_le_mul_left _ hpos
      simp only [maxLen]; omega
    obtain ⟨gh', r1, r2⟩ := h.newSlice w ⟨rfl, rfl, rfl, rfl⟩ cells' [] e k2 (by simpa using hcl) (Nat.le_refl n) hn63 d (h.dst_own hd) (s.own d + 1) (by omega)
    rw [List.append_nil] at r1
    refine ⟨gh', _, _, ?_, r1, r2⟩
    have hzc : (E.val E.zeroCells).cells = E.zeroCells.toArray := by
      have hz := zero_rep gh.S E hf
      exact val_cells (Rep.len _ _ _ hz) (Rep.one _ _ _ hz)
    have hfill : Instr.fill (fun i => some (i * E.size, E.size)) ((Array.range (n * E.size)).map (fun k => (E.zeroCells.toArray)[k % E.zeroCells.toArray.size]!)) (ps.map fun (i, x) => (i, a.eval x)).toList = some cells'.toArray := by
      rw [range_zero E n hpos, map_eval]
      exact k1
    unfold Instr.buildSlice
    simp only [run_underlying h1, Sem.run_bind, Result.andThen_ok, hE.size]
    rw [if_neg (by omega)]
    by_cases h0 : n * E.size = 0
    · have hm0 : (Array.range (n * E.size)).map (fun k => (#[] : Array Value)[k % (#[] : Array Value).size]!) = (Array.range (n * E.size)).map (fun k => (E.zeroCells.toArray)[k % E.zeroCells.toArray.size]!) := by rw [h0]; simp
      rw [if_pos h0]
      simp only [Sem.run_bind, Sem.run_pure, Result.andThen_ok, hm0, hfill, run_newRow]
    · rw [if_neg h0]
      simp only [Sem.run_bind, Sem.run_pure, Result.andThen_ok, hE.zero, hzc, hfill, run_newRow]

/- make -/
theorem madeCells_zero {E : Ty} {S : Snap} (hf : E.noFn = true) (hpos : 0 < E.size) (n : Nat) : madeCells (E.val E.zeroCells).cells (n * E.size) = (repCells E.zeroCells n).toArray := by
  have hz := zero_rep S E hf
  rw [val_cells (Rep.len _ _ _ hz) (Rep.one _ _ _ hz)]
  rw [← range_zero E n hpos]
  rfl

theorem makeK_does (hP : EnvOk P G) (h : Rel c gh s a w) {t : TypeId} {T : Ty} {b_ : Nat} {d : Option Nat} {x y : Operand} {f : Eff} (ht : G.tyOf t = some T) (hby : assoc G.bytes t = some b_) (hf : T.noFn = true) (hd : dstOk s d = true)
    (hk : makeK s d T b_ x y some = some f) : Does P c s a w (Instr.makeSlice t (a.eval x) (a.eval y)) f := by
  unfold makeK at hk
  split at hk
  · rename_i E d
    obtain ⟨u, hu, hk1⟩ := bind_some hk
    obtain ⟨v, hv, hk2⟩ := bind_some hk1
    obtain ⟨n, hx, rfl, wf⟩ := (h.opv hu).int
    obtain ⟨m, hy, rfl, wf'⟩ := (h.opv hv).int
    clear hk hk1
    simp only [AV.toInt] at hk2
    obtain ⟨hc, hk3⟩ := cond_some hk2
    clear hk2
    simp only [Bool.and_eq_true] at hc
    obtain ⟨⟨hmn, h0⟩, hle⟩ := hc
    have hmn := (of_decide_eq_true hmn).symm
    have h0 := of_decide_eq_true h0
    subst hmn
    have hle := Nat.le_of_ble_eq_true hle
    simp only [Option.some.injEq] at hk3
    subst hk3
    obtain ⟨_, hpos, e, h1, hE⟩ := hP.ty _ _ ht
    obtain ⟨i, hi, hsz, hz⟩ := hE.base
    obtain ⟨e', i', h1', hi', hby', hbpos⟩ := hP.bytes _ _ hby
    rw [h1] at h1'
    simp only [Option.some.injEq, TypeDesc.slice.injEq] at h1'
    subst h1'
    rw [hi] at hi'
    simp only [Option.some.injEq] at hi'
    subst hi'
    have hb := wf_bounds wf
    simp only [IntKind.min, IntKind.max, IntKind.signed, IntKind.bits, if_true] at hb
    have hmul : (i.bytes : Int) * n ≤ 281474976710656 := by
      have : ((n.toNat * b_ : Nat) : Int) ≤ 140737488355328 := by omega
      rw [Int.natCast_mul, Int.toNat_of_nonneg h0, ← hby'] at this
      rw [Int.mul_comm]
      omega
    have hrun := run_make (P := P) w t e i _ h1 hi hz .i64 .i64 n n h0 (Int.le_refl _) hmul (by omega)
    simp only [Ty.noFn] at hf
    rw [hsz, madeCells_zero (S := gh.S) hf hpos] at hrun
    have hzr : Rep gh.S (.arr n.toNat E) (repCells E.zeroCells n.toNat) (.agg (List.replicate n.toNat E.zero)) := zero_rep gh.S (.arr n.toNat E) hf
    have hrow : Row (w.alloc (.cells (repCells E.zeroCells n.toNat).toArray e)) w.heap.size (repCells E.zeroCells n.toNat) := ⟨e, alloc_new w _⟩
    have hg : Rel c gh s a (w.alloc (.cells (repCells E.zeroCells n.toNat).toArray e)) := by
      refine h.grow (S' := gh.S) ⟨⟨rfl, rfl, rfl, by simp, fun k hk _ => alloc_old w _ hk⟩, Snap.le_refl _, fun p v hp => .inl hp, fun p v hp => ?_⟩
      have hlt := World.block_lt_of_cell? w p (h.agree p v hp)
      rw [World.cell?_of_block (w := w) (alloc_old w _ hlt)]
      exact h.agree p v hp
    have hn := hg.newOb d ((s.slot d).gen + 1) (h.dst_obj hd) (Nat.lt_succ_self _) w.heap.size ⟨.arr n.toNat E, .agg (List.replicate n.toNat E.zero)⟩
      ⟨_, hrow, .inl h.size, hzr, h.off_new (Nat.le_refl _)⟩ (h.fresh_m (Nat.le_refl _)) (h.fresh_τ (Nat.le_refl _))
    refine ⟨_, _, _, by rw [hx, hy]; exact hrun, hn, ?_⟩
    simp only [EntRel, RefRel]
    show _ ≤ (St.slot ⟨s.tmps, s.objs.set d _, s.owns⟩ d).gen ∧ (_ = (St.slot ⟨s.tmps, s.objs.set d _, s.owns⟩ d).gen → ∀ ob, (St.slot ⟨s.tmps, s.objs.set d _, s.owns⟩ d).ob = some ob → _)
    rw [slot_set (h.dst_obj hd), if_pos rfl]
    refine ⟨Nat.le_refl _, fun _ ob hob => ?_⟩
    simp only [Option.some.injEq] at hob
    subst hob
    refine ⟨0, E, ⟨w.heap.size, 0, none⟩, n.toNat, ⟨rfl, rfl⟩, rfl, Nat.zero_le _, Nat.le_refl _, by simp, by simp, by simp only [maxLen]; omega, fun _ => ?_⟩
    rw [upd_same]
    simp
  · cases hk

/- copy -/
theorem firstCells_str (l : List UInt8) (size n : Nat) : (Builtin.firstCells size n (.string ⟨l.toArray⟩)).run P w = .ok ((l.take n).map byteV).toArray w := by
  simp only [Builtin.firstCells, Sem.run_pure, bytes_extract]
  congr 1
  simp [List.drop_zero]
  rfl

theorem copyK_does (hP : EnvOk P G) (h : Rel c gh s a w) {t t' rt : TypeId} {T S : Ty} {x y : Operand} {f : Eff} (ht : G.tyOf t = some T) (ht' : G.tyOf t' = some S)
    (hk : copyK s T S x y some = some f) : Does P c s a w (Builtin.copy_ #[t, t'] rt #[a.eval x, a.eval y]) f := by
  unfold copyK at hk
  split at hk
  · rename_i p lo hi hp
    have hv := h.ope x
    rw [hp] at hv
    split at hk
    · rename_i E e' hel
      obtain ⟨hb, hk1⟩ := cond_some hk
      have := (Ty.beq_eq _ _ hb).symm
      subst this
      clear hk
      obtain ⟨⟨bs, ro⟩, hsrc, hk2⟩ := bind_some hk1
      clear hk1
      obtain ⟨av, hav, hk4⟩ := bind_some hk2
      clear hk2
      obtain ⟨z, hz, hk5⟩ := bind_some hk4
      clear hk4
      simp only [Option.some.injEq] at hk5
      obtain ⟨_, hpos, e, h1, hE⟩ := hP.ty _ _ ht
      -- the place
      unfold St.getPt at hav
      obtain ⟨ob, hob, rfl⟩ := Option.map_eq_some_iff.1 hav
      unfold St.setPt at hz
      rw [hob] at hz
      simp only [Option.map_some, Option.some.injEq] at hz
      obtain ⟨hgen, hob⟩ := obAt_some hob
      obtain ⟨off, e2, ad, cap, k1, k2, k3, k4, k5, k6, k7, k8⟩ := hv.2 hgen ob hob
      rw [hel] at k2
      simp only [Option.some.injEq] at k2
      subst k2
      obtain ⟨cs0, ⟨tid, g1⟩, g2, g3, g4⟩ := h.objs p.id ob hob
      have hcl := Rep.len _ _ _ g3
      -- the source
      have src : ∃ news len, (Builtin.lenOf (a.eval y)).run P w = .ok len w ∧ len = bs.length ∧ bs.length ≤ maxLen ∧ Rep gh.S (.arr bs.length E) news (.agg bs) ∧
          (Builtin.firstCells E.size (min bs.length (hi - lo)) (a.eval y)).run P w = .ok (news.take (min bs.length (hi - lo) * E.size)).toArray w := by
        unfold copySrc at hsrc
        split at hsrc
        · obtain ⟨hE8, hsrc⟩ := cond_some hsrc
          have hE8 := Ty.beq_eq _ _ hE8
          subst hE8
          obtain ⟨u, hu, hs⟩ := Option.map_eq_some_iff.1 hsrc
          simp only [Prod.mk.injEq] at hs
          obtain ⟨rfl, rfl⟩ := hs
          obtain ⟨l, hy, rfl, hl⟩ := (h.opv hu).str
          refine ⟨l.map byteV, l.length, by rw [hy]; simp [Builtin.lenOf, ByteArray.size], by simp [ofBytes, AV.toStr], by simpa [ofBytes, AV.toStr] using hl, ?_, ?_⟩
          · have := elems_rep (S := gh.S) (t := .blob l.length) rfl (cs := l.map byteV) (x := .blob l) ⟨l, rfl, rfl, rfl⟩
            simpa [elemsOf, Ty.count, AV.toBlob, AV.toStr, ofBytes] using this
          · rw [hy, firstCells_str]
            simp [Ty.size, ofBytes, AV.toStr]
        · obtain ⟨hF, hsrc2⟩ := cond_some hsrc
          have hF := (Ty.beq_eq _ _ hF).symm
          subst hF
          obtain ⟨ao, cap', news, hy, hml, hnr, hnews, hnil⟩ := h.src hsrc2
          refine ⟨news, bs.length, by rw [hy]; simp [Builtin.lenOf], rfl, hml, hnr, ?_⟩
          rw [hy]
          cases ao with
          | none =>
            obtain ⟨rfl, rfl⟩ := hnil rfl
            simp [Builtin.firstCells]
          | some q =>
            have hnl := (arr_len hnr).2
            have hmin : min bs.length (hi - lo) * E.size ≤ news.length := by
              rw [hnl]; exact Nat.mul_le_mul_right _ (Nat.min_le_left _ _)
            refine run_firstCells_some (P := P) w E.size _ q bs.length cap' _ (by simp; omega) (fun j u hj => ?_)
            rw [List.getElem?_take] at hj
            split at hj
            · exact hnews q rfl j u hj
            · cases hj
        · cases hsrc
      obtain ⟨news, len, s1, rfl, s2, s3, s4⟩ := src
      have hnl := (arr_len s3).2
      have hone := Rep.one _ _ _ s3
      generalize hm : min bs.length (hi - lo) = m at *
      have hmb : m ≤ bs.length ∧ m ≤ hi - lo := by omega
      have hmE : m * E.size ≤ bs.length * E.size := Nat.mul_le_mul_right _ hmb.1
      have hle := PathOk.le _ _ _ _ k1
      have hpt : p.t.size = p.t.count * E.size := by
        cases hpt : p.t <;> simp [hpt, Ty.elem] at hel <;> simp [Ty.size, Ty.count, ← hel]
      have hfit : (lo + m) * E.size ≤ p.t.count * E.size := Nat.mul_le_mul_right _ (by omega)
      rw [Nat.add_mul] at hfit
      -- the store
      have hstore : (storeCells ad (news.take (m * E.size))).run P w = .ok () (w.setRow (gh.m p.id) (cs0.take (off + lo * E.size) ++ news.take (m * E.size) ++ cs0.drop (off + lo * E.size + m * E.size)).toArray) := by
        by_cases hm0 : m = 0
        · subst hm0
          simp only [Nat.zero_mul, List.take_zero, List.append_nil, Nat.add_zero, List.take_append_drop]
          rw [setRow_self w _ _ _ _ g1]
          rfl
        · rw [k8 (by omega)]
          have := run_storeCells_at P (gh.m p.id) (off + lo * E.size) tid (news.take (m * E.size)) 0 cs0.toArray w g1 (by simp; omega) (fun u hu => list_one hone u (List.mem_of_mem_take hu))
          simp only [Nat.add_zero] at this
          rw [this]
          simp [hnl, Nat.min_eq_left hmE]
      -- the value
      have r1 := getP_rep p.path ob.t p.t off cs0 ob.x k1 g3
      have r2 := elems_rep hel r1.1
      have htake : Rep gh.S (.arr m E) (news.take (m * E.size)) (.agg (bs.take m)) := by
        have := arr_sub (lo := 0) (hi := m) s3 (Nat.zero_le _) hmb.1
        simpa using this
      have hspl : Rep gh.S (.arr p.t.count E) (((cs0.drop off).take p.t.size).take (lo * E.size) ++ news.take (m * E.size) ++ ((cs0.drop off).take p.t.size).drop (lo * E.size + m * E.size)) (.agg (splice (elemsOf p.t (getP ob.t ob.x p.path)) lo (bs.take m))) := by
        obtain ⟨en, ec⟩ := arr_len r2
        have a1 := arr_sub (lo := 0) (hi := lo) r2 (Nat.zero_le _) (by omega)
        have a3 := arr_sub (lo := lo + m) (hi := p.t.count) r2 (by omega) (Nat.le_refl _)
        simp only [Nat.sub_zero, Nat.zero_mul, List.drop_zero] at a1
        have a4 := arr_append (arr_append a1 htake) a3
        have hcnt : lo + m + (p.t.count - (lo + m)) = p.t.count := by omega
        rw [hcnt] at a4
        have e1 : List.take ((p.t.count - (lo + m)) * E.size) (List.drop ((lo + m) * E.size) ((cs0.drop off).take p.t.size)) = ((cs0.drop off).take p.t.size).drop (lo * E.size + m * E.size) := by
          rw [← Nat.add_mul, List.take_of_length_le]
          rw [List.length_drop, ec, ← Nat.sub_mul]
          exact Nat.le_refl _
        have e2 : List.drop (lo + m) (List.take p.t.count (elemsOf p.t (getP ob.t ob.x p.path))) = (elemsOf p.t (getP ob.t ob.x p.path)).drop (lo + (bs.take m).length) := by
          rw [List.take_of_length_le (by omega)]
          simp [Nat.min_eq_left hmb.1]
        rw [e1, e2] at a4
        simpa [splice, List.append_assoc] using a4
      have r3 := elems_back hel hspl
      have r4 := setP_rep p.path ob.t p.t off cs0 _ ob.x _ k1 g3 r3
      have hcells : cs0.take off ++ (((cs0.drop off).take p.t.size).take (lo * E.size) ++ news.take (m * E.size) ++ ((cs0.drop off).take p.t.size).drop (lo * E.size + m * E.size)) ++ cs0.drop (off + p.t.size) =
          cs0.take (off + lo * E.size) ++ news.take (m * E.size) ++ cs0.drop (off + lo * E.size + m * E.size) := by
        have hl : (news.take (m * E.size)).length = m * E.size := by rw [List.length_take, hnl]; exact Nat.min_eq_left hmE
        have := splice_two cs0 (news.take (m * E.size)) off (lo * E.size) p.t.size (by omega)
        rw [hl] at this
        exact this
      rw [hcells] at r4
      have hturn := h.turn p.id (by
        rcases Nat.lt_or_ge p.id s.objs.length with hh | hh
        · exact hh
        · simp [St.slot, List.getD, List.getElem?_eq_none hh] at hob) ob hob (setRow_turned w _ _) _ ⟨tid, setRow_heap w _ _ _ _ _ g1⟩ _ r4
      have htk : bs.take (hi - lo) = bs.take m := by
        rcases Nat.le_total bs.length (hi - lo) with hh | hh
        · rw [List.take_of_length_le hh, List.take_of_length_le (by omega)]
        · rw [show m = hi - lo by omega]
      subst hk5
      subst hz
      refine ⟨gh, .int .i64 (m : Int), w.setRow (gh.m p.id) (cs0.take (off + lo * E.size) ++ news.take (m * E.size) ++ cs0.drop (off + lo * E.size + m * E.size)).toArray, ?_, ?_, ?_⟩
      · rw [k5]
        have hmin : Nat.min bs.length (hi - lo) = m := hm
        have hsE : (sizeOf e).run P w = .ok E.size w := hE.size
        simp [Builtin.copy_, run_underlying h1, s1, hsE, hmin, s4, hstore, goInt]
      · have hmid : s.mid ⟨.val (.int .i64) none (.int (m : Int)), [(p.id, ⟨p.gen, some ⟨ob.t, setP ob.t ob.x p.path (ofElems p.t (splice (elemsOf p.t (getP ob.t ob.x p.path)) lo (bs.take (hi - lo))))⟩⟩)], [], p.id :: ro, []⟩ =
            ⟨s.tmps, s.objs.set p.id ⟨(s.slot p.id).gen, some ⟨ob.t, setP ob.t ob.x p.path (ofElems p.t (splice (elemsOf p.t (getP ob.t ob.x p.path)) lo (bs.take m)))⟩⟩, s.owns⟩ := by
          rw [← hgen, htk]; rfl
        rw [hmid]
        exact hturn
      · refine .plain (.int_mk ?_)
        simp only [maxLen] at s2
        simp only [Lit.wf, IntKind.min, IntKind.max, IntKind.signed, IntKind.bits, Bool.and_eq_true, decide_eq_true_eq, if_true]
        omega
    · cases hk
  · cases hk

end Go.Proofs.Ytcpdiahbdmcdcaa.Ev
