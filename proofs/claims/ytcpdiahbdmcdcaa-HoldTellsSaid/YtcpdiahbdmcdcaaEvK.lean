/- The operations that tell a value and turn no memory: moves, parts, slices, loads, lengths, conversions, structs built. -/
import Derived.Test.YtcpdiahbdmcdcaaEvJ
namespace Go.Proofs.Ytcpdiahbdmcdcaa.Ev
open Go Go.RowKit

variable {c : Ctx} {gh : Ghost} {s : St} {a : Act} {w : World} {P : Program} {G : Env}

theorem obAt_some {p : Pt} {ob : Ob} (h : s.obAt p = some ob) : p.gen = (s.slot p.id).gen ∧ (s.slot p.id).ob = some ob := by
  unfold St.obAt at h
  obtain ⟨hg, ho⟩ := cond_some h
  exact ⟨(Nat.eq_of_beq_eq_true hg).symm, ho⟩

theorem liveK_some {p : Pt} {e : Ent} {f : Eff} (h : liveK s p e some = some f) : ∃ ob, p.gen = (s.slot p.id).gen ∧ (s.slot p.id).ob = some ob ∧ f = ⟨e, [], [], [p.id], []⟩ := by
  unfold liveK at h
  obtain ⟨ob, ho, h⟩ := bind_some h
  obtain ⟨h1, h2⟩ := obAt_some ho
  exact ⟨ob, h1, h2, by simpa [tellR, eq_comm] using h⟩

/- conversions -/
theorem convK_tells (hP : EnvOk P G) (h : Rel c gh s a w) {src dst : TypeId} {A B : Ty} {x : Operand} {f : Eff} (hs : G.tyOf src = some A) (hd : G.tyOf dst = some B)
    (hk : convK s A B x some = some f) : Tells P gh s w (convert src dst (a.eval x)) f := by
  have hA := hP.ty _ _ hs
  have hB := hP.ty _ _ hd
  unfold convK at hk
  split at hk
  · rename_i k0 kd
    obtain ⟨u, hu, hk⟩ := bind_some hk
    obtain ⟨n, hx, rfl, _⟩ := (h.opv hu).int
    rw [tell_some hk]
    refine .mk (v := .int kd (kd.wrap n)) ?_ (.plain (.int_mk (wrap_wf _ _)))
    rw [hx]
    simp [convert, run_underlying hA.2, run_underlying hB.2, Conv.intToInt]
  · obtain ⟨u, hu, hk⟩ := bind_some hk
    obtain ⟨n, hx, rfl, hl⟩ := (h.opv hu).str
    rw [tell_some hk]
    refine .mk (v := .string ⟨n.toArray⟩) ?_ (.plain (.str_mk hl))
    rw [hx]
    simp [convert, run_underlying hA.2, run_underlying hB.2]
  · obtain ⟨hbase, _, e, h1, hE⟩ := hA
    have conv : ∀ (ao : Option Addr) (cap : Nat) (ns : List Int), a.eval x = .slice ao ns.length cap → (∀ p, ao = some p → ∀ j u, (ns.map (Value.int .u8))[j]? = some u → w.cell? (p.add j) = some u) → (ao = none → ns = []) →
        (convert src dst (a.eval x)).run P w = .ok (.string ⟨(bytesOf (ns.map AV.int)).toArray⟩) w := by
      intro ao cap ns hx hc hn
      rw [hx, run_convert_bytes_string w src dst e _ _ _ h1 hE.2 hB.2]
      cases ao with
      | none =>
        have := hn rfl
        subst this
        simp [Conv.bytesToString, bytesOf]
        rfl
      | some p =>
        have hl := run_loadCells_list (P := P) w p (ns.map (Value.int .u8)) (hc p rfl)
        rw [List.length_map] at hl
        rw [run_bytesToString w p _ _ ns hl, foldl_push_bytes]
        simp [bytesOf, ByteArray.empty, ByteArray.emptyWithCapacity, Function.comp_def, AV.toInt]
        rfl
    obtain ⟨⟨b, ro⟩, hb, hk⟩ := bind_some hk
    obtain ⟨ao, cap, cs, hx, hl, g5, g6, g7⟩ := h.src hb
    obtain ⟨ns, rfl, rfl, hn⟩ := arr_bytes g5
    have hf : f = ⟨.val .str none (.str (bytesOf (ns.map AV.int))), [], [], ro, []⟩ := by simpa [tellR, eq_comm] using hk
    subst hf
    refine .mk (conv ao cap ns (by rw [hx]; simp) g6 (fun e => by have := (g7 e).1; simpa using this)) (.plain (.str_mk ?_))
    simp [bytesOf] at hl ⊢
    omega
  · cases hk

/- lengths, the greatest and the least -/
theorem lenK_tells (hP : EnvOk P G) (h : Rel c gh s a w) {t rt : TypeId} {T : Ty} {x : Operand} {f : Eff} (ht : G.tyOf t = some T)
    (hk : lenK s T x some = some f) : Tells P gh s w (Builtin.len_ #[t] rt #[a.eval x]) f := by
  have hT := hP.ty _ _ ht
  have wf : ∀ n : Nat, n ≤ maxLen → (Lit.int .i64 (n : Int)).wf = true := fun n hn => by
    simp only [maxLen] at hn
    simp only [Lit.wf, IntKind.min, IntKind.max, IntKind.signed, IntKind.bits, Bool.and_eq_true, decide_eq_true_eq, if_true]
    omega
  unfold lenK at hk
  split at hk
  · obtain ⟨_, _, e, h1, _⟩ := hT
    split at hk
    · rename_i p lo hi hr
      have hr := refOf_some hr
      have hv := h.ope x
      rw [hr] at hv
      obtain ⟨ob, hg, ho, rfl⟩ := liveK_some hk
      obtain ⟨off, e', ad, cap, k1, k2, k3, k4, k5, k6, k7, _⟩ := hv.2 hg ob ho
      refine .mk (v := .int .i64 ((hi - lo : Nat) : Int)) ?_ (.plain (.int_mk (wf _ (by omega))))
      rw [k5]
      simp [Builtin.len_, run_underlying h1, goInt]
    · obtain ⟨u, hu, hk⟩ := bind_some hk
      obtain ⟨ao, len, cap, es, hx, rfl, g1, g2, g3, _⟩ := (h.opv hu).slice
      rw [tell_some hk]
      refine .mk (v := .int .i64 (es.length : Int)) ?_ (.plain (.int_mk (wf _ (by omega))))
      rw [hx, g1]
      simp [Builtin.len_, run_underlying h1, goInt]
  · obtain ⟨u, hu, hk⟩ := bind_some hk
    obtain ⟨n, hx, rfl, hl⟩ := (h.opv hu).str
    rw [tell_some hk]
    refine .mk (v := .int .i64 (n.length : Int)) ?_ (.plain (.int_mk (wf _ hl)))
    rw [hx]
    have hz : (ByteArray.mk n.toArray).size = n.length := by simp [ByteArray.size]
    simp [Builtin.len_, run_underlying hT.2, goInt]
    rw [hz]
  · obtain ⟨_, e, h1, _⟩ := hT
    obtain ⟨hb, hk⟩ := cond_some hk
    rw [tell_some hk]
    refine .mk (v := .int .i64 _) ?_ (.plain (.int_mk (wf _ (Nat.le_of_ble_eq_true hb))))
    simp [Builtin.len_, run_underlying h1, goInt]
  · obtain ⟨_, e, h1, _⟩ := hT
    obtain ⟨hb, hk⟩ := cond_some hk
    rw [tell_some hk]
    refine .mk (v := .int .i64 _) ?_ (.plain (.int_mk (wf _ (Nat.le_of_ble_eq_true hb))))
    simp [Builtin.len_, run_underlying h1, goInt]
  · cases hk

theorem opvs_ints (h : Rel c gh s a w) {k : IntKind} : ∀ (xs : List Operand) (l : List AV), s.opvs (xs.map fun _ => .int k) xs = some l →
    ∃ ns : List Int, l = ns.map AV.int ∧ xs.map a.eval = ns.map (Value.int k) ∧ ∀ n ∈ ns, (Lit.int k n).wf = true
  | [], l, e => by
    simp [St.opvs] at e
    subst e
    exact ⟨[], rfl, rfl, by simp⟩
  | x :: xs, l, e => by
    simp only [List.map_cons, St.opvs] at e
    obtain ⟨u, hu, e⟩ := bind_some e
    obtain ⟨l', hl, rfl⟩ := Option.map_eq_some_iff.1 e
    obtain ⟨n, hx, rfl, wf⟩ := (h.opv hu).int
    obtain ⟨ns, rfl, h2, h3⟩ := opvs_ints h xs l' hl
    exact ⟨n :: ns, rfl, by simp [hx, h2], by simpa using ⟨wf, h3⟩⟩

theorem fold_max {k : IntKind} : ∀ (ns : List Int) (m : Int), (Lit.int k m).wf = true → (∀ n ∈ ns, (Lit.int k n).wf = true) →
    (List.foldlM Builtin.max2 (Value.int k m) (ns.map (Value.int k))).run P w = .ok (.int k ((ns.map AV.int).foldl (fun m b => bif true then mx2 m b.toInt else mn2 m b.toInt) m)) w ∧
      (Lit.int k ((ns.map AV.int).foldl (fun m b => bif true then mx2 m b.toInt else mn2 m b.toInt) m)).wf = true
  | [], m, h, _ => by simp [h]
  | n :: ns, m, h, hn => by
    have ih := fold_max ns (mx2 m n) (by unfold mx2; split; exact hn n (by simp); exact h) (fun q hq => hn q (by simp [hq]))
    simp only [List.map_cons, List.foldlM_cons, List.foldl_cons, cond_true, AV.toInt] at ih ⊢
    refine ⟨?_, ih.2⟩
    rw [Sem.run_bind]
    simp only [Builtin.max2, Sem.run_pure, Result.andThen_ok]
    exact ih.1

theorem fold_min {k : IntKind} : ∀ (ns : List Int) (m : Int), (Lit.int k m).wf = true → (∀ n ∈ ns, (Lit.int k n).wf = true) →
    (List.foldlM Builtin.min2 (Value.int k m) (ns.map (Value.int k))).run P w = .ok (.int k ((ns.map AV.int).foldl (fun m b => bif false then mx2 m b.toInt else mn2 m b.toInt) m)) w ∧
      (Lit.int k ((ns.map AV.int).foldl (fun m b => bif false then mx2 m b.toInt else mn2 m b.toInt) m)).wf = true
  | [], m, h, _ => by simp [h]
  | n :: ns, m, h, hn => by
    have ih := fold_min ns (mn2 m n) (by unfold mn2; split; exact hn n (by simp); exact h) (fun q hq => hn q (by simp [hq]))
    simp only [List.map_cons, List.foldlM_cons, List.foldl_cons, cond_false, AV.toInt] at ih ⊢
    refine ⟨?_, ih.2⟩
    rw [Sem.run_bind]
    simp only [Builtin.min2, Sem.run_pure, Result.andThen_ok]
    exact ih.1

theorem maxK_tells (h : Rel c gh s a w) {ts : Array TypeId} {rt : TypeId} {k : IntKind} {xs : Array Operand} {l : List AV} {r : Int} (hl : s.opvs (xs.toList.map fun _ => .int k) xs.toList = some l) (hr : minMax true l = some r) :
    Tells P gh s w (Builtin.max_ ts rt (xs.map a.eval)) ⟨.val (.int k) none (.int r), [], [], [], []⟩ := by
  obtain ⟨ns, rfl, h2, h3⟩ := opvs_ints h _ _ hl
  cases ns with
  | nil => simp [minMax] at hr
  | cons n ns =>
    simp only [List.map_cons, minMax, Option.some.injEq] at hr
    have := fold_max (P := P) (w := w) ns n (h3 n (by simp)) (fun q hq => h3 q (by simp [hq]))
    have hr' : (ns.map AV.int).foldl (fun m b => bif true then mx2 m b.toInt else mn2 m b.toInt) n = r := hr
    rw [hr'] at this
    refine .mk (v := .int k r) ?_ (.plain (.int_mk this.2))
    simp only [Builtin.max_, Array.toList_map, h2, List.map_cons]
    exact this.1

theorem minK_tells (h : Rel c gh s a w) {ts : Array TypeId} {rt : TypeId} {k : IntKind} {xs : Array Operand} {l : List AV} {r : Int} (hl : s.opvs (xs.toList.map fun _ => .int k) xs.toList = some l) (hr : minMax false l = some r) :
    Tells P gh s w (Builtin.min_ ts rt (xs.map a.eval)) ⟨.val (.int k) none (.int r), [], [], [], []⟩ := by
  obtain ⟨ns, rfl, h2, h3⟩ := opvs_ints h _ _ hl
  cases ns with
  | nil => simp [minMax] at hr
  | cons n ns =>
    simp only [List.map_cons, minMax, Option.some.injEq] at hr
    have := fold_min (P := P) (w := w) ns n (h3 n (by simp)) (fun q hq => h3 q (by simp [hq]))
    have hr' : (ns.map AV.int).foldl (fun m b => bif false then mx2 m b.toInt else mn2 m b.toInt) n = r := hr
    rw [hr'] at this
    refine .mk (v := .int k r) ?_ (.plain (.int_mk this.2))
    simp only [Builtin.min_, Array.toList_map, h2, List.map_cons]
    exact this.1

/- moves, parts -/
theorem bytes_extract (l : List UInt8) (i j : Nat) : (ByteArray.mk l.toArray).extract i j = ⟨((l.take j).drop i).toArray⟩ := by
  have h : ((ByteArray.mk l.toArray).extract i j).data = ((l.take j).drop i).toArray := by
    rw [ByteArray.data_extract, List.extract_toArray, List.extract_eq_take_drop, List.drop_take]
  cases hb : (ByteArray.mk l.toArray).extract i j
  rw [hb] at h
  simp only at h
  rw [h]

end Go.Proofs.Ytcpdiahbdmcdcaa.Ev
