/- strings.Join and strings.Repeat answer as told: by the shelf's contracts. -/
import Derived.Test.YtogehijjhibdkaaGreatEvExt
import Derived.Test.YtogehijjhibdkaaGreatEvFZ
import Derived.Test.YtogehijjhibdkaaGreatShelf
import Derived.Test.YtogehijjhibdkaaGreatEvSSides
import Derived.Test.YtogehijjhibdkaaGreatEvSPlC
import Derived.Test.YtogehijjhibdkaaGreatEvSBet
namespace Go.Proofs.YtogehijjhibdkaaGreat.Ev
open Go Go.RowKit

/-- A text is handed back, and nothing turns. -/
theorem str_back {S0 : Snap} {w0 w : World} {l : List UInt8} (ha : ∀ p v, S0 p = some v → w0.cell? p = some v) (hb : Below w0.heap.size w0 w) (hl : l.length ≤ maxLen) :
    ∃ S v, (Ending.returned (.string ⟨l.toArray⟩)) = .returned v ∧ S0.le S ∧ (∀ p u, S p = some u → S0 p = some u ∨ w0.heap.size ≤ p.block) ∧ (∀ p u, S p = some u → w.cell? p = some u) ∧
      Keep w0.heap.size [] w0 w ∧ ResRel S w w0.heap.size [.val .str] ⟨[.str l], [], false⟩ v ∧ OutsRel S w [] [] [] := by
  refine ⟨S0, _, rfl, Snap.le_refl _, fun p u h => .inl h, fun p u h => ?_, keep_of_below hb, ⟨.str l, rfl, ⟨[.string ⟨l.toArray⟩], (val_one rfl _).symm, l, rfl, rfl, hl⟩, fun h => by cases h⟩, rfl, rfl⟩
  have h1 := ha p u h
  exact (hb.cell (cell_parts h1).2).trans h1

theorem join_sat {xs : List AV} {r : Res} (h : joinX xs = some r) : Sat Tryz.prog f195_info 195 xs r := by
  intro S0 w0 vs bs ha hargs _
  obtain ⟨v1, vs1, x1, xs1, rfl, rfl, hv1, v2, vs2, x2, xs2, rfl, rfl, hv2, rfl, rfl, rfl⟩ := hargs
  obtain ⟨cs1, rfl, a, len, cap, es, rfl, rfl, hlen, hlc, hcap, hc0, hes⟩ := hv1
  obtain ⟨cs2, rfl, s, rfl, rfl, hs⟩ := hv2
  unfold joinX at h
  simp only [toSlice_s, toStr_s] at h
  cases hb : Nat.ble es.length 1048576 && Nat.ble (Lib.join (es.map AV.toStr) s).length 140737488355328 with
  | false => rw [hb] at h; cases h
  | true =>
  rw [hb, cond_true] at h
  cases h
  simp only [Bool.and_eq_true] at hb
  have hb1 := Nat.le_of_ble_eq_true hb.1
  have hb2 := Nat.le_of_ble_eq_true hb.2
  rw [val_one rfl, val_one rfl]
  have hj : (Lib.join (es.map AV.toStr) s).length ≤ maxLen := by rw [maxLen_eq]; omega
  cases es with
  | nil =>
    obtain rfl : len = 0 := by simpa using hlen.symm
    refine (Tryz.strings_Join_none a cap ⟨s.toArray⟩ w0).mono fun e w' ⟨he, hw⟩ => ?_
    subst he
    subst hw
    have := str_back (l := []) ha (Below.refl _ w') (by simp)
    exact this
  | cons y0 er =>
    have hget : ∀ (i : Nat) y, (y0 :: er)[i]? = some y → ∀ p, a = some p → w0.cell? (p.add i) = some (.string ⟨y.toStr.toArray⟩) := by
      intro i y hi p hp
      obtain ⟨ds, h1, h2, h3⟩ := hes p hp i y hi
      obtain ⟨t, rfl, rfl, _⟩ := h3
      have := h1 0 _ rfl
      rw [show (p.add (i * Ty.size .str)).add 0 = p.add i by simp [Addr.add, Ty.size]] at this
      exact ha _ _ this
    obtain ⟨p, rfl⟩ : ∃ p, a = some p := by
      cases a with
      | some p => exact ⟨p, rfl⟩
      | none =>
        have := hc0 rfl
        simp at hlen
        omega
    have h0 := cell_parts (hget 0 y0 rfl p rfl)
    have hp0 : p.add 0 = p := by simp [Addr.add]
    rw [hp0] at h0
    have hpe : p = ⟨p.block, p.off, none⟩ := by
      cases p
      simp at h0
      simp [h0.1]
    have e1 : ((y0 :: er).map fun y => (⟨y.toStr.toArray⟩ : ByteArray)).map (·.data.toList) = (y0 :: er).map AV.toStr := by
      rw [List.map_map]
      apply List.map_congr_left
      intro y _
      simp
    have e2 : ((⟨s.toArray⟩ : ByteArray).data.toList) = s := by simp
    have hJ := Tryz.strings_Join p.block p.off cap ((y0 :: er).map fun y => (⟨y.toStr.toArray⟩ : ByteArray)) ⟨s.toArray⟩ w0 (by
        intro j x hx
        rw [List.getElem?_map] at hx
        cases hy : (y0 :: er)[j]? with
        | none => rw [hy] at hx; cases hx
        | some y =>
          rw [hy] at hx
          cases hx
          have := hget j y hy p rfl
          rw [← this]
          congr 1
          rw [hpe]
          unfold Addr.add
          split
          · rename_i h; subst h; rfl
          · rfl) h0.2 (by rw [List.length_map]; omega) (by rw [List.length_map]; omega) (by rw [e1, e2]; exact hb2)
    rw [e1, e2, List.length_map, hlen, ← hpe] at hJ
    refine hJ.mono fun e w' ⟨he, hw⟩ => ?_
    subst he
    exact str_back ha hw hj

theorem repeat_sat {xs : List AV} {r : Res} (h : repeatX xs = some r) : Sat Tryz.prog f211_info 211 xs r := by
  intro S0 w0 vs bs ha hargs _
  obtain ⟨v1, vs1, x1, xs1, rfl, rfl, hv1, v2, vs2, x2, xs2, rfl, rfl, hv2, rfl, rfl, rfl⟩ := hargs
  obtain ⟨cs1, rfl, s, rfl, rfl, hs⟩ := hv1
  obtain ⟨cs2, rfl, n, rfl, rfl, _⟩ := hv2
  unfold repeatX at h
  simp only [toInt_i, toStr_s] at h
  cases hb : leI 0 n && ltI n 1048576 && Nat.ble s.length 1048576 with
  | false => rw [hb] at h; cases h
  | true =>
  rw [hb, cond_true] at h
  cases h
  simp only [Bool.and_eq_true] at hb
  have h0 := leI_iff.1 hb.1.1
  have h1 := ltI_iff.1 hb.1.2
  have h2 := Nat.le_of_ble_eq_true hb.2
  rw [val_one rfl, val_one rfl]
  obtain ⟨c, rfl⟩ : ∃ c : Nat, n = c := ⟨n.toNat, by omega⟩
  have hc : c ≤ 1048576 := by omega
  have hm : s.length * c ≤ 1048576 * 1048576 := Nat.mul_le_mul h2 hc
  have hR := Tryz.strings_Repeat ⟨s.toArray⟩ c w0 (by omega) (by show s.toArray.size * c ≤ _; rw [List.size_toArray]; omega)
  refine hR.mono fun e w' ⟨he, hw⟩ => ?_
  subst he
  have e2 : ((⟨s.toArray⟩ : ByteArray).data.toList) = s := by simp
  rw [e2, Int.toNat_natCast]
  exact str_back ha hw (by rw [Lib.repeatL_length, Nat.mul_comm, maxLen_eq]; omega)

/-- Each entry of the list answers as told. -/
inductive AllSat : List (FuncId × (List AV → Option Res)) → Prop
  | nil : AllSat []
  | cons {f : FuncId} {g : List AV → Option Res} {l : List (FuncId × (List AV → Option Res))} {i : FnInfo} (hi : assoc G.fns f = some i) (h : ∀ xs r, g xs = some r → Sat Tryz.prog i f xs r) (hl : AllSat l) : AllSat ((f, g) :: l)

theorem AllSat.at {l : List (FuncId × (List AV → Option Res))} (h : AllSat l) : ∀ f g i xs r, assoc G.fns f = some i → assoc l f = some g → g xs = some r → Sat Tryz.prog i f xs r := by
  induction h with
  | nil => intro f g i xs r _ e; cases e
  | @cons f0 g0 l i0 hi0 h0 _ ih =>
    intro f g i xs r hi e hr
    simp only [assoc] at e
    cases hb : Nat.beq f0 f with
    | false => rw [hb, cond_false] at e; exact ih f g i xs r hi e hr
    | true =>
      have : f0 = f := Nat.eq_of_beq_eq_true hb
      subst this
      rw [hb, cond_true] at e
      cases e
      rw [hi0] at hi
      cases hi
      exact h0 xs r hr

theorem ext_all : AllSat extL :=
  .cons f211_at (fun _ _ h => repeat_sat h) <|
  .cons f190_at (fun _ _ h => sides_sat h) <|
  .cons f46_at (fun _ _ h => places_sat h) <|
  .cons f27_at (fun _ _ h => between_sat h) <|
  .cons f195_at (fun _ _ h => join_sat h) <|
  .nil

theorem ext_sat : ∀ f i xs r, assoc G.fns f = some i → ext f xs = some r → Sat Tryz.prog i f xs r := by
  intro f i xs r hi h
  unfold ext at h
  cases hg : assoc extL f with
  | none => rw [hg] at h; cases h
  | some g => rw [hg] at h; exact ext_all.at f g i xs r hi hg h

/-- A law's row, from what the evaluator tells. -/
theorem sat_of_runsX {f : FuncId} {i : FnInfo} {xs : List AV} {r : Res} (hi : assoc G.fns f = some i) (h : RunsX f xs r) : Sat Tryz.prog i f xs r := by
  obtain ⟨n, h⟩ := h.ex
  exact (runE_sound types_ok fns_ok ext_sat n).sat f i xs r hi h

end Go.Proofs.YtogehijjhibdkaaGreat.Ev
