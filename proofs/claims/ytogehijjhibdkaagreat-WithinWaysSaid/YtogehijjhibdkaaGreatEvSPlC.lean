/- up.Places answers as told. -/
import Derived.Test.YtogehijjhibdkaaGreatEvExt
import Derived.Test.YtogehijjhibdkaaGreatEvFZ
import Derived.Test.YtogehijjhibdkaaGreatEvT3
import Derived.Test.YtogehijjhibdkaaGreatEvSPlB
import Derived.Test.YtogehijjhibdkaaGreatEvSSides
namespace Go.Proofs.YtogehijjhibdkaaGreat.Ev
open Go Go.RowKit Go.Shelf

theorem hits_v (zs : List Int) (s : Nat) (level : Int) : Tryz.hits zs s level zs.length = (hitsV zs s level).map fun (j : Nat) => (j : Int) := rfl

theorem places_sat {xs : List AV} {r : Res} (h : placesX xs = some r) : Sat Tryz.prog f46_info 46 xs r := by
  intro S0 w0 vs bs ha hargs _
  obtain ⟨v1, vs1, x1, xs1, rfl, rfl, hv1, v2, vs2, x2, xs2, rfl, rfl, hv2, v3, vs3, x3, xs3, rfl, rfl, hv3, rfl, rfl, rfl⟩ := hargs
  obtain ⟨cs1, rfl, a, len, cap, es, rfl, rfl, hlen, hlc, hcap, hc0, hes⟩ := hv1
  obtain ⟨cs2, rfl, n, rfl, rfl, hwf⟩ := hv2
  obtain ⟨cs3, rfl, i, rfl, rfl, _⟩ := hv3
  unfold placesX at h
  simp only [toInt_i, toSlice_s] at h
  cases hb : Nat.ble es.length 1000000 with
  | false => rw [hb] at h; cases h
  | true =>
  rw [hb, cond_true] at h
  cases h
  have h3 := Nat.le_of_ble_eq_true hb
  rw [val_one rfl, val_one rfl, val_one rfl]
  have hn := wf64 hwf
  have hlen2 : (es.map AV.toInt).length = len := by rw [List.length_map]; exact hlen
  have hcell : ∀ p, a = some p → ∀ j, j < len → w0.cell? (p.add j) = some (.int .i64 ((es.map AV.toInt)[j]?.getD 0)) := by
    intro p hp j hj
    have hj2 : j < es.length := by omega
    obtain ⟨ds, h1, h2, h4⟩ := hes p hp j es[j] (by rw [List.getElem?_eq_getElem hj2])
    obtain ⟨z, rfl, hz, _⟩ := h4
    have h5 := h1 0 _ rfl
    rw [show (p.add (j * Ty.size (.int .i64))).add 0 = p.add j by simp [Addr.add, Ty.size]] at h5
    rw [ha _ _ h5, List.getElem?_map, List.getElem?_eq_getElem hj2, hz]
    rfl
  have key : ∃ b off, (a = some ⟨b, off, none⟩ ∨ len = 0) ∧ (0 < len → b < w0.heap.size) ∧ ∀ j, j < len → w0.cell? ⟨b, off + j, none⟩ = some (.int .i64 ((es.map AV.toInt)[j]?.getD 0)) := by
    by_cases h0 : len = 0
    · exact ⟨0, 0, .inr h0, fun h => by omega, fun j hj => by omega⟩
    · cases a with
      | none => have := hc0 rfl; omega
      | some p =>
        have c0 := hcell p rfl 0 (by omega)
        rw [show p.add 0 = p by simp [Addr.add]] at c0
        have c1 := cell_parts c0
        refine ⟨p.block, p.off, .inl ?_, fun _ => c1.2, fun j hj => ?_⟩
        · cases p; simp at c1; simp [c1.1]
        · rw [← hcell p rfl j hj]
          congr 1
          cases p
          simp at c1
          simp [Addr.add, c1.1]
  obtain ⟨b, off, had, hbl, hc⟩ := key
  have hP := Tryz.places_in 3 (by omega) a b off len cap n.toNat had n i (es.map AV.toInt) (by omega) (by omega) (by omega) w0 hbl hc
  refine (callsIn_wide.1 hP).mono fun e w' he => ?_
  obtain ⟨v, rfl, hrow, hbel⟩ := he
  rw [← hlen2, hits_v] at hrow
  rw [List.length_map] at hrow
  refine row_back (T := .int .i64) rfl ha hbel (by rw [List.length_map]; exact hrow) ?_
  intro j y hy
  rw [List.getElem?_map] at hy
  rw [List.getElem?_map, List.getElem?_map]
  cases hj : (hitsV (es.map AV.toInt) n.toNat i)[j]? with
  | none => rw [hj] at hy; cases hy
  | some q =>
    rw [hj] at hy; cases hy
    refine ⟨_, rfl, fun S => ⟨_, rfl, rfl, ?_⟩⟩
    have hq : q ∈ hitsV (es.map AV.toInt) n.toNat i := List.mem_of_getElem? hj
    have : q < es.length := by
      unfold hitsV at hq
      have := (List.mem_filter.1 hq).1
      rw [List.mem_range, List.length_map] at this
      exact this
    have hw := wrap_wf .i64 (q : Int)
    rwa [w64 (by omega) (by omega)] at hw

end Go.Proofs.YtogehijjhibdkaaGreat.Ev
