/- A slice of cells that came in, as the law reads it. -/
import Derived.Test.YtjnangiggnmkoaaGreatDoorLawOutE
import Derived.Deep.Slices
import Derived.Deep.Strs
import Derived.ProofKit
namespace Go.Proofs.YtjnangiggnmkoaaGreatDoor
open Go.ChangeShapes Go.WideShapes Go.ChangeAt Go.RowKit Go.Deep
set_option linter.unusedVariables false
set_option maxRecDepth 100000
theorem cells3 : Tryz.prog.cellsOf 45 = 3 := by kernel_rfl
theorem cellsI : Tryz.prog.cellsOf 3 = 1 := by kernel_rfl
theorem cellsS : Tryz.prog.cellsOf 9 = 1 := by kernel_rfl
instance : Inhabited Cell := ⟨⟨0, 0, ⟨#[]⟩⟩⟩
theorem cells_of {H : Type} {enc : TypeId × Value → H} {W : World} {base : Nat} {v : Value} {y : DataW H × List MemPlace} {held : Bool}
    (h : ∃ fuel, DataW.trod enc Tryz.prog W base (fun _ => true) held fuel 22 [v] = some y) : ∃ q D, Kd.cell.S q W v D ∧ sized D := by
  obtain ⟨fuel, hf⟩ := h
  rcases open_slice Tryz.underlying22 hf with ⟨hcs, _⟩ | ⟨x, len, cap, m, k, Dd, Pl, hcs, hb, hl, hm, hmm, _, hx⟩
  · injection hcs with hcs _
    subst hcs
    exact ⟨0, [], Kd.S_nil _ _ _, fun c hc => by cases hc⟩
  · injection hcs with hcs _
    subst hcs
    have hlm : len ≤ m := by rw [hmm]; split <;> omega
    have each : ∀ i, i < len → ∃ cc : Cell, W.cell? (x.add (i * 3)) = some (.int .i64 cc.k) ∧ W.cell? (x.add (i * 3 + 1)) = some (.int .i64 cc.n) ∧ W.cell? (x.add (i * 3 + 2)) = some (.string cc.s) ∧ cc.s.size ≤ maxLen := by
      intro i hi
      obtain ⟨cs', h1, h2⟩ := hx i (by omega)
      rw [cells3] at h1
      obtain ⟨_, hlen, hcell⟩ := World.cells?_some h1
      obtain ⟨y0, y1, y2, n', _, _, g0, g1, g2⟩ := trod_struct3 Tryz.underlying45 h2
      match cs', hlen with
      | [v0, v1, v2], _ =>
        simp only [cellsI, cellsS, List.drop_zero, List.drop_succ_cons, List.take_succ_cons, List.take_zero] at g0 g1 g2
        obtain ⟨z0, e0, -, -⟩ := DataW.trod_int Tryz.underlying3 g0
        obtain ⟨z1, e1, -, -⟩ := DataW.trod_int Tryz.underlying3 g1
        obtain ⟨s2, e2, -, hs⟩ := DataW.trod_string Tryz.underlying9 g2
        have k0 := hcell 0 (by omega)
        have k1 := hcell 1 (by omega)
        have k2 := hcell 2 (by omega)
        rw [Go.Proofs.YtjnangiggnmkoaaGreatDoor.add_add'] at k0 k1 k2
        injection e0 with e0 _
        injection e1 with e1 _
        injection e2 with e2 _
        subst e0
        subst e1
        subst e2
        exact ⟨⟨z0, z1, s2⟩, k0, k1, k2, hs⟩
    obtain ⟨f, hq⟩ := choose_lt each
    refine ⟨(match W.heap[x.block]? with | some (.cells _ t _) => t | _ => 0), (List.range len).map f, ⟨some x, cap, by rw [List.length_map, List.length_range], by rw [List.length_map, List.length_range]; exact hl, hm, fun i cc hi => ?_⟩, fun cc hc => ?_⟩
    · rw [List.getElem?_map] at hi
      obtain ⟨j, hj, rfl⟩ := Option.map_eq_some_iff.1 hi
      obtain ⟨hji, e⟩ := List.getElem?_eq_some_iff.1 hj
      rw [List.getElem_range] at e
      subst e
      rw [List.length_range] at hji
      obtain ⟨k0, k1, k2, -⟩ := hq i hji
      have hh : ∃ cs t fz, W.heap[x.block]? = some (.cells cs t fz) := by
        have := k0
        unfold World.cell? at this
        rw [Go.Proofs.YtjnangiggnmkoaaGreatDoor.add_block] at this
        split at this
        · exact ⟨_, _, _, by assumption⟩
        · cases this
      obtain ⟨cs, t, fz, hh⟩ := hh
      refine ⟨x, _, cs, fz, rfl, by rw [hh], rfl, fun j u hu => ?_⟩
      match j, hu with
      | 0, hu => obtain rfl := Option.some.inj hu; exact k0
      | 1, hu => obtain rfl := Option.some.inj hu; exact k1
      | 2, hu => obtain rfl := Option.some.inj hu; exact k2
    · obtain ⟨j, hj, rfl⟩ := List.mem_map.1 hc
      exact (hq j (List.mem_range.1 hj)).2.2.2
end Go.Proofs.YtjnangiggnmkoaaGreatDoor
