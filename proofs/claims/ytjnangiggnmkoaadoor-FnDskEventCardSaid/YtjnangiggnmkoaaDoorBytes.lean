/- A slice of bytes that came in, as the draws read it. -/
import Derived.Test.YtjnangiggnmkoaaDoorDraw
import Derived.Test.YtjnangiggnmkoaaDoorLaid
import Derived.ChangeOld
import Derived.SizedLaws
import Derived.ProofKit
namespace Go.Proofs.YtjnangiggnmkoaaDoor
open Go.ChangeShapes Go.WideShapes Go.ChangeAt Go.RowKit
set_option linter.unusedVariables false
set_option maxRecDepth 100000
theorem laidOut : laidOutB Tryd.prog = true := by kernel_rfl
theorem bytes_of {H : Type} {enc : TypeId × Value → H} {W : World} {base : Nat} {a : Option Addr} {n c : Nat} {d : DataW H} {p : List MemPlace} {held : Bool}
    (h : ∃ fuel, DataW.trod enc Tryd.prog W base (fun _ => true) held fuel 28 (Value.slice a n c).cells.toList = some (d, p)) : ∃ bs, Bytes W a n c bs := by
  obtain ⟨fuel, hf⟩ := h
  rcases open_ints Tryd.underlying28 Tryd.underlying5 (by kernel_rfl) hf with ⟨hcs, _⟩ | ⟨x, l, cc, zs, hcs, _, hl, hm, hz, _, hcell, hwz⟩
  · simp [Value.cells] at hcs
    obtain ⟨rfl, rfl, rfl⟩ := hcs
    exact ⟨[], rfl, Nat.le_refl _, Nat.zero_le _, fun hne => absurd rfl hne, fun b hb => by cases hb⟩
  · simp [Value.cells] at hcs
    obtain ⟨rfl, rfl, rfl⟩ := hcs
    have hzl : zs.length = c := by simpa using hz
    have hw : ∀ z ∈ zs, 0 ≤ z ∧ z ≤ 255 := fun z hzm => by
      have h1 := hwz z hzm
      have e1 : IntKind.u8.min = 0 := rfl
      have e2 : IntKind.u8.max = 255 := rfl
      simp [Lit.wf, e1, e2] at h1
      omega
    refine ⟨(zs.take n).map Int.toNat, by rw [List.length_map, List.length_take]; omega, hl, hm, fun _ => ⟨_, rfl, fun i b hi => ?_⟩, fun b hb => ?_⟩
    · rw [List.getElem?_map, List.getElem?_take] at hi
      split at hi
      · have hi2 : i < zs.length := by omega
        rw [List.getElem?_eq_getElem hi2] at hi
        have hb : (zs[i]).toNat = b := by simpa using hi
        have h1 := hcell i hi2
        have hg : zs.getD i 0 = zs[i] := by rw [List.getD_eq_getElem?_getD, List.getElem?_eq_getElem hi2]; rfl
        rw [hg] at h1
        have h2 := hw _ (List.getElem_mem hi2)
        rw [h1, ← hb]
        congr 2
        omega
      · cases hi
    · obtain ⟨z, hz1, rfl⟩ := List.mem_map.1 hb
      have := hw z (List.mem_of_mem_take hz1)
      omega
end Go.Proofs.YtjnangiggnmkoaaDoor
