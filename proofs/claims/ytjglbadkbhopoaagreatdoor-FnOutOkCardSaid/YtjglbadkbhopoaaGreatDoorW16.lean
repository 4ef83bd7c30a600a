/- Lemmas and contracts for FnOutOk, part 16. -/
import Derived.Test.YtjglbadkbhopoaaGreatDoorW15
import Derived.Test.YtjglbadkbhopoaaGreatDoorW09
import Derived.Test.YtjglbadkbhopoaaGreatDoorW07
import Derived.Test.YtjglbadkbhopoaaGreatDoorW08
namespace Go.Proofs.YtjglbadkbhopoaaGreatDoor
open Go.RowKit
set_option maxRecDepth 100000
set_option maxHeartbeats 8000000
set_option linter.unusedVariables false
structure BlkD (W : World) (lo ob : Nat) (L : List (Nat × List Value)) : Prop where
  out : Bx W ob 41 (L.map (fun p => Value.slice (some ⟨p.1, 0, none⟩) p.2.length p.2.length)).toArray
  lo' : lo ≤ ob
  ins : ∀ p ∈ L, Bx W p.1 9 p.2.toArray ∧ lo ≤ p.1 ∧ p.2.all (isS 300) = true ∧ 1 ≤ p.2.length ∧ p.2.length ≤ 10
theorem BlkD.but {W W' : World} {lo ob e : Nat} {L : List (Nat × List Value)} (h : BlkD W lo ob L) (hk : KeepBut e W W') (h1 : 41 ≠ e) (h2 : 9 ≠ e) : BlkD W' lo ob L :=
  ⟨h.out.but hk h1, h.lo', fun p hp => ⟨(h.ins p hp).1.but hk h2, (h.ins p hp).2⟩⟩
theorem BlkD.below {W W' : World} {lo ob : Nat} {L : List (Nat × List Value)} (h : BlkD W lo ob L) (hb : Below W.heap.size W W') : BlkD W' lo ob L :=
  ⟨h.out.below hb, h.lo', fun p hp => ⟨(h.ins p hp).1.below hb, (h.ins p hp).2⟩⟩
theorem BlkD.grown {W W' : World} {lo ob : Nat} {L : List (Nat × List Value)} (h : BlkD W lo ob L) {own : Option Nat} (hg : W.grownBy W' own) (hne : ∀ k, own = some k → k ≠ ob ∧ ∀ p ∈ L, k ≠ p.1) : BlkD W' lo ob L := by
  have hlt : ∀ {g t : Nat} {cs : Array Value}, Bx W g t cs → g < W.heap.size := fun h => (Array.getElem?_eq_some_iff.1 h).1
  exact ⟨(hg.block ob (hlt h.out) (fun e => (hne ob e.symm).1 rfl)).trans h.out, h.lo', fun p hp => ⟨(hg.block p.1 (hlt (h.ins p hp).1) (fun e => (hne p.1 e.symm).2 p hp rfl)).trans (h.ins p hp).1, (h.ins p hp).2⟩⟩
theorem blocks2_fin {w : World} {c1 c2 c3 c4 c5 c6 c7 c8 c9 c10 c11 c12 c13 : List Value} (h1 : okL c1 = true) (h2 : okL c2 = true) (h3 : okL c3 = true) (h4 : okL c4 = true) (h5 : okL c5 = true) (h6 : okL c6 = true) (h7 : okL c7 = true) (h8 : okL c8 = true) (h9 : okL c9 = true) (h10 : okL c10 = true) (h11 : okL c11 = true) (h12 : okL c12 = true) (h13 : okL c13 = true) : ∃ (ob : Nat) (L : List (Nat × List Value)), Ending.returned (.slice (some ⟨w.heap.size + 1 + 1 + 1 + 1 + 1 + 1 + 1 + 1 + 1 + 1 + 1 + 1 + 1, 0, none⟩) 13 13) = .returned (.slice (some ⟨ob, 0, none⟩) 13 13) ∧ L.length = 13 ∧ BlkD ((((((((((((((w.alloc (.cells c1.toArray 9)).alloc (.cells c2.toArray 9)).alloc (.cells c3.toArray 9)).alloc (.cells c4.toArray 9)).alloc (.cells c5.toArray 9)).alloc (.cells c6.toArray 9)).alloc (.cells c7.toArray 9)).alloc (.cells c8.toArray 9)).alloc (.cells c9.toArray 9)).alloc (.cells c10.toArray 9)).alloc (.cells c11.toArray 9)).alloc (.cells c12.toArray 9)).alloc (.cells c13.toArray 9)).alloc (.cells #[.slice (some ⟨w.heap.size, 0, none⟩) c1.length c1.length, .slice (some ⟨w.heap.size + 1, 0, none⟩) c2.length c2.length, .slice (some ⟨w.heap.size + 1 + 1, 0, none⟩) c3.length c3.length, .slice (some ⟨w.heap.size + 1 + 1 + 1, 0, none⟩) c4.length c4.length, .slice (some ⟨w.heap.size + 1 + 1 + 1 + 1, 0, none⟩) c5.length c5.length, .slice (some ⟨w.heap.size + 1 + 1 + 1 + 1 + 1, 0, none⟩) c6.length c6.length, .slice (some ⟨w.heap.size + 1 + 1 + 1 + 1 + 1 + 1, 0, none⟩) c7.length c7.length, .slice (some ⟨w.heap.size + 1 + 1 + 1 + 1 + 1 + 1 + 1, 0, none⟩) c8.length c8.length, .slice (some ⟨w.heap.size + 1 + 1 + 1 + 1 + 1 + 1 + 1 + 1, 0, none⟩) c9.length c9.length, .slice (some ⟨w.heap.size + 1 + 1 + 1 + 1 + 1 + 1 + 1 + 1 + 1, 0, none⟩) c10.length c10.length, .slice (some ⟨w.heap.size + 1 + 1 + 1 + 1 + 1 + 1 + 1 + 1 + 1 + 1, 0, none⟩) c11.length c11.length, .slice (some ⟨w.heap.size + 1 + 1 + 1 + 1 + 1 + 1 + 1 + 1 + 1 + 1 + 1, 0, none⟩) c12.length c12.length, .slice (some ⟨w.heap.size + 1 + 1 + 1 + 1 + 1 + 1 + 1 + 1 + 1 + 1 + 1 + 1, 0, none⟩) c13.length c13.length] 41)) w.heap.size ob L ∧ Below w.heap.size w ((((((((((((((w.alloc (.cells c1.toArray 9)).alloc (.cells c2.toArray 9)).alloc (.cells c3.toArray 9)).alloc (.cells c4.toArray 9)).alloc (.cells c5.toArray 9)).alloc (.cells c6.toArray 9)).alloc (.cells c7.toArray 9)).alloc (.cells c8.toArray 9)).alloc (.cells c9.toArray 9)).alloc (.cells c10.toArray 9)).alloc (.cells c11.toArray 9)).alloc (.cells c12.toArray 9)).alloc (.cells c13.toArray 9)).alloc (.cells #[.slice (some ⟨w.heap.size, 0, none⟩) c1.length c1.length, .slice (some ⟨w.heap.size + 1, 0, none⟩) c2.length c2.length, .slice (some ⟨w.heap.size + 1 + 1, 0, none⟩) c3.length c3.length, .slice (some ⟨w.heap.size + 1 + 1 + 1, 0, none⟩) c4.length c4.length, .slice (some ⟨w.heap.size + 1 + 1 + 1 + 1, 0, none⟩) c5.length c5.length, .slice (some ⟨w.heap.size + 1 + 1 + 1 + 1 + 1, 0, none⟩) c6.length c6.length, .slice (some ⟨w.heap.size + 1 + 1 + 1 + 1 + 1 + 1, 0, none⟩) c7.length c7.length, .slice (some ⟨w.heap.size + 1 + 1 + 1 + 1 + 1 + 1 + 1, 0, none⟩) c8.length c8.length, .slice (some ⟨w.heap.size + 1 + 1 + 1 + 1 + 1 + 1 + 1 + 1, 0, none⟩) c9.length c9.length, .slice (some ⟨w.heap.size + 1 + 1 + 1 + 1 + 1 + 1 + 1 + 1 + 1, 0, none⟩) c10.length c10.length, .slice (some ⟨w.heap.size + 1 + 1 + 1 + 1 + 1 + 1 + 1 + 1 + 1 + 1, 0, none⟩) c11.length c11.length, .slice (some ⟨w.heap.size + 1 + 1 + 1 + 1 + 1 + 1 + 1 + 1 + 1 + 1 + 1, 0, none⟩) c12.length c12.length, .slice (some ⟨w.heap.size + 1 + 1 + 1 + 1 + 1 + 1 + 1 + 1 + 1 + 1 + 1 + 1, 0, none⟩) c13.length c13.length] 41)) := by
  refine ⟨w.heap.size + 1 + 1 + 1 + 1 + 1 + 1 + 1 + 1 + 1 + 1 + 1 + 1 + 1, [(w.heap.size, c1), (w.heap.size + 1, c2), (w.heap.size + 1 + 1, c3), (w.heap.size + 1 + 1 + 1, c4), (w.heap.size + 1 + 1 + 1 + 1, c5), (w.heap.size + 1 + 1 + 1 + 1 + 1, c6), (w.heap.size + 1 + 1 + 1 + 1 + 1 + 1, c7), (w.heap.size + 1 + 1 + 1 + 1 + 1 + 1 + 1, c8), (w.heap.size + 1 + 1 + 1 + 1 + 1 + 1 + 1 + 1, c9), (w.heap.size + 1 + 1 + 1 + 1 + 1 + 1 + 1 + 1 + 1, c10), (w.heap.size + 1 + 1 + 1 + 1 + 1 + 1 + 1 + 1 + 1 + 1, c11), (w.heap.size + 1 + 1 + 1 + 1 + 1 + 1 + 1 + 1 + 1 + 1 + 1, c12), (w.heap.size + 1 + 1 + 1 + 1 + 1 + 1 + 1 + 1 + 1 + 1 + 1 + 1, c13)], rfl, rfl, ⟨?_, by omega, fun p hp => ?_⟩, bel_alloc (bel_alloc (bel_alloc (bel_alloc (bel_alloc (bel_alloc (bel_alloc (bel_alloc (bel_alloc (bel_alloc (bel_alloc (bel_alloc (bel_alloc (bel_alloc (Below.refl _ _) _) _) _) _) _) _) _) _) _) _) _) _) _) _⟩
  · have h := Bx.new (((((((((((((w.alloc (.cells c1.toArray 9)).alloc (.cells c2.toArray 9)).alloc (.cells c3.toArray 9)).alloc (.cells c4.toArray 9)).alloc (.cells c5.toArray 9)).alloc (.cells c6.toArray 9)).alloc (.cells c7.toArray 9)).alloc (.cells c8.toArray 9)).alloc (.cells c9.toArray 9)).alloc (.cells c10.toArray 9)).alloc (.cells c11.toArray 9)).alloc (.cells c12.toArray 9)).alloc (.cells c13.toArray 9)) 41 #[.slice (some ⟨w.heap.size, 0, none⟩) c1.length c1.length, .slice (some ⟨w.heap.size + 1, 0, none⟩) c2.length c2.length, .slice (some ⟨w.heap.size + 1 + 1, 0, none⟩) c3.length c3.length, .slice (some ⟨w.heap.size + 1 + 1 + 1, 0, none⟩) c4.length c4.length, .slice (some ⟨w.heap.size + 1 + 1 + 1 + 1, 0, none⟩) c5.length c5.length, .slice (some ⟨w.heap.size + 1 + 1 + 1 + 1 + 1, 0, none⟩) c6.length c6.length, .slice (some ⟨w.heap.size + 1 + 1 + 1 + 1 + 1 + 1, 0, none⟩) c7.length c7.length, .slice (some ⟨w.heap.size + 1 + 1 + 1 + 1 + 1 + 1 + 1, 0, none⟩) c8.length c8.length, .slice (some ⟨w.heap.size + 1 + 1 + 1 + 1 + 1 + 1 + 1 + 1, 0, none⟩) c9.length c9.length, .slice (some ⟨w.heap.size + 1 + 1 + 1 + 1 + 1 + 1 + 1 + 1 + 1, 0, none⟩) c10.length c10.length, .slice (some ⟨w.heap.size + 1 + 1 + 1 + 1 + 1 + 1 + 1 + 1 + 1 + 1, 0, none⟩) c11.length c11.length, .slice (some ⟨w.heap.size + 1 + 1 + 1 + 1 + 1 + 1 + 1 + 1 + 1 + 1 + 1, 0, none⟩) c12.length c12.length, .slice (some ⟨w.heap.size + 1 + 1 + 1 + 1 + 1 + 1 + 1 + 1 + 1 + 1 + 1 + 1, 0, none⟩) c13.length c13.length]
    simp only [size_alloc] at h
    exact h
  · simp only [List.mem_cons, List.mem_nil_iff, or_false] at hp
    rcases hp with rfl | rfl | rfl | rfl | rfl | rfl | rfl | rfl | rfl | rfl | rfl | rfl | rfl
    · have h := Bx.new w 9 c1.toArray
      try simp only [size_alloc] at h
      exact ⟨Bx.alloc (Bx.alloc (Bx.alloc (Bx.alloc (Bx.alloc (Bx.alloc (Bx.alloc (Bx.alloc (Bx.alloc (Bx.alloc (Bx.alloc (Bx.alloc (Bx.alloc (h) _) _) _) _) _) _) _) _) _) _) _) _) _, by show w.heap.size ≤ w.heap.size; omega, okL_iff h1⟩
    · have h := Bx.new (w.alloc (.cells c1.toArray 9)) 9 c2.toArray
      try simp only [size_alloc] at h
      exact ⟨Bx.alloc (Bx.alloc (Bx.alloc (Bx.alloc (Bx.alloc (Bx.alloc (Bx.alloc (Bx.alloc (Bx.alloc (Bx.alloc (Bx.alloc (Bx.alloc (h) _) _) _) _) _) _) _) _) _) _) _) _, by show w.heap.size ≤ w.heap.size + 1; omega, okL_iff h2⟩
    · have h := Bx.new ((w.alloc (.cells c1.toArray 9)).alloc (.cells c2.toArray 9)) 9 c3.toArray
      try simp only [size_alloc] at h
      exact ⟨Bx.alloc (Bx.alloc (Bx.alloc (Bx.alloc (Bx.alloc (Bx.alloc (Bx.alloc (Bx.alloc (Bx.alloc (Bx.alloc (Bx.alloc (h) _) _) _) _) _) _) _) _) _) _) _, by show w.heap.size ≤ w.heap.size + 1 + 1; omega, okL_iff h3⟩
    · have h := Bx.new (((w.alloc (.cells c1.toArray 9)).alloc (.cells c2.toArray 9)).alloc (.cells c3.toArray 9)) 9 c4.toArray
      try simp only [size_alloc] at h
      exact ⟨Bx.alloc (Bx.alloc (Bx.alloc (Bx.alloc (Bx.alloc (Bx.alloc (Bx.alloc (Bx.alloc (Bx.alloc (Bx.alloc (h) _) _) _) _) _) _) _) _) _) _, by show w.heap.size ≤ w.heap.size + 1 + 1 + 1; omega, okL_iff h4⟩
    · have h := Bx.new ((((w.alloc (.cells c1.toArray 9)).alloc (.cells c2.toArray 9)).alloc (.cells c3.toArray 9)).alloc (.cells c4.toArray 9)) 9 c5.toArray
      try simp only [size_alloc] at h
      exact ⟨Bx.alloc (Bx.alloc (Bx.alloc (Bx.alloc (Bx.alloc (Bx.alloc (Bx.alloc (Bx.alloc (Bx.alloc (h) _) _) _) _) _) _) _) _) _, by show w.heap.size ≤ w.heap.size + 1 + 1 + 1 + 1; omega, okL_iff h5⟩
    · have h := Bx.new (((((w.alloc (.cells c1.toArray 9)).alloc (.cells c2.toArray 9)).alloc (.cells c3.toArray 9)).alloc (.cells c4.toArray 9)).alloc (.cells c5.toArray 9)) 9 c6.toArray
      try simp only [size_alloc] at h
      exact ⟨Bx.alloc (Bx.alloc (Bx.alloc (Bx.alloc (Bx.alloc (Bx.alloc (Bx.alloc (Bx.alloc (h) _) _) _) _) _) _) _) _, by show w.heap.size ≤ w.heap.size + 1 + 1 + 1 + 1 + 1; omega, okL_iff h6⟩
    · have h := Bx.new ((((((w.alloc (.cells c1.toArray 9)).alloc (.cells c2.toArray 9)).alloc (.cells c3.toArray 9)).alloc (.cells c4.toArray 9)).alloc (.cells c5.toArray 9)).alloc (.cells c6.toArray 9)) 9 c7.toArray
      try simp only [size_alloc] at h
      exact ⟨Bx.alloc (Bx.alloc (Bx.alloc (Bx.alloc (Bx.alloc (Bx.alloc (Bx.alloc (h) _) _) _) _) _) _) _, by show w.heap.size ≤ w.heap.size + 1 + 1 + 1 + 1 + 1 + 1; omega, okL_iff h7⟩
    · have h := Bx.new (((((((w.alloc (.cells c1.toArray 9)).alloc (.cells c2.toArray 9)).alloc (.cells c3.toArray 9)).alloc (.cells c4.toArray 9)).alloc (.cells c5.toArray 9)).alloc (.cells c6.toArray 9)).alloc (.cells c7.toArray 9)) 9 c8.toArray
      try simp only [size_alloc] at h
      exact ⟨Bx.alloc (Bx.alloc (Bx.alloc (Bx.alloc (Bx.alloc (Bx.alloc (h) _) _) _) _) _) _, by show w.heap.size ≤ w.heap.size + 1 + 1 + 1 + 1 + 1 + 1 + 1; omega, okL_iff h8⟩
    · have h := Bx.new ((((((((w.alloc (.cells c1.toArray 9)).alloc (.cells c2.toArray 9)).alloc (.cells c3.toArray 9)).alloc (.cells c4.toArray 9)).alloc (.cells c5.toArray 9)).alloc (.cells c6.toArray 9)).alloc (.cells c7.toArray 9)).alloc (.cells c8.toArray 9)) 9 c9.toArray
      try simp only [size_alloc] at h
      exact ⟨Bx.alloc (Bx.alloc (Bx.alloc (Bx.alloc (Bx.alloc (h) _) _) _) _) _, by show w.heap.size ≤ w.heap.size + 1 + 1 + 1 + 1 + 1 + 1 + 1 + 1; omega, okL_iff h9⟩
    · have h := Bx.new (((((((((w.alloc (.cells c1.toArray 9)).alloc (.cells c2.toArray 9)).alloc (.cells c3.toArray 9)).alloc (.cells c4.toArray 9)).alloc (.cells c5.toArray 9)).alloc (.cells c6.toArray 9)).alloc (.cells c7.toArray 9)).alloc (.cells c8.toArray 9)).alloc (.cells c9.toArray 9)) 9 c10.toArray
      try simp only [size_alloc] at h
      exact ⟨Bx.alloc (Bx.alloc (Bx.alloc (Bx.alloc (h) _) _) _) _, by show w.heap.size ≤ w.heap.size + 1 + 1 + 1 + 1 + 1 + 1 + 1 + 1 + 1; omega, okL_iff h10⟩
    · have h := Bx.new ((((((((((w.alloc (.cells c1.toArray 9)).alloc (.cells c2.toArray 9)).alloc (.cells c3.toArray 9)).alloc (.cells c4.toArray 9)).alloc (.cells c5.toArray 9)).alloc (.cells c6.toArray 9)).alloc (.cells c7.toArray 9)).alloc (.cells c8.toArray 9)).alloc (.cells c9.toArray 9)).alloc (.cells c10.toArray 9)) 9 c11.toArray
      try simp only [size_alloc] at h
      exact ⟨Bx.alloc (Bx.alloc (Bx.alloc (h) _) _) _, by show w.heap.size ≤ w.heap.size + 1 + 1 + 1 + 1 + 1 + 1 + 1 + 1 + 1 + 1; omega, okL_iff h11⟩
    · have h := Bx.new (((((((((((w.alloc (.cells c1.toArray 9)).alloc (.cells c2.toArray 9)).alloc (.cells c3.toArray 9)).alloc (.cells c4.toArray 9)).alloc (.cells c5.toArray 9)).alloc (.cells c6.toArray 9)).alloc (.cells c7.toArray 9)).alloc (.cells c8.toArray 9)).alloc (.cells c9.toArray 9)).alloc (.cells c10.toArray 9)).alloc (.cells c11.toArray 9)) 9 c12.toArray
      try simp only [size_alloc] at h
      exact ⟨Bx.alloc (Bx.alloc (h) _) _, by show w.heap.size ≤ w.heap.size + 1 + 1 + 1 + 1 + 1 + 1 + 1 + 1 + 1 + 1 + 1; omega, okL_iff h12⟩
    · have h := Bx.new ((((((((((((w.alloc (.cells c1.toArray 9)).alloc (.cells c2.toArray 9)).alloc (.cells c3.toArray 9)).alloc (.cells c4.toArray 9)).alloc (.cells c5.toArray 9)).alloc (.cells c6.toArray 9)).alloc (.cells c7.toArray 9)).alloc (.cells c8.toArray 9)).alloc (.cells c9.toArray 9)).alloc (.cells c10.toArray 9)).alloc (.cells c11.toArray 9)).alloc (.cells c12.toArray 9)) 9 c13.toArray
      try simp only [size_alloc] at h
      exact ⟨Bx.alloc (h) _, by show w.heap.size ≤ w.heap.size + 1 + 1 + 1 + 1 + 1 + 1 + 1 + 1 + 1 + 1 + 1 + 1; omega, okL_iff h13⟩
theorem blocks2_c (w : World) : Calls Tryz.prog 95 #[] w fun e w' => ∃ (ob : Nat) (L : List (Nat × List Value)), e = .returned (.slice (some ⟨ob, 0, none⟩) 13 13) ∧ L.length = 13 ∧ BlkD w' w.heap.size ob L ∧ Below w.heap.size w w' := by
  go_enter Tryz.func95, Tryz.ntmps95
  go_wp2
  go_ret
  exact blocks2_fin (c1 := [_, _]) (c2 := [_, _]) (c3 := [_, _]) (c4 := [_, _, _]) (c5 := [_, _]) (c6 := [_, _]) (c7 := [_, _]) (c8 := [_]) (c9 := [_]) (c10 := [_]) (c11 := [_, _]) (c12 := [_, _, _]) (c13 := [_]) (by rfl) (by rfl) (by rfl) (by rfl) (by rfl) (by rfl) (by rfl) (by rfl) (by rfl) (by rfl) (by rfl) (by rfl) (by rfl)
theorem addr0 (g i : Nat) : (⟨g, 0, none⟩ : Addr).add i = ⟨g, i, none⟩ := by unfold Addr.add; split <;> simp_all
theorem box_str {W : World} {g : Nat} {cs : List Value} (h : Bx W g 9 cs.toArray) (hs : cs.all (isS 300) = true) (hl : cs.length ≤ 10) : Kd.str.S 9 W (.slice (some ⟨g, 0, none⟩) cs.length cs.length) (cs.map strOf) ∧ ∀ x ∈ cs.map strOf, x.size ≤ 300 := by
  refine ⟨⟨_, cs.length, by rw [List.length_map], by rw [List.length_map]; exact Nat.le_refl _, Nat.le_trans hl (by unfold maxLen; decide), fun i x hx => ?_⟩, fun x hx => ?_⟩
  · rw [List.getElem?_map] at hx
    cases hc : cs[i]? with
    | none => rw [hc] at hx; cases hx
    | some v =>
      rw [hc] at hx
      have hx : some (strOf v) = some x := hx
      have hv := (isS_eq (List.all_eq_true.1 hs v (List.mem_of_getElem? hc))).1
      obtain rfl := Option.some.inj hx
      refine ⟨⟨g, 0, none⟩, [.string (strOf v)], cs.toArray, (0, 0), rfl, h, rfl, fun j u hu => ?_⟩
      cases j with
      | succ j => simp at hu
      | zero =>
        have ha : (⟨g, 0, none⟩ : Addr).add (i * Kd.str.sz + 0) = ⟨g, i, none⟩ := (congrArg (⟨g, 0, none⟩ : Addr).add (show i * 1 + 0 = i by omega)).trans (addr0 g i)
        rw [ha]
        have hu : some (Value.string (strOf v)) = some u := hu
        refine (Bx.cell h i).trans ?_
        rw [← hu, ← hv]
        simpa using hc
  · obtain ⟨v, hv, rfl⟩ := List.mem_map.1 hx
    exact (isS_eq (List.all_eq_true.1 hs v hv)).2
end Go.Proofs.YtjglbadkbhopoaaGreatDoor
namespace Go.Proofs.YtjglbadkbhopoaaGreatDoor
open Go.RowKit
set_option maxRecDepth 100000
set_option maxHeartbeats 8000000
set_option linter.unusedVariables false
theorem dec_len1 {a : Nat} (h : a ≤ 9) : (B (Lib.decDigits a)).size ≤ 1 := by
  have h1 : a = 0 ∨ a = 1 ∨ a = 2 ∨ a = 3 ∨ a = 4 ∨ a = 5 ∨ a = 6 ∨ a = 7 ∨ a = 8 ∨ a = 9 := by omega
  rcases h1 with rfl | rfl | rfl | rfl | rfl | rfl | rfl | rfl | rfl | rfl <;> decide +kernel
theorem bx_grew {α : Type} {d : Kd α} {W W' : World} {nb t e base : Nat} {cs : Array Value} {v v' : Value} {xs : List α} (hB : Bx W nb t cs) (hg : Grew d e base v xs W v' W') (hne : ∀ k, v.ownBlock = some k → k ≠ nb) : Bx W' nb t cs ∧ ∀ k, v'.ownBlock = some k → k ≠ nb := by
  have hlt : nb < W.heap.size := (Array.getElem?_eq_some_iff.1 hB).1
  refine ⟨(hg.grown.block nb hlt (fun e => hne nb e.symm rfl)).trans hB, fun k hk => ?_⟩
  rcases hg.at' with h | h
  · exact hne k (h ▸ hk)
  · rw [h] at hk
    have := Option.some.inj hk
    omega
theorem blk_grew {α : Type} {d : Kd α} {W W' : World} {lo ob e base : Nat} {L : List (Nat × List Value)} {v v' : Value} {xs : List α} (hB : BlkD W lo ob L) (hg : Grew d e base v xs W v' W') (hne : ∀ k, v.ownBlock = some k → k ≠ ob ∧ ∀ p ∈ L, k ≠ p.1) : BlkD W' lo ob L ∧ ∀ k, v'.ownBlock = some k → k ≠ ob ∧ ∀ p ∈ L, k ≠ p.1 := by
  refine ⟨hB.grown hg.grown hne, fun k hk => ⟨(bx_grew hB.out hg (fun k hk => (hne k hk).1)).2 k hk, fun p hp => (bx_grew (hB.ins p hp).1 hg (fun k hk => (hne k hk).2 p hp)).2 k hk⟩⟩
theorem BlkD.at {W : World} {lo ob j : Nat} {L : List (Nat × List Value)} {p : Nat × List Value} (h : BlkD W lo ob L) (hp : L[j]? = some p) : W.cell? ⟨ob, j, none⟩ = some (.slice (some ⟨p.1, 0, none⟩) p.2.length p.2.length) ∧ Kd.str.S 9 W (.slice (some ⟨p.1, 0, none⟩) p.2.length p.2.length) (p.2.map strOf) ∧ (∀ x ∈ p.2.map strOf, x.size ≤ 20000) ∧ (p.2.map strOf).length = p.2.length ∧ 1 ≤ p.2.length ∧ p.2.length ≤ 10 := by
  obtain ⟨h1, h2, h3, h4, h5⟩ := h.ins p (List.mem_of_getElem? hp)
  obtain ⟨k1, k2⟩ := box_str h1 h3 h5
  refine ⟨(Bx.cell h.out j).trans ?_, k1, fun x hx => Nat.le_trans (k2 x hx) (by decide), List.length_map .., h4, h5⟩
  simp only [List.getElem?_toArray, List.getElem?_map, hp, Option.map_some]
theorem app_ok {xs ys : List ByteArray} {n : Nat} (h1 : ∀ x ∈ xs, x.size ≤ n) (h2 : ∀ x ∈ ys, x.size ≤ n) : ∀ x ∈ xs ++ ys, x.size ≤ n := fun x hx => (List.mem_append.1 hx).elim (h1 x) (h2 x)
theorem own_more {e b n : Nat} {w : World} {v : Value} {D ys : List ByteArray} (h : Kd.str.O e w b v (D ++ ys)) (hD : ∀ x ∈ D, x.size ≤ n) (hys : ∀ x ∈ ys, x.size ≤ n) : ∃ D2, Kd.str.O e w b v D2 ∧ D2.length = D.length + ys.length ∧ ∀ x ∈ D2, x.size ≤ n := ⟨_, h, List.length_append, app_ok hD hys⟩
theorem own_slice {e b : Nat} {w : World} {v : Value} {D : List ByteArray} (h : Kd.str.O e w b v D) : ∃ OB od, v = .slice OB D.length od := by
  obtain ⟨OB, od, rfl, -, -, -⟩ := Kd.O_read h
  exact ⟨_, _, rfl⟩
theorem one_ok {n : Nat} {y : ByteArray} (h : y.size ≤ n) : ∀ x ∈ [y], x.size ≤ n := fun x hx => by
  rw [List.mem_singleton] at hx
  exact hx ▸ h
theorem ints3 {i : Nat} (h : i < 3) : ∃ j : Nat, (#[Value.int .i64 10, .int .i64 7, .int .i64 11] : Array Value)[i]? = some (.int .i64 (j : Int)) ∧ j < 13 := by
  match i, h with
  | 0, _ => exact ⟨10, rfl, by decide⟩
  | 1, _ => exact ⟨7, rfl, by decide⟩
  | 2, _ => exact ⟨11, rfl, by decide⟩
theorem get13 {L : List (Nat × List Value)} (h : L.length = 13) (j : Nat) (hj : j < 13) : ∃ p, L[j]? = some p := ⟨_, List.getElem?_eq_getElem (by omega)⟩
theorem lines_c {w0 W : World} {g M : Nat} (h : RQ w0 g M W) (hM : M ≤ 400000000) :
    Calls Tryz.prog 66 #[.pointer (some ⟨g, 0, none⟩)] W fun e w' => ∃ v ls, e = .returned v ∧ Kd.str.S 9 w' v ls ∧ ls.length ≤ 100 ∧ (∀ x ∈ ls, x.size ≤ 20000) ∧ RQ w0 g (M + 200000) w' ∧ DW w0 W w' := by
  have hsz := h.size
  have HR0 := Lib.hid (h.ext (bel_alloc (bel_alloc (Below.refl _ _) (.cells #[] 9)) (.cells #[.string ⟨#[110, 97, 116, 32, 49]⟩, .string ⟨#[97, 112, 112, 32, 51]⟩, .string ⟨#[109, 101, 109, 32, 50]⟩, .string ⟨#[101, 32, 50]⟩, .string ⟨#[112, 32, 50]⟩, .string ⟨#[108, 101, 110, 32, 50]⟩, .string ⟨#[111, 32, 49]⟩, .string ⟨#[113, 32, 49]⟩, .string ⟨#[114, 32, 49]⟩, .string ⟨#[104, 32, 50]⟩, .string ⟨#[109, 97, 120, 32, 51]⟩] 9)))
  have HD0 := Lib.hid (show DW w0 W ((W.alloc (.cells #[] 9)).alloc (.cells #[.string ⟨#[110, 97, 116, 32, 49]⟩, .string ⟨#[97, 112, 112, 32, 51]⟩, .string ⟨#[109, 101, 109, 32, 50]⟩, .string ⟨#[101, 32, 50]⟩, .string ⟨#[112, 32, 50]⟩, .string ⟨#[108, 101, 110, 32, 50]⟩, .string ⟨#[111, 32, 49]⟩, .string ⟨#[113, 32, 49]⟩, .string ⟨#[114, 32, 49]⟩, .string ⟨#[104, 32, 50]⟩, .string ⟨#[109, 97, 120, 32, 51]⟩] 9)) from Wrote.of_below (e := 92) h.size (bel_alloc (bel_alloc (Below.refl _ _) (.cells #[] 9)) (.cells #[.string ⟨#[110, 97, 116, 32, 49]⟩, .string ⟨#[97, 112, 112, 32, 51]⟩, .string ⟨#[109, 101, 109, 32, 50]⟩, .string ⟨#[101, 32, 50]⟩, .string ⟨#[112, 32, 50]⟩, .string ⟨#[108, 101, 110, 32, 50]⟩, .string ⟨#[111, 32, 49]⟩, .string ⟨#[113, 32, 49]⟩, .string ⟨#[114, 32, 49]⟩, .string ⟨#[104, 32, 50]⟩, .string ⟨#[109, 97, 120, 32, 51]⟩] 9)))
  have HO0 := Lib.hid (Kd.O_alloc (.cells #[.string ⟨#[110, 97, 116, 32, 49]⟩, .string ⟨#[97, 112, 112, 32, 51]⟩, .string ⟨#[109, 101, 109, 32, 50]⟩, .string ⟨#[101, 32, 50]⟩, .string ⟨#[112, 32, 50]⟩, .string ⟨#[108, 101, 110, 32, 50]⟩, .string ⟨#[111, 32, 49]⟩, .string ⟨#[113, 32, 49]⟩, .string ⟨#[114, 32, 49]⟩, .string ⟨#[104, 32, 50]⟩, .string ⟨#[109, 97, 120, 32, 51]⟩] 9) (Kd.O_empty Kd.str 9 W (Nat.le_refl _)))
  have HB0 := Lib.hid (Bx.new (W.alloc (.cells #[] 9)) 9 #[.string ⟨#[110, 97, 116, 32, 49]⟩, .string ⟨#[97, 112, 112, 32, 51]⟩, .string ⟨#[109, 101, 109, 32, 50]⟩, .string ⟨#[101, 32, 50]⟩, .string ⟨#[112, 32, 50]⟩, .string ⟨#[108, 101, 110, 32, 50]⟩, .string ⟨#[111, 32, 49]⟩, .string ⟨#[113, 32, 49]⟩, .string ⟨#[114, 32, 49]⟩, .string ⟨#[104, 32, 50]⟩, .string ⟨#[109, 97, 120, 32, 51]⟩])
  rw [show (W.alloc (.cells #[] 9)).heap.size = W.heap.size + 1 by simp only [size_alloc]] at HB0
  have HCl := Lib.hid (fun (M' : Nat) (W' : World) (h : RQ w0 g M' W') (hM : M' ≤ 500000000) => clause_c h hM)
  clear h
  go_enter Tryz.func66, Tryz.ntmps66
  go_upto_region 5 with (first | (go_at_call_of 34 (Value.int .i64 11); refine (rq_pick HR0.out (by omega) _ (by omega) (by omega)).mono ?_; rintro e wp1 ⟨v, rfl, hv, hR, hw⟩; obtain ⟨hv0, hv1, -⟩ := hv; have hv2 := hv1 (by omega); obtain ⟨a, rfl⟩ : ∃ i : Nat, v = i := ⟨v.toNat, by omega⟩; have ha : a < 11 := (by omega); have HR1 := Lib.hid hR; have HW1 := Lib.hid hw; have HO1 := Lib.hid (hw.O HO0.out (by decide)); have HB1 := Lib.hid (Bx.but HB0.out hw.but (by decide)); have HD1 := Lib.hid (HD0.out.trans hw); clear hv0 hv1 hv2 hR hw) | (go_at_call_of 34 (Value.int .i64 6); refine (rq_pick HR1.out (by omega) _ (by omega) (by omega)).mono ?_; rintro e wp2 ⟨v, rfl, hv, hR, hw⟩; obtain ⟨hv0, hv1, -⟩ := hv; have hv2 := hv1 (by omega); obtain ⟨k, rfl⟩ : ∃ i : Nat, v = i := ⟨v.toNat, by omega⟩; have hk : k < 6 := (by omega); have HR2 := Lib.hid hR; have HW2 := Lib.hid hw; have HO2 := Lib.hid (hw.O HO1.out (by decide)); have HB2 := Lib.hid (Bx.but HB1.out hw.but (by decide)); have HD2 := Lib.hid (HD1.out.trans hw); clear hv0 hv1 hv2 hR hw) | fail)
  clear HR0 HD0 HO0 HB0 HR1 HD1 HO1 HB1 HW1 HW2
  have hk5 : k ≤ 5 := by omega
  clear hk
  go_loopw [3, 6] (fun v3 v6 wr => ∃ (D : List ByteArray) (k : Nat) (OA : Option Addr) (oc : Nat), v3 = .slice OA D.length oc ∧ v6 = .int .i64 (k : Int) ∧ k + D.length ≤ 5 ∧ Hid (Kd.str.O 9 wr W.heap.size (.slice OA D.length oc) D) ∧ Hid (∀ x ∈ D, x.size ≤ 20000) ∧ Hid (Bx wr (W.heap.size + 1) 9 #[.string ⟨#[110, 97, 116, 32, 49]⟩, .string ⟨#[97, 112, 112, 32, 51]⟩, .string ⟨#[109, 101, 109, 32, 50]⟩, .string ⟨#[101, 32, 50]⟩, .string ⟨#[112, 32, 50]⟩, .string ⟨#[108, 101, 110, 32, 50]⟩, .string ⟨#[111, 32, 49]⟩, .string ⟨#[113, 32, 49]⟩, .string ⟨#[114, 32, 49]⟩, .string ⟨#[104, 32, 50]⟩, .string ⟨#[109, 97, 120, 32, 51]⟩]) ∧ Hid (∀ k, (Value.slice OA D.length oc).ownBlock = some k → k ≠ W.heap.size + 1) ∧ Hid (RQ w0 g (M + 2 + D.length) wr) ∧ Hid (DW w0 W wr)) (fun _ v6 _ => (intOf v6).toNat)
  case atStart => exact ⟨[], k, _, _, rfl, rfl, by simp only [List.length_nil]; omega, HO2, Lib.hid (fun x hx => by cases hx), HB2, Lib.hid (fun k hk => by have := Option.some.inj (show some W.heap.size = some k from hk); omega), Lib.hid (HR2.out.mono (by simp only [List.length_nil]; omega)), HD2⟩
  case round =>
    clear HO2 HB2 HR2 HD2 hk5
    obtain ⟨D, k, OA, oc, rfl, rfl, hkD, HOr, HSr, HBr, HNr, HRr, HDr⟩ := hrel
    have hDb : D.length ≤ 5 := by omega
    by_cases hk0 : k = 0
    · have f0 : decide ((0 : Int) < (k : Int)) = false := decide_eq_false (by omega)
      have fn : ¬ 0 < k := by omega
      clear hk0
      go_upto_region 11 with (first | (go_at_call 95; (with_reducible refine (blocks2_c _).mono ?_); rintro e wb ⟨ob, L, rfl, hL, hB, hb'⟩; have HL := Lib.hid hL; have HK4 := Lib.hid hB; have HO4 := Lib.hid (Kd.O_ext hb' HOr.out); have HP4 := Lib.hid (show ∀ k, (Value.slice OA D.length oc).ownBlock = some k → k ≠ ob ∧ ∀ p ∈ L, k ≠ p.1 from fun k hk => (by have h1 := (Kd.O_lt HOr.out k hk).2; have h2 := hB.lo'; exact ⟨by omega, fun p hp => by have h3 := (hB.ins p hp).2.1; omega⟩)); have HR4 := Lib.hid (HRr.out.ext hb'); have HD4 := Lib.hid (DW.ext HDr.out hb' hsz); clear hL hB hb') | (go_at_call_of 34 (Value.int .i64 4); refine (rq_pick HR4.out (by omega) _ (by omega) (by omega)).mono ?_; rintro e wp5 ⟨v, rfl, hv, hR, hw⟩; obtain ⟨hv0, hv1, -⟩ := hv; have hv2 := hv1 (by omega); obtain ⟨f, rfl⟩ : ∃ i : Nat, v = i := ⟨v.toNat, by omega⟩; have hf : f < 4 := (by omega); have HR5 := Lib.hid hR; have HW5 := Lib.hid hw; have HO5 := Lib.hid (hw.O HO4.out (by decide)); have HK5 := Lib.hid (HK4.out.but hw.but (by decide) (by decide)); have HD5 := Lib.hid (HD4.out.trans hw); clear hv0 hv1 hv2 hR hw) | fail)
      clear HOr HRr HDr HBr HNr HO4 HR4 HD4 HK4 HW5
      by_cases f2 : f < 2
      · have e0 : decide ((f : Int) < 2) = true := decide_eq_true (by omega)
        have e1 : decide ((2 : Int) ≤ (f : Int)) = false := decide_eq_false (by omega)
        have e2 : ¬ 2 ≤ f := by omega
        clear hf
        obtain ⟨p2, hp2⟩ := get13 HL.out 2 (by omega)
        obtain ⟨p3, hp3⟩ := get13 HL.out 3 (by omega)
        obtain ⟨p4, hp4⟩ := get13 HL.out 4 (by omega)
        have HO5d := Lib.hid (Kd.O_ext (bel_drew (Below.refl _ wp5)) HO5.out)
        have HK5d := Lib.hid (HK5.out.below (bel_drew (Below.refl _ wp5)))
        have HR5d := Lib.hid (HR5.out.ext (bel_drew (Below.refl _ wp5)))
        have HD5d := Lib.hid (DW.ext HD5.out (bel_drew (Below.refl _ wp5)) hsz)
        have Hp2 := Lib.hid hp2
        have Hp3 := Lib.hid hp3
        have Hp4 := Lib.hid hp4
        have hS0 : wp5.drew.cell? ⟨ob, 3, none⟩ = some (.slice (some ⟨p3.1, 0, none⟩) p3.2.length p3.2.length) ∧ wp5.drew.cell? ⟨ob, 4, none⟩ = some (.slice (some ⟨p4.1, 0, none⟩) p4.2.length p4.2.length) ∧ wp5.drew.cell? ⟨ob, 2, none⟩ = some (.slice (some ⟨p2.1, 0, none⟩) p2.2.length p2.2.length) := ⟨(HK5d.out.at hp3).1, (HK5d.out.at hp4).1, (HK5d.out.at hp2).1⟩
        clear hp2 hp3 hp4
        go_upto_region 12 with (fail)
        go_region_held3 (fun X => X.cell? ⟨ob, 3, none⟩ = some (.slice (some ⟨p3.1, 0, none⟩) p3.2.length p3.2.length) ∧ X.cell? ⟨ob, 4, none⟩ = some (.slice (some ⟨p4.1, 0, none⟩) p4.2.length p4.2.length) ∧ X.cell? ⟨ob, 2, none⟩ = some (.slice (some ⟨p2.1, 0, none⟩) p2.2.length p2.2.length)) (first | (with_reducible assumption)) (first | (refine step_app AppI.str rfl rfl HO7.out rfl (HK7.out.at Hp2.out).2.1 rfl (by rw [(HK7.out.at Hp2.out).2.2.2.1]; have := (HK7.out.at Hp2.out).2.2.2.2.2; omega) HD7.out.bel.size ?_; intro v8 w8 hg; have hK := blk_grew HK7.out hg HP7.out; obtain ⟨D8, hO, hL, hS⟩ := own_more hg.own HS7.out (HK7.out.at Hp2.out).2.2.1; rw [(HK7.out.at Hp2.out).2.2.2.1] at hL; have hd8 : D8.length ≤ 35 := (by have := (HK7.out.at Hp2.out).2.2.2.2.2; omega); have hw := Wrote.grew hg HO7.out HD7.out.bel.size; have HR8 := Lib.hid (HR7.out.wrote hw hsz (by decide)); have HD8 := Lib.hid (DW.own HD7.out hw.bel hsz); have HO8 := Lib.hid hO; have HS8 := Lib.hid hS; have HK8 := Lib.hid hK.1; have HP8 := Lib.hid hK.2; have hS8 : w8.cell? ⟨ob, 3, none⟩ = some (.slice (some ⟨p3.1, 0, none⟩) p3.2.length p3.2.length) ∧ w8.cell? ⟨ob, 4, none⟩ = some (.slice (some ⟨p4.1, 0, none⟩) p4.2.length p4.2.length) ∧ w8.cell? ⟨ob, 2, none⟩ = some (.slice (some ⟨p2.1, 0, none⟩) p2.2.length p2.2.length) := ⟨(HK8.out.at Hp3.out).1, (HK8.out.at Hp4.out).1, (HK8.out.at Hp2.out).1⟩; clear hg hK hO hS hL hw) | (refine step_app AppI.str rfl rfl HO6.out rfl (HK6.out.at Hp4.out).2.1 rfl (by rw [(HK6.out.at Hp4.out).2.2.2.1]; have := (HK6.out.at Hp4.out).2.2.2.2.2; omega) HD6.out.bel.size ?_; intro v7 w7 hg; have hK := blk_grew HK6.out hg HP6.out; obtain ⟨D7, hO, hL, hS⟩ := own_more hg.own HS6.out (HK6.out.at Hp4.out).2.2.1; rw [(HK6.out.at Hp4.out).2.2.2.1] at hL; have hd7 : D7.length ≤ 25 := (by have := (HK6.out.at Hp4.out).2.2.2.2.2; omega); have hw := Wrote.grew hg HO6.out HD6.out.bel.size; have HR7 := Lib.hid (HR6.out.wrote hw hsz (by decide)); have HD7 := Lib.hid (DW.own HD6.out hw.bel hsz); have HO7 := Lib.hid hO; have HS7 := Lib.hid hS; have HK7 := Lib.hid hK.1; have HP7 := Lib.hid hK.2; have hS7 : w7.cell? ⟨ob, 3, none⟩ = some (.slice (some ⟨p3.1, 0, none⟩) p3.2.length p3.2.length) ∧ w7.cell? ⟨ob, 4, none⟩ = some (.slice (some ⟨p4.1, 0, none⟩) p4.2.length p4.2.length) ∧ w7.cell? ⟨ob, 2, none⟩ = some (.slice (some ⟨p2.1, 0, none⟩) p2.2.length p2.2.length) := ⟨(HK7.out.at Hp3.out).1, (HK7.out.at Hp4.out).1, (HK7.out.at Hp2.out).1⟩; clear hg hK hO hS hL hw) | (refine step_app AppI.str rfl rfl HO5d.out rfl (HK5d.out.at Hp3.out).2.1 rfl (by rw [(HK5d.out.at Hp3.out).2.2.2.1]; have := (HK5d.out.at Hp3.out).2.2.2.2.2; omega) HD5d.out.bel.size ?_; intro v6 w6 hg; have hK := blk_grew HK5d.out hg HP4.out; obtain ⟨D6, hO, hL, hS⟩ := own_more hg.own HSr.out (HK5d.out.at Hp3.out).2.2.1; rw [(HK5d.out.at Hp3.out).2.2.2.1] at hL; have hd6 : D6.length ≤ 15 := (by have := (HK5d.out.at Hp3.out).2.2.2.2.2; omega); have hw := Wrote.grew hg HO5d.out HD5d.out.bel.size; have HR6 := Lib.hid (HR5d.out.wrote hw hsz (by decide)); have HD6 := Lib.hid (DW.own HD5d.out hw.bel hsz); have HO6 := Lib.hid hO; have HS6 := Lib.hid hS; have HK6 := Lib.hid hK.1; have HP6 := Lib.hid hK.2; have hS6 : w6.cell? ⟨ob, 3, none⟩ = some (.slice (some ⟨p3.1, 0, none⟩) p3.2.length p3.2.length) ∧ w6.cell? ⟨ob, 4, none⟩ = some (.slice (some ⟨p4.1, 0, none⟩) p4.2.length p4.2.length) ∧ w6.cell? ⟨ob, 2, none⟩ = some (.slice (some ⟨p2.1, 0, none⟩) p2.2.length p2.2.length) := ⟨(HK6.out.at Hp3.out).1, (HK6.out.at Hp4.out).1, (HK6.out.at Hp2.out).1⟩; clear hg hK hO hS hL hw))
        all_goals
          clear hS0 hS6 hS7 hS8 HO5 HK5 HR5 HD5 HO5d HK5d HR5d HD5d HO6 HK6 HR6 HD6 HO7 HK7 HR7 HD7
          go_upto_region 15 with (first | (go_at_call_of 34 (Value.int .i64 4); refine (rq_pick HRa.out (by omega) _ (by omega) (by omega)).mono ?_; rintro e wpb ⟨v, rfl, hv, hR, hw⟩; obtain ⟨hv0, hv1, -⟩ := hv; have hv2 := hv1 (by omega); obtain ⟨q, rfl⟩ : ∃ i : Nat, v = i := ⟨v.toNat, by omega⟩; have hq : q < 4 := (by omega); have HRb := Lib.hid hR; have HWb := Lib.hid hw; have HOb := Lib.hid (hw.O HOa.out (by decide)); have HDb := Lib.hid (HDa.out.trans hw); clear hv0 hv1 hv2 hR hw) | (at_builtin; refine wp_app AppI.str rfl rfl HO9.out rfl (HK9.out.at Hp.out).2.1 rfl (by rw [(HK9.out.at Hp.out).2.2.2.1]; have := (HK9.out.at Hp.out).2.2.2.2.2; omega) HD9.out.bel.size ?_; intro va wa hg; obtain ⟨Da, hO, hL, hS⟩ := own_more hg.own HS8.out (HK9.out.at Hp.out).2.2.1; rw [(HK9.out.at Hp.out).2.2.2.1] at hL; have hda : Da.length ≤ 45 := (by have := (HK9.out.at Hp.out).2.2.2.2.2; omega); have hw := Wrote.grew hg HO9.out HD9.out.bel.size; have HRa := Lib.hid (HR9.out.wrote hw hsz (by decide)); have HDa := Lib.hid (DW.own HD9.out hw.bel hsz); have HOa := Lib.hid hO; have HSa := Lib.hid hS; clear hg hO hS hL hw) | (go_at_call 34; (with_reducible refine (rq_pick (HR8.out.ext (bel_alloc (Below.refl _ _) (.cells #[.int .i64 10, .int .i64 7, .int .i64 11] 3))) (by omega) 3 (by omega) (by omega)).mono ?_); rintro e wp9 ⟨v, rfl, hv, hR, hw⟩; obtain ⟨hv0, hv1, -⟩ := hv; have hv2 := hv1 (by omega); obtain ⟨z, rfl⟩ : ∃ i : Nat, v = i := ⟨v.toNat, by omega⟩; have hz : z < 3 := (by omega); have hz1 : (z : Int) < 3 := (by omega); obtain ⟨j, hj, hj13⟩ := ints3 hz; have hj1 : (j : Int) < 13 := (by omega); have hcz := (Bx.cell (Bx.but (Bx.new w8 3 #[.int .i64 10, .int .i64 7, .int .i64 11]) hw.but (by decide)) z).trans hj; obtain ⟨p, hp⟩ := get13 HL.out j hj13; have Hp := Lib.hid hp; have HO9 := Lib.hid (hw.O (Kd.O_alloc (.cells #[.int .i64 10, .int .i64 7, .int .i64 11] 3) HO8.out) (by decide)); have HK9 := Lib.hid ((HK8.out.below (bel_alloc (Below.refl _ _) (.cells #[.int .i64 10, .int .i64 7, .int .i64 11] 3))).but hw.but (by decide) (by decide)); have HR9 := Lib.hid hR; have HD9 := Lib.hid ((DW.ext HD8.out (bel_alloc (Below.refl _ _) (.cells #[.int .i64 10, .int .i64 7, .int .i64 11] 3)) hsz).trans hw); have hcp := (HK9.out.at hp).1; clear hv0 hv1 hv2 hR hw hj hp) | fail)
          have fq : decide ((0 : Int) < 1 + (q : Int)) = true := decide_eq_true (by omega)
          have HFin := Lib.hid (And.intro HOb.out (And.intro HRb.out HDb.out))
          clear hcz hcp
          go_loopw [3, 10] (fun v3 v10 wx => v3 = va ∧ v10 = .int .i64 (1 + (q : Int)) ∧ wx = wpb) (fun _ _ _ => 0)
          case atStart => exact ⟨rfl, rfl, rfl⟩
          case round =>
            obtain ⟨rfl, rfl, rfl⟩ := hrel
            go_wp2
            go_ret
            exact ⟨_, Da, rfl, Kd.O_read HFin.out.1, by omega, HSa.out, HFin.out.2.1.mono (by omega), HFin.out.2.2⟩
      have e0 : decide ((f : Int) < 2) = false := decide_eq_false (by omega)
      have e1 : decide ((2 : Int) ≤ (f : Int)) = true := decide_eq_true (by omega)
      clear f2 hf
      go_upto_region 15 with (first | (go_at_call_of 34 (Value.int .i64 4); refine (rq_pick HR5.out (by omega) _ (by omega) (by omega)).mono ?_; rintro e wp6 ⟨v, rfl, hv, hR, hw⟩; obtain ⟨hv0, hv1, -⟩ := hv; have hv2 := hv1 (by omega); obtain ⟨q, rfl⟩ : ∃ i : Nat, v = i := ⟨v.toNat, by omega⟩; have hq : q < 4 := (by omega); have HR6 := Lib.hid hR; have HW6 := Lib.hid hw; have HO6 := Lib.hid (hw.O HO5.out (by decide)); have HK6 := Lib.hid (HK5.out.but hw.but (by decide) (by decide)); have HD6 := Lib.hid (HD5.out.trans hw); clear hv0 hv1 hv2 hR hw) | fail)
      obtain ⟨P, hP⟩ : ∃ P, D.length = P := ⟨_, rfl⟩
      have hP5 : P ≤ 5 := by omega
      have hq4 : 1 + q ≤ 4 := by omega
      clear hq HO5 HK5 HR5 HD5 HW6 hkD f0 fn
      simp only [hP]
      go_loopw [3, 10] (fun v3 v10 wx => ∃ (D : List ByteArray) (k : Nat) (OA : Option Addr) (oc : Nat), v3 = .slice OA D.length oc ∧ v10 = .int .i64 (k : Int) ∧ k ≤ 4 ∧ D.length ≤ P + 12 ∧ Hid (Kd.str.O 9 wx W.heap.size (.slice OA D.length oc) D) ∧ Hid (∀ x ∈ D, x.size ≤ 20000) ∧ Hid (BlkD wx wr.heap.size ob L) ∧ Hid (∀ k, (Value.slice OA D.length oc).ownBlock = some k → k ≠ ob ∧ ∀ p ∈ L, k ≠ p.1) ∧ Hid (RQ w0 g (M + 10 + 20010 * (4 - k)) wx) ∧ Hid (DW w0 W wx)) (fun _ v10 _ => (intOf v10).toNat)
      case atStart => exact ⟨D, 1 + q, OA, oc, by rw [hP], by first | rfl | (congr 1; omega), hq4, by omega, HO6, HSr, HK6, HP4, Lib.hid (HR6.out.mono (by omega)), HD6⟩
      case round =>
        clear HO6 HK6 HR6 HD6 HP4 HSr hP hDb hq4
        obtain ⟨D, k, OA, oc, rfl, rfl, hk4, hDP, HOr, HSr, HKr, HPr, HRr, HDr⟩ := hrel
        by_cases hk0 : k = 0
        · have f0 : decide ((0 : Int) < (k : Int)) = false := decide_eq_false (by omega)
          have fn : ¬ 0 < k := by omega
          clear hk0
          go_wp2
          go_ret
          exact ⟨_, D, rfl, Kd.O_read HOr.out, by omega, HSr.out, HRr.out.mono (by omega), HDr.out⟩
        obtain ⟨m, rfl⟩ : ∃ m, k = m + 1 := ⟨k - 1, by omega⟩
        have f0 : decide ((0 : Int) < ((m + 1 : Nat) : Int)) = true := decide_eq_true (by omega)
        clear hk0
        go_upto_region 20 with (first | (go_at_call_of 34 (Value.int .i64 4); refine (rq_pick HR7.out (by omega) _ (by omega) (by omega)).mono ?_; rintro e wp8 ⟨v, rfl, hv, hR, hw⟩; obtain ⟨hv0, hv1, -⟩ := hv; have hv2 := hv1 (by omega); obtain ⟨t, rfl⟩ : ∃ i : Nat, v = i := ⟨v.toNat, by omega⟩; have ht : t < 4 := (by omega); have HR8 := Lib.hid hR; have HW8 := Lib.hid hw; have HO8 := Lib.hid (hw.O HO7.out (by decide)); have HK8 := Lib.hid (HK7.out.but hw.but (by decide) (by decide)); have HD8 := Lib.hid (HD7.out.trans hw); clear hv0 hv1 hv2 hR hw) | (go_at_call_of 34 (Value.int .i64 13); refine (rq_pick HRr.out (by omega) _ (by omega) (by omega)).mono ?_; rintro e wp7 ⟨v, rfl, hv, hR, hw⟩; obtain ⟨hv0, hv1, -⟩ := hv; have hv2 := hv1 (by omega); obtain ⟨j, rfl⟩ : ∃ i : Nat, v = i := ⟨v.toNat, by omega⟩; have hj : j < 13 := (by omega); have HR7 := Lib.hid hR; have HW7 := Lib.hid hw; obtain ⟨p, hp⟩ := get13 HL.out j (by omega); have HO7 := Lib.hid (hw.O HOr.out (by decide)); have HK7 := Lib.hid (HKr.out.but hw.but (by decide) (by decide)); have HD7 := Lib.hid (HDr.out.trans hw); obtain ⟨hc7, hs7, -, -, -, hn7⟩ := HK7.out.at hp; have Hp := Lib.hid hp; clear hs7 hp; have hj1 : (j : Int) < 13 := (by omega); clear hv0 hv1 hv2 hR hw) | (go_at_call 96; (with_reducible refine (HCl.out _ _ HR9.out (by omega)).mono ?_); rintro e w10 ⟨s2, rfl, hs2, hR, hw⟩; have HR10 := Lib.hid hR; have HO10 := Lib.hid (hw.O HO9.out (by decide)); have HK10 := Lib.hid (HK9.out.but hw.but (by decide) (by decide)); have HD10 := Lib.hid (HD9.out.trans hw); clear hR hw) | (go_at_call 96; (with_reducible refine (HCl.out _ _ HR8.out (by omega)).mono ?_); rintro e w9 ⟨s1, rfl, hs1, hR, hw⟩; have HR9 := Lib.hid hR; have HO9 := Lib.hid (hw.O HO8.out (by decide)); have HK9 := Lib.hid (HK8.out.but hw.but (by decide) (by decide)); have HD9 := Lib.hid (HD8.out.trans hw); clear hR hw) | fail)
        · have HQ := Lib.hid (S_texts (w := w10) (cs := [.string s1, .string s2]) 20000 (by simp [isS, hs1, hs2]) (Nat.le_of_ble_eq_true rfl))
          have hbs : W.heap.size ≤ w10.heap.size := HD10.out.bel.size
          clear HO7 HK7 HR7 HD7 HO8 HK8 HR8 HD8 HO9 HK9 HR9 HD9 hc7 hn7
          go_wp2_with (first | (at_builtin; refine wp_app AppI.str rfl rfl (Kd.O_alloc _ HO10.out) rfl HQ.out.1 rfl (by have := (show ([Value.string s1, Value.string s2].map strOf).length = 2 from rfl); omega) (Nat.le_trans hbs (bel_alloc (Below.refl _ _) _).size) ?_; intro v9 w9 hg; have hK := blk_grew (HK10.out.below (bel_alloc (Below.refl _ _) _)) hg HPr.out; obtain ⟨D2, hO9, hL9, hS9⟩ := own_more hg.own HSr.out HQ.out.2; have HW9 := Wrote.grew hg (Kd.O_alloc _ HO10.out) (Nat.le_trans hbs (bel_alloc (Below.refl _ _) _).size); have HO9' := Lib.hid hO9; have HL9 := Lib.hid hL9; have HS9 := Lib.hid hS9; have HK9' := Lib.hid hK.1; have HP9 := Lib.hid hK.2; have HR9' := Lib.hid ((HR10.out.ext (bel_alloc (Below.refl _ _) _)).wrote HW9 hsz (by decide)); have HD9' := Lib.hid (DW.own (DW.ext HD10.out (bel_alloc (Below.refl _ _) _) hsz) HW9.bel hsz); obtain ⟨OB, od, rfl⟩ := own_slice hO9; clear hg hK hO9 hL9 hS9 HW9) | fail)
          · exact ⟨⟨D2, m, OB, od, rfl, by first | go_num | (congr 1; omega), by omega, by have := HL9.out; have := (show ([Value.string s1, Value.string s2].map strOf).length = 2 from rfl); omega, HO9', HS9, HK9', HP9, Lib.hid (HR9'.out.mono (by omega)), HD9'⟩, by first | (simp [intOf]; done) | (simp [intOf]; omega)⟩
          · exact ⟨⟨D, m, OA, oc, rfl, by first | go_num | (congr 1; omega), by omega, hDP, Lib.hid ((Kd.O_alloc _ HO10.out)), HSr, Lib.hid ((HK10.out.below (bel_alloc (Below.refl _ _) _))), HPr, Lib.hid ((HR10.out.ext (bel_alloc (Below.refl _ _) _)).mono (by omega)), Lib.hid (DW.ext HD10.out (bel_alloc (Below.refl _ _) _) hsz)⟩, by first | (simp [intOf]; done) | (simp [intOf]; omega)⟩
        · have hbs : W.heap.size ≤ wp8.heap.size := HD8.out.bel.size
          have HQ := Lib.hid (HK8.out.at Hp.out)
          have hpn : p.2.length ≤ 10 := hn7
          clear HO7 HK7 HR7 HD7 hc7 hn7
          go_wp2_with (first | (at_builtin; refine wp_app AppI.str rfl rfl HO8.out rfl (show Kd.str.S 9 _ (.slice _ p.2.length p.2.length) (p.2.map strOf) from HQ.out.2.1) rfl (by have := HQ.out.2.2.2.1; omega) hbs ?_; intro v9 w9 hg; have hK := blk_grew HK8.out hg HPr.out; obtain ⟨D2, hO9, hL9, hS9⟩ := own_more hg.own HSr.out HQ.out.2.2.1; have HW9 := Wrote.grew hg HO8.out hbs; have HO9' := Lib.hid hO9; have HL9 := Lib.hid hL9; have HS9 := Lib.hid hS9; have HK9' := Lib.hid hK.1; have HP9 := Lib.hid hK.2; have HR9' := Lib.hid ((HR8.out).wrote HW9 hsz (by decide)); have HD9' := Lib.hid (DW.own (HD8.out) HW9.bel hsz); obtain ⟨OB, od, rfl⟩ := own_slice hO9; clear hg hK hO9 hL9 hS9 HW9) | fail)
          · exact ⟨⟨D2, m, OB, od, rfl, by first | go_num | (congr 1; omega), by omega, by have := HL9.out; have := HQ.out.2.2.2.1; omega, HO9', HS9, HK9', HP9, Lib.hid (HR9'.out.mono (by omega)), HD9'⟩, by first | (simp [intOf]; done) | (simp [intOf]; omega)⟩
          · exact ⟨⟨D, m, OA, oc, rfl, by first | go_num | (congr 1; omega), by omega, hDP, Lib.hid (HO8.out), HSr, Lib.hid (HK8.out), HPr, Lib.hid ((HR8.out).mono (by omega)), Lib.hid (HD8.out)⟩, by first | (simp [intOf]; done) | (simp [intOf]; omega)⟩

    obtain ⟨m, rfl⟩ : ∃ m, k = m + 1 := ⟨k - 1, by omega⟩
    have f0 : decide ((0 : Int) < ((m + 1 : Nat) : Int)) = true := decide_eq_true (by omega)
    clear hk0
    have hm5 : m + 1 ≤ 5 := by omega
    obtain ⟨kz, hkz⟩ : ∃ kz : Int, ((m + 1 : Nat) : Int) = kz := ⟨_, rfl⟩
    obtain ⟨iz, hiz⟩ : ∃ iz : Nat, ((a : Int) + kz * 3).tmod 11 = (iz : Int) := ⟨(((a : Int) + kz * 3).tmod 11).toNat, by rw [Int.toNat_of_nonneg]; exact Int.tmod_nonneg _ (by omega)⟩
    have hiz2 : iz < 11 := by have := Int.tmod_lt_of_pos ((a : Int) + kz * 3) (show (0 : Int) < 11 by decide); omega
    obtain ⟨nm, hnm, hns⟩ := strs_lit [⟨#[110, 97, 116, 32, 49]⟩, ⟨#[97, 112, 112, 32, 51]⟩, ⟨#[109, 101, 109, 32, 50]⟩, ⟨#[101, 32, 50]⟩, ⟨#[112, 32, 50]⟩, ⟨#[108, 101, 110, 32, 50]⟩, ⟨#[111, 32, 49]⟩, ⟨#[113, 32, 49]⟩, ⟨#[114, 32, 49]⟩, ⟨#[104, 32, 50]⟩, ⟨#[109, 97, 120, 32, 51]⟩] (by decide) iz (by simpa using hiz2)
    have hi0 : (0 : Int) ≤ (iz : Int) := by omega
    have hi1 : (iz : Int) < 11 := by omega
    have hrk : IntKind.i64.wrap (kz * 3) = kz * 3 := IntWalk.i64_in _ (by omega)
    have hra : IntKind.i64.wrap ((a : Int) + kz * 3) = (a : Int) + kz * 3 := IntWalk.i64_in _ (by omega)
    have hrm : IntKind.i64.wrap ((iz : Int)) = (iz : Int) := IntWalk.i64_in _ (by omega)
    have hS0 : wr.drew.cell? ⟨W.heap.size + 1, iz, none⟩ = some (.string nm) := (Bx.cell HBr.out iz).trans hnm
    have HOd := Lib.hid (Kd.O_ext (bel_drew (Below.refl _ wr)) HOr.out)
    have HRd := Lib.hid (HRr.out.ext (bel_drew (Below.refl _ _)))
    have HDd := Lib.hid (DW.ext HDr.out (bel_drew (Below.refl _ _)) hsz)
    have HBd := Lib.hid (Bx.below HBr.out (bel_drew (Below.refl _ _)))
    have HNm := Lib.hid hnm
    clear hnm
    go_upto_region 7 with (fail)
    go_region_held3 (fun X => X.cell? ⟨W.heap.size + 1, iz, none⟩ = some (.string nm)) (first | (with_reducible assumption) | exact (cell_keep (bel_alloc (Below.refl _ _) _) (by assumption))) (first | (refine step_app AppI.str rfl rfl (Kd.O_alloc _ HO4.out) rfl (Kd.S_lit Kd.str _ (x := _) (cs := [.string _]) rfl rfl) rfl (by simp only [List.length_singleton]; omega) (show W.heap.size ≤ (wq.alloc _).heap.size from Nat.le_trans HDq.out (bel_alloc (Below.refl _ _) _).size) ?_; intro v9 w9 hg; have hB9 := bx_grew (Bx.alloc HB4.out _) hg HNr.out; have HB9 := Lib.hid hB9; have HW9 := Lib.hid (Wrote.grew hg (Kd.O_alloc _ HO4.out) (show W.heap.size ≤ (wq.alloc _).heap.size from Nat.le_trans HDq.out (bel_alloc (Below.refl _ _) _).size)); have hS3 : w9.cell? ⟨W.heap.size + 1, iz, none⟩ = some (.string nm) := (Bx.cell hB9.1 iz).trans HNm.out; obtain ⟨D2, hO9, hL9, hS9⟩ := own_more hg.own HSr.out (one_ok (n := 20000) (by simp only [ByteArray.size_append]; show 3 + ps.size + 1 + nm.size ≤ 20000; omega)); have HO9 := Lib.hid hO9; have HL9 := Lib.hid hL9; have HS9 := Lib.hid hS9; have HR9 := Lib.hid ((HR4.out.ext (bel_alloc (Below.refl _ _) _)).wrote HW9.out hsz (by decide)); have HD9 := Lib.hid (DW.own (DW.ext HD4.out (bel_alloc (Below.refl _ _) _) hsz) HW9.out.bel hsz); clear hg hB9 hO9 hL9 hS9) | (go_at_call 83; (with_reducible refine (HPl.out _).mono ?_); rintro e wq ⟨rfl, hb'⟩; obtain ⟨ps, hpp⟩ : ∃ ps, B (Lib.decDigits (1 + i)) = ps := ⟨_, rfl⟩; rw [hpp] at hps ⊢; have HR4 := Lib.hid (HR3.out.ext hb'); have HO4 := Lib.hid (Kd.O_ext hb' HO3.out); have HB4 := Lib.hid (Bx.below HB3.out hb'); have HD4 := Lib.hid (DW.ext HD3.out hb' hsz); have hS2 : wq.cell? ⟨W.heap.size + 1, iz, none⟩ = some (.string nm) := (Bx.cell HB4.out iz).trans HNm.out; have HDq := Lib.hid (show W.heap.size ≤ wq.heap.size from HD4.out.bel.size); have u1 : ¬ 9223372036854775807 < 3 + ps.size := (by omega); have u2 : ¬ 9223372036854775807 < 3 + ps.size + 1 := (by omega); have u3 : ¬ 9223372036854775807 < 3 + ps.size + 1 + nm.size := (by omega); clear hb' hpp) | (go_at_call 34; (with_reducible refine (rq_pick HRd.out (by omega) 2 (by omega) (by omega)).mono ?_); rintro e wp ⟨v, rfl, hv, hR, hw⟩; obtain ⟨hv0, hv1, -⟩ := hv; have hv2 := hv1 (by omega); obtain ⟨i, rfl⟩ : ∃ i : Nat, v = i := ⟨v.toNat, by omega⟩; have hi : i < 2 := (by omega); have hri : IntKind.i64.wrap (1 + (i : Int)) = 1 + (i : Int) := IntWalk.i64_in _ (by omega); have HPl := Lib.hid (fun W => (show Calls Tryz.prog 83 #[.int .i64 (1 + (i : Int))] W _ from plain_c (1 + i) W (by omega))); have hps := dec_len1 (a := 1 + i) (by omega); have HR3 := Lib.hid hR; have HO3 := Lib.hid (hw.O HOd.out (by decide)); have HB3 := Lib.hid (Bx.but HBd.out hw.but (by decide)); have HD3 := Lib.hid (HDd.out.trans hw); have hS1 : wp.cell? ⟨W.heap.size + 1, iz, none⟩ = some (.string nm) := (Bx.cell HB3.out iz).trans HNm.out; clear hv0 hv1 hv2 hR hw))
    all_goals
      obtain ⟨OB, od, rfl⟩ := own_slice HO9.out
      clear hS0 hS1 hS2 hS3
      go_wp2
      exact ⟨⟨D2, m, OB, od, rfl, by first | go_num | (congr 1; omega), by have := HL9.out; simp only [List.length_singleton] at this; omega, HO9, HS9, Lib.hid HB9.out.1, Lib.hid HB9.out.2, Lib.hid (HR9.out.mono (by have := HL9.out; simp only [List.length_singleton] at this; omega)), HD9⟩, by simp [intOf]; omega⟩
end Go.Proofs.YtjglbadkbhopoaaGreatDoor
namespace Go.Proofs.YtjglbadkbhopoaaGreatDoor
open Go.RowKit
set_option maxRecDepth 100000
set_option maxHeartbeats 4000000
set_option linter.unusedVariables false
theorem nextS_c (p : Prog) (t : Trm) (k0 : Nat) (p1 p2 tv : Value) (w : World) (hp : PrR w p p1 p2) (ht : T0 w tv t) (hc : calls t = true) (hprg : prgOk p = true) (hl : p.cl.length ≤ 4000000) (hk0 : k0 ≤ p.cl.length) :
    Calls Tryz.prog 156 #[.agg #[p1, p2], tv, .int .i64 k0] w fun e w' => e = .returned (.int .i64 (nextCl p t k0)) ∧ Below w.heap.size w w' := by
  obtain ⟨ccell, crest, rfl, hck⟩ := calls_iff.1 hc
  have HPrg := Lib.hid hprg
  have HCl := Lib.hid hp.c
  have HT := Lib.hid ht
  have H0 := Lib.hid (fun o => bel_alloc (Below.refl _ w) o)
  obtain ⟨PA, pn, rfl, a1, a2, -⟩ := hp.c
  obtain ⟨QA, qn, rfl, -, -, -⟩ := hp.p
  have HN0 := Lib.hid (Bx.new w 58 #[.slice PA p.cl.length pn, .slice QA p.pl.length qn])
  obtain ⟨TA, tn, rfl, -, -, tC⟩ := ht
  obtain ⟨ta, rfl, c0, c1, c2⟩ := cell_hd tC
  obtain ⟨Z, hZ⟩ : ∃ Z, nextCl p (ccell :: crest) k0 = Z := ⟨_, rfl⟩
  have HZ0 := Lib.hid hZ
  rw [hZ]
  clear hc hck tC hp hprg hZ
  go_enter Tryz.func156, Tryz.ntmps156
  go_wp2
  go_loopw [7] (fun v7 wr => ∃ k : Nat, v7 = .int .i64 k ∧ k ≤ p.cl.length ∧ Hid (nextCl p (ccell :: crest) k = Z) ∧ Hid (Below (w.alloc (.cells #[.slice PA p.cl.length pn, .slice QA p.pl.length qn] 58)).heap.size (w.alloc (.cells #[.slice PA p.cl.length pn, .slice QA p.pl.length qn] 58)) wr)) (fun v7 _ => p.cl.length - (intOf v7).toNat)
  case atStart => exact ⟨k0, rfl, hk0, HZ0, Lib.hid (Below.refl _ _)⟩
  case round =>
    obtain ⟨k, rfl, hk, HRr, HBr⟩ := hrel
    have HBw := Lib.hid (bel_trans (H0.out _) HBr.out)
    have HNr := Lib.hid (Bx.below HN0.out HBr.out)
    have q0 := Bx.at' HNr.out 0 (.slice PA p.cl.length pn) rfl
    by_cases hlt : k < p.cl.length
    · obtain ⟨x, hx⟩ : ∃ x, p.cl[k]? = some x := ⟨_, List.getElem?_eq_getElem hlt⟩
      obtain ⟨-, y2, -, -⟩ := cl_at HPrg.out (List.mem_of_getElem? hx)
      obtain ⟨hcell, hrest, hhd, -⟩ := calls_iff.1 y2
      have hst : nextCl p (ccell :: crest) k = if hcell = ccell then k else nextCl p (ccell :: crest) (k + 1) := by
        rw [nextCl, dif_pos hlt, (List.getElem?_eq_some_iff.1 hx).2, hhd]; rfl
      have HST := Lib.hid (hst.symm.trans HRr.out)
      obtain ⟨LA', ln', ev, _, _, hLC⟩ := HCl.out
      injection ev with v1 v2 v3
      obtain ⟨lad, hv, bv, hLA, t0, t1, th, _⟩ := clause_at hLC hx
      obtain rfl := v1.trans hLA
      obtain ⟨HA', hn', rfl, _, _, hHC⟩ := th
      rw [hhd] at hHC t0
      obtain ⟨had, rfl, hh0, hh1, hh2⟩ := cell_hd hHC
      have k0 := cell_keep HBw.out t0
      have k1 := cell_keep HBw.out hh0
      have k2 := cell_keep HBw.out hh1
      have k3 := cell_keep HBw.out hh2
      have k4 := cell_keep HBw.out c0
      have k5 := cell_keep HBw.out c1
      have k6 := cell_keep HBw.out c2
      clear hst hx y2 hhd hHC hLC v1 v2 v3 hLA t0 t1 hh0 hh1 hh2
      by_cases he : hcell = ccell
      · subst he
        have HV := Lib.hid (show k = Z by have := HST.out; rwa [if_pos rfl] at this)
        go_upto_region 4 with (fail)
        go_quiet (fail)
        go_wp2
        go_ret
        exact ⟨congrArg (fun z : Nat => Ending.returned (.int .i64 z)) HV.out, bel_drewN HBw.out _⟩
      · have HV := Lib.hid (show nextCl p (ccell :: crest) (k + 1) = Z by have := HST.out; rwa [if_neg he] at this)
        rcases cell_neb he with f1 | ⟨f1, f2⟩ | ⟨f1, f2, f3⟩
        all_goals
          clear he
          go_upto_region 4 with (fail)
          go_quiet (fail)
          go_wp2
          exact ⟨⟨k + 1, by go_num, hlt, HV, Lib.hid (bel_drewN HBr.out _)⟩, by simp [intOf]; omega⟩
    · have HV := Lib.hid (show p.cl.length = Z by have := HRr.out; rw [nextCl, dif_neg hlt] at this; exact this)
      go_wp2
      go_ret
      exact ⟨congrArg (fun z : Nat => Ending.returned (.int .i64 z)) HV.out, HBw.out⟩
theorem numS_c (n : Nat) (s : Binds) (t x : Trm) (sv tv : Value) (w : World) (hs : B0 w sv s) (hl : s.length ≤ 1000000000) (ht : T0 w tv t) (hw : walkB n s t = some x) (hne : ∀ v t, getB s v = some t → t ≠ []) (hx : x ≠ []) :
    Calls Tryz.prog 145 #[sv, tv] w fun e w' => e = .returned (.tuple #[.int .i64 (headC x).n, .bool ((headC x).k == 2)]) ∧ Below w.heap.size w w' := by
  obtain ⟨A, c, rfl, -, -, hC⟩ := hs
  have HX := Lib.hid (walk_c n s A c t x tv w hC hl ht hw hne)
  obtain ⟨hc, hr, rfl⟩ : ∃ hc hr, x = hc :: hr := by cases x with | nil => exact absurd rfl hx | cons a b => exact ⟨a, b, rfl⟩
  obtain ⟨TA, tn, rfl, -, -, -⟩ := ht
  have HV := Lib.hid (show headC (hc :: hr) = hc from rfl)
  rw [HV.out]
  clear hC hw hne hx
  obtain ⟨q, hq⟩ : ∃ q, (hc.k == 2) = q := ⟨_, rfl⟩
  rw [hq]
  go_enter Tryz.func145, Tryz.ntmps145
  go_upto_region 2 with (go_at_call 54; (with_reducible refine HX.out.mono ?_); rintro e w1 ⟨r, rfl, hr1, hb⟩; have HB := Lib.hid hb; obtain ⟨RA, rc, rfl, -, -, rC⟩ := hr1; obtain ⟨ad, rfl, m0, m1, m2⟩ := cell_hd rC; clear hb rC)
  go_quiet (fail)
  go_wp2
  go_ret2
  exact ⟨rfl, bel_drewN HB.out _⟩
end Go.Proofs.YtjglbadkbhopoaaGreatDoor
