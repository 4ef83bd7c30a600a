/- The laws' own small test of a term: it holds. -/
import Derived.Test.YtjnangiggnmkoaaDoorBase
import Derived.Outline
import Derived.Deep.RegionWith
import Derived.Deep.DeepCutAuto
import Derived.Deep.CutBlock
namespace Go.Proofs.YtjnangiggnmkoaaDoor
open Go.RowKit
set_option maxRecDepth 100000
set_option maxHeartbeats 1000000
set_option linter.unusedVariables false
theorem okNum_c (w : World) : Calls Tryd.prog 34 #[.agg #[.int .i64 2, .int .i64 1, .string ⟨#[]⟩]] w fun e w' => e = .returned (.bool true) ∧ Below w.heap.size w w' := by
  go_enter Tryd.func34, Tryd.ntmps34
  go_wp2
  go_ret
  exact ⟨rfl, bel_alloc (Below.refl _ _) _⟩
theorem wrongNum_c (w : World) : Calls Tryd.prog 33 #[.agg #[.int .i64 2, .int .i64 1, .string ⟨#[]⟩]] w fun e w' => e = .returned (.bool false) ∧ Below w.heap.size w w' := by
  go_enter Tryd.func33, Tryd.ntmps33
  go_wp2_with (go_at_call 34; refine (okNum_c _).mono ?_; rintro e w1 ⟨rfl, hb⟩)
  go_ret
  exact ⟨rfl, bel_trans (bel_alloc (Below.refl _ _) _) hb⟩
theorem arNum_c (w : World) : Calls Tryd.prog 49 #[.agg #[.int .i64 2, .int .i64 1, .string ⟨#[]⟩]] w fun e w' => e = .returned (.int .i64 0) ∧ Below w.heap.size w w' := by
  go_enter Tryd.func49, Tryd.ntmps49
  go_wp2
  go_ret
  exact ⟨rfl, bel_alloc (Below.refl _ _) _⟩
theorem sizeNum_c (w : World) (b : Nat) (h : w.heap[b]? = some (.cells #[.int .i64 2, .int .i64 1, .string ⟨#[]⟩] 52 (0, 0))) : Calls Tryd.prog 37 #[.slice (some ⟨b, 0, none⟩) 1 1] w fun e w' => e = .returned (.int .i64 1) ∧ Below w.heap.size w w' := by
  have c0 := cell_of_row w b 0 _ _ _ h
  have c1 := cell_of_row w b 1 _ _ _ h
  have c2 := cell_of_row w b 2 _ _ _ h
  clear h
  go_enter Tryd.func37, Tryd.ntmps37
  go_wp2
  go_loopw [4, 3] (fun v4 v3 wr => ∃ i : Nat, v4 = .int .i64 i ∧ i ≤ 1 ∧ v3 = .int .i64 1 ∧ (i = 0 → wr = w) ∧ Hid (Below w.heap.size w wr)) (fun v4 _ _ => 1 - (intOf v4).toNat)
  case atStart => exact ⟨0, rfl, by omega, rfl, fun _ => rfl, Lib.hid (Below.refl _ _)⟩
  case round =>
    obtain ⟨i, rfl, hi, rfl, h0, HB⟩ := hrel
    by_cases hlt : i = 0
    · subst hlt
      obtain rfl := h0 rfl
      go_wp2_with (go_at_call 49; refine (arNum_c _).mono ?_; rintro e w1 ⟨rfl, hb⟩)
      exact ⟨⟨1, by go_num, by omega, by go_num, fun h => by omega, Lib.hid hb⟩, by simp [intOf]⟩
    · obtain rfl : i = 1 := by omega
      go_wp2
      go_ret
      exact ⟨rfl, HB.out⟩
theorem indexNum_c (w : World) (b : Nat) (h : w.heap[b]? = some (.cells #[.int .i64 2, .int .i64 1, .string ⟨#[]⟩] 52 (0, 0))) : Calls Tryd.prog 48 #[.slice (some ⟨b, 0, none⟩) 1 1, .func (.func 33) #[] #[]] w fun e w' => e = .returned (.int .i64 (-1)) ∧ Below w.heap.size w w' := by
  have c0 := cell_of_row w b 0 _ _ _ h
  have c1 := cell_of_row w b 1 _ _ _ h
  have c2 := cell_of_row w b 2 _ _ _ h
  clear h
  go_enter Tryd.func48, Tryd.ntmps48
  go_wp2
  go_loopw [8] (fun v8 wr => ∃ i : Nat, v8 = .int .i64 i ∧ i ≤ 1 ∧ (i = 0 → wr = w) ∧ Hid (Below w.heap.size w wr)) (fun v8 _ => 1 - (intOf v8).toNat)
  case atStart => exact ⟨0, rfl, by omega, fun _ => rfl, Lib.hid (Below.refl _ _)⟩
  case round =>
    obtain ⟨i, rfl, hi, h0, HB⟩ := hrel
    by_cases hlt : i = 0
    · subst hlt
      obtain rfl := h0 rfl
      go_wp2_with (go_at_call 33; refine (wrongNum_c _).mono ?_; rintro e w1 ⟨rfl, hb⟩)
      exact ⟨⟨1, by go_num, by omega, fun h => by omega, Lib.hid hb⟩, by simp [intOf]⟩
    · obtain rfl : i = 1 := by omega
      go_wp2
      go_ret
      exact ⟨rfl, HB.out⟩
theorem contNum_c (w : World) (b : Nat) (h : w.heap[b]? = some (.cells #[.int .i64 2, .int .i64 1, .string ⟨#[]⟩] 52 (0, 0))) : Calls Tryd.prog 36 #[.slice (some ⟨b, 0, none⟩) 1 1, .func (.func 33) #[] #[]] w fun e w' => e = .returned (.bool false) ∧ Below w.heap.size w w' := by
  have H1 := Lib.hid (indexNum_c w b h)
  clear h
  go_enter Tryd.func36, Tryd.ntmps36
  go_wp2_with (go_at_call 48; refine H1.out.mono ?_; rintro e w1 ⟨rfl, hb1⟩)
  go_ret
  exact ⟨rfl, hb1⟩
theorem inNum_c (w : World) : Calls Tryd.prog 35 #[.int .i64 1, .int .i64 1, .int .i64 40] w fun e w' => e = .returned (.bool true) ∧ w = w' := by
  go_enter Tryd.func35, Tryd.ntmps35
  go_wp2
  go_ret
  exact ⟨rfl, rfl⟩
theorem okTerm_c (w : World) (b : Nat) (h : w.heap[b]? = some (.cells #[.int .i64 2, .int .i64 1, .string ⟨#[]⟩] 52 (0, 0))) : Calls Tryd.prog 23 #[.slice (some ⟨b, 0, none⟩) 1 1] w fun e w' => e = .returned (.bool true) ∧ Below w.heap.size w w' := by
  have H1 := Lib.hid (contNum_c w b h)
  have H2 := Lib.hid h
  clear h
  go_enter Tryd.func23, Tryd.ntmps23
  go_wp2_with (first | (go_at_call 35; refine (inNum_c _).mono ?_; rintro e w1 ⟨rfl, rfl⟩) | (go_at_call 36; refine H1.out.mono ?_; rintro e w1 ⟨rfl, hb1⟩; have HB1 := Lib.hid hb1; clear hb1) | (go_at_call 37; refine (sizeNum_c _ _ (box_keep H2.out HB1.out)).mono ?_; rintro e w2 ⟨rfl, hb2⟩))
  go_ret
  exact ⟨rfl, bel_trans HB1.out hb2⟩
theorem caOk_c (w : World) : Calls Tryd.prog 9 #[] w fun e w' => e = .returned (.bool true) ∧ Below w.heap.size w w' := by
  have H1 := Lib.hid (okTerm_c _ _ (heap_alloc_new w (.cells #[.int .i64 2, .int .i64 1, .string ⟨#[]⟩] 52)))
  go_enter Tryd.func9, Tryd.ntmps9
  go_wp2_with (go_at_call 23; refine H1.out.mono ?_; rintro e w1 ⟨rfl, hb1⟩)
  go_ret
  exact ⟨rfl, bel_trans (bel_alloc (Below.refl _ _) _) hb1⟩
end Go.Proofs.YtjnangiggnmkoaaDoor
