/- Lemmas and contracts for FnOutOk, part 10. -/
import Derived.Test.YtjglbadkbhopoaaGreatDoorW09
import Derived.Test.YtjglbadkbhopoaaGreatDoorW08
import Derived.Deep.RegionHeld3
import Derived.Deep.RegionWith
import Derived.BigRegion
import Derived.Test.YtjglbadkbhopoaaGreatDoorW00
import Derived.Test.YtjglbadkbhopoaaGreatDoorW03
namespace Go.Proofs.YtjglbadkbhopoaaGreatDoor
open Go.RowKit
set_option maxRecDepth 100000
set_option maxHeartbeats 8000000
set_option linter.unusedVariables false
theorem O_cell_far {e b : Nat} {w w' : World} {v : Value} {t : Trm} {gc : Nat} (h : Kd.cell.O e w b v t) (hgc : ∀ k, v.ownBlock = some k → k ≠ gc) (hk : ∀ k, k ≠ gc → w'.heap[k]? = w.heap[k]?) : Kd.cell.O e w' b v t :=
  Kd.O_mov (fun k c q f _ hq => by cases hq) (fun k hk' => hk k (hgc k hk')) h
def slen : Value → Nat
  | .slice _ n _ => n
  | _ => 0
theorem term_c {w0 W : World} {g M : Nat} (h : RQ w0 g M W) (hM : M ≤ 800000000) (most vars : Nat) (hm : most ≤ 100) (hv1 : 1 ≤ vars) (hv2 : vars ≤ 1000) :
    Calls Tryz.prog 71 #[.pointer (some ⟨g, 0, none⟩), .int .i64 (most : Int), .int .i64 (vars : Int)] W fun e w' => ∃ v t, e = .returned v ∧ Kd.cell.O 47 w' W.heap.size v t ∧ 1 ≤ t.length ∧ t.length ≤ 100 ∧ (∀ c ∈ t, SmC c) ∧ RQ w0 g (M + 500) w' ∧ DW w0 W w' := by
  have hsz := h.size
  have HO0 := Lib.hid (Kd.O_empty Kd.cell 47 W (Nat.le_refl _))
  have HR0 := Lib.hid (h.ext (bel_alloc (Below.refl _ _) (.cells #[] 47)))
  have HD0 := Lib.hid (Wrote.of_below (e := 92) h.size (bel_alloc (Below.refl _ _) (.cells #[] 47)))
  clear h
  go_enter Tryz.func71, Tryz.ntmps71
  go_wp2
  go_loopw [7, 8] (fun v7 v8 wr => ∃ (L : Trm) (op : Nat) (OA : Option Addr) (oc : Nat), v7 = .slice OA L.length oc ∧ v8 = .int .i64 (op : Int) ∧ 1 ≤ L.length + op ∧ L.length + op ≤ 100 ∧ Hid (Kd.cell.O 47 wr W.heap.size (.slice OA L.length oc) L) ∧ Hid (∀ c ∈ L, SmC c) ∧ Hid (RQ w0 g (M + 5 * L.length) wr) ∧ Hid (DW w0 W wr)) (fun v7 _ _ => 100 - slen v7)
  case atStart => exact ⟨[], 1, _, _, rfl, rfl, by decide, by decide, HO0, Lib.hid (fun c hc => by cases hc), HR0, HD0⟩
  case round =>
    obtain ⟨L, op, OA, oc, rfl, rfl, hp1, hp2, HOr, HLr, HRr, HDr⟩ := hrel
    clear HO0 HR0 HD0
    have hL100 : L.length ≤ 100 := by omega
    by_cases hop : op = 0
    · have f0 : decide ((0 : Int) < (op : Int)) = false := decide_eq_false (by omega)
      go_wp2
      go_ret
      exact ⟨_, L, rfl, HOr.out, by omega, hL100, HLr.out, HRr.out.mono (by omega), HDr.out⟩
    obtain ⟨m, rfl⟩ : ∃ m, op = m + 1 := ⟨op - 1, by omega⟩
    have f0 : decide ((0 : Int) < ((m + 1 : Nat) : Int)) = true := decide_eq_true (by omega)
    go_upto_region 5 with (first | (go_at_call 103; (with_reducible refine (leaf_c HRr.out (by omega) vars hv1 hv2).mono ?_); rintro e w1 ⟨⟨ck, cn, cs⟩, rfl, hc, hc0, hR, hw⟩; have HC1 := Lib.hid hc; have HC0 := Lib.hid hc0; have HO1 := Lib.hid (hw.O HOr.out (by decide)); have HNe := Lib.hid (show ∀ k, (Value.slice OA L.length oc).ownBlock = some k → k ≠ w1.heap.size from fun k hk => by have := (Kd.O_lt HO1.out k hk).2; omega); have HO2 := Lib.hid (Kd.O_alloc (.cells #[.int .i64 ck, .int .i64 cn, .string cs] 47) HO1.out); have HR2 := Lib.hid (hR.ext (bel_alloc (Below.refl _ _) (.cells #[.int .i64 ck, .int .i64 cn, .string cs] 47))); have HD2 := Lib.hid (DW.ext (HDr.out.trans hw) (bel_alloc (Below.refl _ _) (.cells #[.int .i64 ck, .int .i64 cn, .string cs] 47)) hsz); have HX2 := Lib.hid (Bx.new w1 47 #[.int .i64 ck, .int .i64 cn, .string cs]); have hz1 : w0.heap.size ≤ w1.heap.size := hR.size; have hzW : W.heap.size ≤ w1.heap.size := Nat.le_trans HDr.out.bel.size hw.bel.size; clear hc hc0 hR hw) | fail)
    generalize w1.alloc (.cells #[.int .i64 ck, .int .i64 cn, .string cs] 47) = w2 at *
    have x2_0 := Bx.at' HX2.out 0 (.int .i64 ck) rfl
    have x2_1 := Bx.at' HX2.out 1 (.int .i64 cn) rfl
    have x2_2 := Bx.at' HX2.out 2 (.string cs) rfl
    by_cases hlt : L.length + (m + 1) + 3 < most
    · have f1 : decide ((L.length : Int) + ((m + 1 : Nat) : Int) + 3 < (most : Int)) = true := decide_eq_true (by omega)
      go_upto_region 7 with (first | (go_at_call_of 34 (Value.int .i64 3); refine (rq_pick HR2.out (by omega) _ (by omega) (by omega)).mono ?_; rintro e wp3 ⟨v, rfl, hv, hR, hw⟩; obtain ⟨hv0, hv1, -⟩ := hv; have hv2 := hv1 (by omega); obtain ⟨i3, rfl⟩ : ∃ i : Nat, v = i := ⟨v.toNat, by omega⟩; have hi3 : i3 < 3 := (by omega); have HR3 := Lib.hid hR; have HW3 := Lib.hid hw; have HO3 := Lib.hid (hw.O HO2.out (by decide)); have HX3 := Lib.hid (Bx.but HX2.out hw.but (by decide)); have HD3 := Lib.hid (HD2.out.trans hw); have x3_0 := Bx.at' HX3.out 0 (.int .i64 ck) rfl; have x3_1 := Bx.at' HX3.out 1 (.int .i64 cn) rfl; have x3_2 := Bx.at' HX3.out 2 (.string cs) rfl; clear hv0 hv1 hv2 hR hw) | (go_at_call_of 34 (Value.int .i64 4); refine (rq_pick (HR4.out.ext (bel_alloc (Below.refl _ _) _)) (by omega) _ (by omega) (by omega)).mono ?_; rintro e wp5 ⟨v, rfl, hv, hR, hw⟩; obtain ⟨hv0, hv1, -⟩ := hv; have hv2 := hv1 (by omega); obtain ⟨i5, rfl⟩ : ∃ i : Nat, v = i := ⟨v.toNat, by omega⟩; have hi5 : i5 < 4 := (by omega); have HR5 := Lib.hid hR; have HW5 := Lib.hid hw; obtain ⟨xi5, hxi5, hxbi5⟩ := strs_lit [⟨#[102]⟩, ⟨#[103]⟩, ⟨#[99]⟩, ⟨#[115]⟩] (by decide) i5 (by simpa using hi5); have hci5 := (Bx.cell (Bx.but (Bx.new _ 9 #[.string ⟨#[102]⟩, .string ⟨#[103]⟩, .string ⟨#[99]⟩, .string ⟨#[115]⟩]) hw.but (by decide)) i5).trans hxi5; have HO5 := Lib.hid (hw.O (Kd.O_alloc _ HO4.out) (by decide)); have HX5 := Lib.hid (Bx.but (Bx.alloc HX4.out _) hw.but (by decide)); have HD5 := Lib.hid ((DW.ext HD4.out (bel_alloc (Below.refl _ _) _) hsz).trans hw); obtain ⟨m0, m1, m2, m3, m4, m5, HE⟩ := put_3 HX5.out (.int .i64 3) (.int .i64 (1 + (i4 : Int))) (.string xi5); have HO6 := Lib.hid (O_cell_far HO5.out HNe.out HE.out.2.2.1); have HX6 := Lib.hid HE.out.1; have HD6 := Lib.hid (DW.own HD5.out (HE.out.2.2.2 W.heap.size _ hzW (Below.refl _ _)) hsz); have HR6 := Lib.hid (HR5.out.wrote (b := w0.heap.size) ⟨HE.out.2.2.2 w0.heap.size _ hz1 (Below.refl _ _), HE.out.2.1⟩ (Nat.le_refl _) (by decide)); clear hv0 hv1 hv2 hR hw) | (go_at_call_of 34 (Value.int .i64 3); refine (rq_pick HR3.out (by omega) _ (by omega) (by omega)).mono ?_; rintro e wp4 ⟨v, rfl, hv, hR, hw⟩; obtain ⟨hv0, hv1, -⟩ := hv; have hv2 := hv1 (by omega); obtain ⟨i4, rfl⟩ : ∃ i : Nat, v = i := ⟨v.toNat, by omega⟩; have hi4 : i4 < 3 := (by omega); have HR4 := Lib.hid hR; have HW4 := Lib.hid hw; have HO4 := Lib.hid (hw.O HO3.out (by decide)); have HX4 := Lib.hid (Bx.but HX3.out hw.but (by decide)); have HD4 := Lib.hid (HD3.out.trans hw); have x4_0 := Bx.at' HX4.out 0 (.int .i64 ck) rfl; have x4_1 := Bx.at' HX4.out 1 (.int .i64 cn) rfl; have x4_2 := Bx.at' HX4.out 2 (.string cs) rfl; clear hv0 hv1 hv2 hR hw) | fail)
      · clear HE HX2 HX3 HX4 HX5 HO2 HO3 HO4 HO5
        generalize ((wp5.setCell ⟨w1.heap.size, 0, none⟩ (.int .i64 3)).setCell ⟨w1.heap.size, 1, none⟩ (.int .i64 (1 + (i4 : Int)))).setCell ⟨w1.heap.size, 2, none⟩ (.string xi5) = w6 at *
        have y6_0 := Bx.at' HX6.out 0 (.int .i64 3) rfl
        have y6_1 := Bx.at' HX6.out 1 (.int .i64 (1 + (i4 : Int))) rfl
        have y6_2 := Bx.at' HX6.out 2 (.string xi5) rfl
        go_wp2_with (first | (at_builtin; refine wp_app AppI.cell rfl rfl (Kd.O_alloc _ HO6.out) rfl (Kd.S_lit Kd.cell _ (x := (⟨3, 1 + (i4 : Int), xi5⟩ : Cell)) (cs := [.int .i64 3, .int .i64 (1 + (i4 : Int)), .string xi5]) rfl rfl) rfl (by simp only [List.length_singleton]; omega) (Nat.le_trans HD6.out.bel.size (bel_alloc (Below.refl _ _) _).size) ?_; intro v9 w9 hg; have hwg := Wrote.grew hg (Kd.O_alloc _ HO6.out) (Nat.le_trans HD6.out.bel.size (bel_alloc (Below.refl _ _) _).size); have hO9 := hg.own; obtain ⟨L2, hL2⟩ : ∃ L2, L ++ [(⟨3, 1 + (i4 : Int), xi5⟩ : Cell)] = L2 := ⟨_, rfl⟩; rw [hL2] at hO9; have HO9 := Lib.hid hO9; have HL2 := Lib.hid hL2; obtain ⟨OB, od, rfl, -, -, -⟩ := Kd.O_read hO9; have HR9 := Lib.hid ((HR6.out.ext (bel_alloc (Below.refl _ _) _)).wrote hwg hsz (by decide)); have HD9 := Lib.hid (DW.own (DW.ext HD6.out (bel_alloc (Below.refl _ _) _) hsz) hwg.bel hsz); clear hg hwg hO9 hL2) | fail)
        have hl2 : L2.length = L.length + 1 := by rw [← HL2.out, List.length_append, List.length_singleton]
        exact ⟨⟨L2, (m + 1 + i4), OB, od, rfl, by go_num, by omega, by omega, HO9, Lib.hid (fun d hd => by
          rw [← HL2.out, List.mem_append, List.mem_singleton] at hd
          rcases hd with hd | rfl
          · exact HLr.out d hd
          · exact ⟨⟨by show -1000000 ≤ 1 + (i4 : Int); omega, by show 1 + (i4 : Int) ≤ 1000000; omega⟩, hxbi5⟩), Lib.hid (HR9.out.mono (by omega)), HD9⟩, by simp only [slen]; omega⟩
      · clear HX2 HO2
        by_cases hk3 : ck = 3
        · obtain rfl : cn = 0 := HC0.out hk3
          subst hk3
          have y3_0 := Bx.at' HX3.out 0 (.int .i64 3) rfl
          have y3_1 := Bx.at' HX3.out 1 (.int .i64 0) rfl
          have y3_2 := Bx.at' HX3.out 2 (.string cs) rfl
          go_wp2_with (first | (at_builtin; refine wp_app AppI.cell rfl rfl (Kd.O_alloc _ HO3.out) rfl (Kd.S_lit Kd.cell _ (x := (⟨3, 0, cs⟩ : Cell)) (cs := [.int .i64 3, .int .i64 0, .string cs]) rfl rfl) rfl (by simp only [List.length_singleton]; omega) (Nat.le_trans HD3.out.bel.size (bel_alloc (Below.refl _ _) _).size) ?_; intro v9 w9 hg; have hwg := Wrote.grew hg (Kd.O_alloc _ HO3.out) (Nat.le_trans HD3.out.bel.size (bel_alloc (Below.refl _ _) _).size); have hO9 := hg.own; obtain ⟨L2, hL2⟩ : ∃ L2, L ++ [(⟨3, 0, cs⟩ : Cell)] = L2 := ⟨_, rfl⟩; rw [hL2] at hO9; have HO9 := Lib.hid hO9; have HL2 := Lib.hid hL2; obtain ⟨OB, od, rfl, -, -, -⟩ := Kd.O_read hO9; have HR9 := Lib.hid ((HR3.out.ext (bel_alloc (Below.refl _ _) _)).wrote hwg hsz (by decide)); have HD9 := Lib.hid (DW.own (DW.ext HD3.out (bel_alloc (Below.refl _ _) _) hsz) hwg.bel hsz); clear hg hwg hO9 hL2) | fail)
          have hl2 : L2.length = L.length + 1 := by rw [← HL2.out, List.length_append, List.length_singleton]
          exact ⟨⟨L2, m, OB, od, rfl, by go_num, by omega, by omega, HO9, Lib.hid (fun d hd => by
            rw [← HL2.out, List.mem_append, List.mem_singleton] at hd
            rcases hd with hd | rfl
            · exact HLr.out d hd
            · exact HC1.out), Lib.hid (HR9.out.mono (by omega)), HD9⟩, by simp only [slen]; omega⟩
        · have f8 : (ck == 3) = false := beq_eq_false_iff_ne.2 hk3
          clear hk3
          have y3_0 := Bx.at' HX3.out 0 (.int .i64 ck) rfl
          have y3_1 := Bx.at' HX3.out 1 (.int .i64 cn) rfl
          have y3_2 := Bx.at' HX3.out 2 (.string cs) rfl
          go_wp2_with (first | (at_builtin; refine wp_app AppI.cell rfl rfl (Kd.O_alloc _ HO3.out) rfl (Kd.S_lit Kd.cell _ (x := (⟨ck, cn, cs⟩ : Cell)) (cs := [.int .i64 ck, .int .i64 cn, .string cs]) rfl rfl) rfl (by simp only [List.length_singleton]; omega) (Nat.le_trans HD3.out.bel.size (bel_alloc (Below.refl _ _) _).size) ?_; intro v9 w9 hg; have hwg := Wrote.grew hg (Kd.O_alloc _ HO3.out) (Nat.le_trans HD3.out.bel.size (bel_alloc (Below.refl _ _) _).size); have hO9 := hg.own; obtain ⟨L2, hL2⟩ : ∃ L2, L ++ [(⟨ck, cn, cs⟩ : Cell)] = L2 := ⟨_, rfl⟩; rw [hL2] at hO9; have HO9 := Lib.hid hO9; have HL2 := Lib.hid hL2; obtain ⟨OB, od, rfl, -, -, -⟩ := Kd.O_read hO9; have HR9 := Lib.hid ((HR3.out.ext (bel_alloc (Below.refl _ _) _)).wrote hwg hsz (by decide)); have HD9 := Lib.hid (DW.own (DW.ext HD3.out (bel_alloc (Below.refl _ _) _) hsz) hwg.bel hsz); clear hg hwg hO9 hL2) | fail)
          have hl2 : L2.length = L.length + 1 := by rw [← HL2.out, List.length_append, List.length_singleton]
          exact ⟨⟨L2, m, OB, od, rfl, by go_num, by omega, by omega, HO9, Lib.hid (fun d hd => by
            rw [← HL2.out, List.mem_append, List.mem_singleton] at hd
            rcases hd with hd | rfl
            · exact HLr.out d hd
            · exact HC1.out), Lib.hid (HR9.out.mono (by omega)), HD9⟩, by simp only [slen]; omega⟩
    · have f1 : decide ((L.length : Int) + ((m + 1 : Nat) : Int) + 3 < (most : Int)) = false := decide_eq_false (by omega)
      go_upto_region 7 with (fail)
      by_cases hk3 : ck = 3
      · obtain rfl : cn = 0 := HC0.out hk3
        subst hk3
        have y2_0 := Bx.at' HX2.out 0 (.int .i64 3) rfl
        have y2_1 := Bx.at' HX2.out 1 (.int .i64 0) rfl
        have y2_2 := Bx.at' HX2.out 2 (.string cs) rfl
        go_wp2_with (first | (at_builtin; refine wp_app AppI.cell rfl rfl (Kd.O_alloc _ HO2.out) rfl (Kd.S_lit Kd.cell _ (x := (⟨3, 0, cs⟩ : Cell)) (cs := [.int .i64 3, .int .i64 0, .string cs]) rfl rfl) rfl (by simp only [List.length_singleton]; omega) (Nat.le_trans HD2.out.bel.size (bel_alloc (Below.refl _ _) _).size) ?_; intro v9 w9 hg; have hwg := Wrote.grew hg (Kd.O_alloc _ HO2.out) (Nat.le_trans HD2.out.bel.size (bel_alloc (Below.refl _ _) _).size); have hO9 := hg.own; obtain ⟨L2, hL2⟩ : ∃ L2, L ++ [(⟨3, 0, cs⟩ : Cell)] = L2 := ⟨_, rfl⟩; rw [hL2] at hO9; have HO9 := Lib.hid hO9; have HL2 := Lib.hid hL2; obtain ⟨OB, od, rfl, -, -, -⟩ := Kd.O_read hO9; have HR9 := Lib.hid ((HR2.out.ext (bel_alloc (Below.refl _ _) _)).wrote hwg hsz (by decide)); have HD9 := Lib.hid (DW.own (DW.ext HD2.out (bel_alloc (Below.refl _ _) _) hsz) hwg.bel hsz); clear hg hwg hO9 hL2) | fail)
        have hl2 : L2.length = L.length + 1 := by rw [← HL2.out, List.length_append, List.length_singleton]
        exact ⟨⟨L2, m, OB, od, rfl, by go_num, by omega, by omega, HO9, Lib.hid (fun d hd => by
          rw [← HL2.out, List.mem_append, List.mem_singleton] at hd
          rcases hd with hd | rfl
          · exact HLr.out d hd
          · exact HC1.out), Lib.hid (HR9.out.mono (by omega)), HD9⟩, by simp only [slen]; omega⟩
      · have f8 : (ck == 3) = false := beq_eq_false_iff_ne.2 hk3
        clear hk3
        have y2_0 := Bx.at' HX2.out 0 (.int .i64 ck) rfl
        have y2_1 := Bx.at' HX2.out 1 (.int .i64 cn) rfl
        have y2_2 := Bx.at' HX2.out 2 (.string cs) rfl
        go_wp2_with (first | (at_builtin; refine wp_app AppI.cell rfl rfl (Kd.O_alloc _ HO2.out) rfl (Kd.S_lit Kd.cell _ (x := (⟨ck, cn, cs⟩ : Cell)) (cs := [.int .i64 ck, .int .i64 cn, .string cs]) rfl rfl) rfl (by simp only [List.length_singleton]; omega) (Nat.le_trans HD2.out.bel.size (bel_alloc (Below.refl _ _) _).size) ?_; intro v9 w9 hg; have hwg := Wrote.grew hg (Kd.O_alloc _ HO2.out) (Nat.le_trans HD2.out.bel.size (bel_alloc (Below.refl _ _) _).size); have hO9 := hg.own; obtain ⟨L2, hL2⟩ : ∃ L2, L ++ [(⟨ck, cn, cs⟩ : Cell)] = L2 := ⟨_, rfl⟩; rw [hL2] at hO9; have HO9 := Lib.hid hO9; have HL2 := Lib.hid hL2; obtain ⟨OB, od, rfl, -, -, -⟩ := Kd.O_read hO9; have HR9 := Lib.hid ((HR2.out.ext (bel_alloc (Below.refl _ _) _)).wrote hwg hsz (by decide)); have HD9 := Lib.hid (DW.own (DW.ext HD2.out (bel_alloc (Below.refl _ _) _) hsz) hwg.bel hsz); clear hg hwg hO9 hL2) | fail)
        have hl2 : L2.length = L.length + 1 := by rw [← HL2.out, List.length_append, List.length_singleton]
        exact ⟨⟨L2, m, OB, od, rfl, by go_num, by omega, by omega, HO9, Lib.hid (fun d hd => by
          rw [← HL2.out, List.mem_append, List.mem_singleton] at hd
          rcases hd with hd | rfl
          · exact HLr.out d hd
          · exact HC1.out), Lib.hid (HR9.out.mono (by omega)), HD9⟩, by simp only [slen]; omega⟩
end Go.Proofs.YtjglbadkbhopoaaGreatDoor
namespace Go.Proofs.YtjglbadkbhopoaaGreatDoor
open Go.RowKit
set_option maxRecDepth 100000
set_option maxHeartbeats 8000000
set_option linter.unusedVariables false
theorem cell_put1 {base g n cap : Nat} {w : World} {D : Trm} (h : Kd.cell.O 47 w base (.slice (some ⟨g, 0, none⟩) n cap) D) {k : Nat} {c : Cell} (hk : D[k]? = some c) :
    base ≤ g ∧ w.cell? ⟨g, k * 3, none⟩ = some (.int .i64 c.k) ∧ w.cell? ⟨g, k * 3 + 1, none⟩ = some (.int .i64 c.n) ∧ w.cell? ⟨g, k * 3 + 2, none⟩ = some (.string c.s) ∧ (∀ j, j < 3 → w.frozen? ⟨g, k * 3 + j, none⟩ = false) ∧
      ∀ j, j < 3 → ∀ u c', u.oneCell' = true → (∀ cs, Kd.cell.K w c cs → Kd.cell.K w c' (cs.set j u)) → Kd.cell.O 47 (w.setCell ⟨g, k * 3 + j, none⟩ u) base (.slice (some ⟨g, 0, none⟩) n cap) (D.set k c') := by
  have hS := Kd.O_read h
  obtain ⟨ad, cap', hv, hb, hf, hp⟩ := Kd.O_put h (fun q hq => by simp [Kd.cell] at hq) hk
  obtain ⟨A, c', ev, _, _, hC⟩ := hS
  obtain ⟨ad', ea, h1, h2, h3⟩ := cell_at hC hk
  injection hv with e1 _ _
  injection e1 with e1
  subst e1
  injection ev with e2 _ _
  rw [← e2] at ea
  injection ea with ea
  subst ea
  have ea : ∀ j, (⟨((⟨g, 0, none⟩ : Addr).add (k * 3)).block, ((⟨g, 0, none⟩ : Addr).add (k * 3)).off + j, none⟩ : Addr) = ⟨g, k * 3 + j, none⟩ := fun j => by unfold Addr.add; split <;> simp_all
  have ea0 : (⟨g, 0, none⟩ : Addr).add (k * 3) = ⟨g, k * 3, none⟩ := by unfold Addr.add; split <;> simp_all
  rw [ea0] at h1
  rw [ea] at h2 h3
  refine ⟨hb, h1, h2, h3, fun j hj => by have := hf j hj; rwa [show Kd.cell.sz = 3 from rfl, ea] at this, fun j hj u x' hu hK => ?_⟩
  have := (hp j hj u x' hu hK).1
  rwa [show Kd.cell.sz = 3 from rfl, ea] at this
theorem cell_put3 {base g n cap : Nat} {w : World} {D : Trm} (h : Kd.cell.O 47 w base (.slice (some ⟨g, 0, none⟩) n cap) D) {k : Nat} {c : Cell} (hk : D[k]? = some c) (c' : Cell) :
    w.cell? ⟨g, k * 3, none⟩ = some (.int .i64 c.k) ∧ w.frozen? ⟨g, k * 3, none⟩ = false ∧
    (w.setCell ⟨g, k * 3, none⟩ (.int .i64 c'.k)).cell? ⟨g, k * 3 + 1, none⟩ = some (.int .i64 c.n) ∧ (w.setCell ⟨g, k * 3, none⟩ (.int .i64 c'.k)).frozen? ⟨g, k * 3 + 1, none⟩ = false ∧
    ((w.setCell ⟨g, k * 3, none⟩ (.int .i64 c'.k)).setCell ⟨g, k * 3 + 1, none⟩ (.int .i64 c'.n)).cell? ⟨g, k * 3 + 2, none⟩ = some (.string c.s) ∧ ((w.setCell ⟨g, k * 3, none⟩ (.int .i64 c'.k)).setCell ⟨g, k * 3 + 1, none⟩ (.int .i64 c'.n)).frozen? ⟨g, k * 3 + 2, none⟩ = false ∧
    Hid (Kd.cell.O 47 (((w.setCell ⟨g, k * 3, none⟩ (.int .i64 c'.k)).setCell ⟨g, k * 3 + 1, none⟩ (.int .i64 c'.n)).setCell ⟨g, k * 3 + 2, none⟩ (.string c'.s)) base (.slice (some ⟨g, 0, none⟩) n cap) (D.set k c') ∧
      Below base w (((w.setCell ⟨g, k * 3, none⟩ (.int .i64 c'.k)).setCell ⟨g, k * 3 + 1, none⟩ (.int .i64 c'.n)).setCell ⟨g, k * 3 + 2, none⟩ (.string c'.s))) := by
  have hil := (List.getElem?_eq_some_iff.1 hk).1
  obtain ⟨hb, a0, -, -, f0, p0⟩ := cell_put1 h hk
  have q0 := p0 0 (by decide) (.int .i64 c'.k) ⟨c'.k, c.n, c.s⟩ rfl (fun cs hcs => by obtain rfl : cs = [.int .i64 c.k, .int .i64 c.n, .string c.s] := hcs; rfl)
  rw [Nat.add_zero] at q0
  obtain ⟨-, -, a1, -, f1, p1⟩ := cell_put1 q0 (k := k) (c := ⟨c'.k, c.n, c.s⟩) (List.getElem?_set_self hil)
  have q1 := p1 1 (by decide) (.int .i64 c'.n) ⟨c'.k, c'.n, c.s⟩ rfl (fun cs hcs => by obtain rfl : cs = [.int .i64 c'.k, .int .i64 c.n, .string c.s] := hcs; rfl)
  rw [List.set_set] at q1
  obtain ⟨-, -, -, a2, f2, p2⟩ := cell_put1 q1 (k := k) (c := ⟨c'.k, c'.n, c.s⟩) (List.getElem?_set_self hil)
  have q2 := p2 2 (by decide) (.string c'.s) c' rfl (fun cs hcs => by obtain rfl : cs = [.int .i64 c'.k, .int .i64 c'.n, .string c.s] := hcs; rfl)
  rw [List.set_set] at q2
  have g0 := f0 0 (by decide)
  rw [Nat.add_zero] at g0
  exact ⟨a0, g0, a1, f1 1 (by decide), a2, f2 2 (by decide), Lib.hid ⟨q2, (((Below.refl _ _).setCell hb _).setCell hb _).setCell hb _⟩⟩
def z0 : Cell := ⟨0, 0, ⟨#[]⟩⟩
theorem O_shape {e b : Nat} {w : World} {v : Value} {t : Trm} (h : Kd.cell.O e w b v t) (hl : 1 ≤ t.length) : ∃ g cap, v = .slice (some ⟨g, 0, none⟩) t.length cap := by
  obtain ⟨cs, ⟨h0, h1⟩, h2⟩ := h
  rcases h1 with ⟨rfl, hn⟩ | ⟨g, cap, cur, rfl, _⟩
  · omega
  · exact ⟨g, cap, rfl⟩
theorem sets_mem {P : Cell → Prop} {t : Trm} (h : ∀ c ∈ t, P c) (k : Nat) {c : Cell} (hc : P c) : ∀ x ∈ t.set k c, P x := fun x hx => by
  rcases List.mem_or_eq_of_mem_set hx with h1 | rfl
  · exact h x h1
  · exact hc
def SpP (w0 W : World) (g M : Nat) (e : Ending) (w' : World) : Prop := ∃ v x, e = .returned v ∧ Kd.cell.S 47 w' v x ∧ x.length ≤ 1000 ∧ (∀ c ∈ x, c.s.size ≤ 100) ∧ RQ w0 g M w' ∧ DW w0 W w'
theorem own_put {b gx n cap : Nat} {w : World} {t : Trm} (h : Kd.cell.O 47 w b (.slice (some ⟨gx, 0, none⟩) n cap) t) (hb : b ≤ gx) (j : Nat) (u : Value) : Wrote b 47 w (w.setCell ⟨gx, j, none⟩ u) := by
  obtain ⟨c, hc⟩ := Kd.O_typed h gx rfl
  exact ⟨(Below.refl _ _).setCell hb _, bx_but hc⟩
theorem own_put3 {b gx n cap : Nat} {w : World} {t : Trm} (h : Kd.cell.O 47 w b (.slice (some ⟨gx, 0, none⟩) n cap) t) (hb : b ≤ gx) (j0 j1 j2 : Nat) (u0 u1 u2 : Value) : Wrote b 47 w (((w.setCell ⟨gx, j0, none⟩ u0).setCell ⟨gx, j1, none⟩ u1).setCell ⟨gx, j2, none⟩ u2) := by
  obtain ⟨c, hc⟩ := Kd.O_typed h gx rfl
  have r1 := Bx.put hc j0 u0
  have r2 := Bx.put r1 j1 u1
  exact ⟨(((Below.refl _ _).setCell hb _).setCell hb _).setCell hb _, ((bx_but hc).trans (bx_but r1)).trans (bx_but r2)⟩
theorem spo_fin {w0 W W1 : World} {g M M' gx cap i : Nat} {t : Trm} {c : Cell} (hO : Kd.cell.O 47 W1 W.heap.size (.slice (some ⟨gx, 0, none⟩) t.length cap) t) (hc : t[i]? = some c) (hgx : W.heap.size ≤ gx) (hR : RQ w0 g M W1) (hD : DW w0 W W1) (hsz : w0.heap.size ≤ W.heap.size) (hs : ∀ c ∈ t, SmC c) (hl : t.length ≤ 100) (j : Nat) (hj : j < 3) (u : Value) (c' : Cell) (h1 : u.oneCell' = true) (hK : ∀ cs, Kd.cell.K W1 c cs → Kd.cell.K W1 c' (cs.set j u)) (hc' : c'.s.size ≤ 100) (hM : M ≤ M') :
    SpP w0 W g M' (.returned (.slice (some ⟨gx, 0, none⟩) t.length cap)) (W1.setCell ⟨gx, i * 3 + j, none⟩ u) := by
  have hw := own_put hO hgx (i * 3 + j) u
  have hp := (cell_put1 hO hc).2.2.2.2.2 j hj u c' h1 hK
  exact ⟨_, _, rfl, Kd.O_read hp, by rw [List.length_set]; omega, sets_mem (fun d hd => (hs d hd).2) i hc', (hR.wrote hw hsz (by decide)).mono hM, DW.own hD hw.bel hsz⟩
theorem spoil_c {w0 W : World} {g M : Nat} (h : RQ w0 g M W) (hM : M ≤ 700000000) (t : Trm) (tv : Value) (ht : Kd.cell.S 47 W tv t) (hl1 : 1 ≤ t.length) (hl2 : t.length ≤ 100) (hs : ∀ c ∈ t, SmC c) :
    Calls Tryz.prog 72 #[.pointer (some ⟨g, 0, none⟩), tv] W (SpP w0 W g (M + 3)) := by
  have hsz := h.size
  have HT := Lib.hid ht
  have HS := Lib.hid hs
  have HO0 := Lib.hid (Kd.O_empty Kd.cell 47 W (Nat.le_refl _))
  have HR0 := Lib.hid h
  obtain ⟨TA, tn, rfl, -, -, -⟩ := ht
  clear h hs
  go_enter Tryz.func72, Tryz.ntmps72
  go_upto_region 5 with (first | (at_builtin; refine wp_app AppI.cell rfl rfl HO0.out rfl (Kd.S_alloc _ HT.out) rfl (by simp; omega) (bel_alloc (Below.refl _ _) _).size ?_; intro v1 w1 hg; have hb := hg.below (bel_alloc (Below.refl _ W) _) HO0.out; have hown := hg.own; rw [List.nil_append] at hown; have HO1 := Lib.hid hown; obtain ⟨gx, cap, rfl⟩ := O_shape hown hl1; have HR1 := Lib.hid (HR0.out.ext hb); have HD1 := Lib.hid (Wrote.of_below (e := 92) hsz hb); clear hg hb hown) | (go_at_call_of 34 (Value.int .i64 7); refine (rq_pick HR2.out (by omega) _ (by omega) (by omega)).mono ?_; rintro e wp3 ⟨v, rfl, hv, hR, hw⟩; obtain ⟨hv0, hv1, -⟩ := hv; have hv2 := hv1 (by omega); obtain ⟨j, rfl⟩ : ∃ i : Nat, v = i := ⟨v.toNat, by omega⟩; have hj : j < 7 := (by omega); have HR3 := Lib.hid hR; have HW3 := Lib.hid hw; have HO3 := Lib.hid (hw.O HO2.out (by decide)); have HD3 := Lib.hid (HD2.out.trans hw); clear hv0 hv1 hv2 hR hw) | (go_at_call_of 34 (Value.int .i64 (t.length : Int)); refine (rq_pick HR1.out (by omega) _ (by omega) (by omega)).mono ?_; rintro e wp2 ⟨v, rfl, hv, hR, hw⟩; obtain ⟨hv0, hv1, -⟩ := hv; have hv2 := hv1 (by omega); obtain ⟨i, rfl⟩ : ∃ i : Nat, v = i := ⟨v.toNat, by omega⟩; have hi : i < t.length := (by omega); have HR2 := Lib.hid hR; have HW2 := Lib.hid hw; have HO2 := Lib.hid (hw.O HO1.out (by decide)); have HD2 := Lib.hid (HD1.out.trans hw); clear hv0 hv1 hv2 hR hw) | fail)
  clear HO0 HR0 HO1 HR1 HD1 HO2 HR2 HD2 HW2 HW3
  obtain ⟨c, hc⟩ : ∃ c, t[i]? = some c := ⟨_, List.getElem?_eq_getElem hi⟩
  have hcs := HS.out c (List.mem_of_getElem? hc)
  have HP := Lib.hid (fun (W' : World) (hO : Kd.cell.O 47 W' W.heap.size (.slice (some ⟨gx, 0, none⟩) t.length cap) t) => cell_put1 hO hc)
  have HP3 := Lib.hid (fun (W' : World) (hO : Kd.cell.O 47 W' W.heap.size (.slice (some ⟨gx, 0, none⟩) t.length cap) t) c' => cell_put3 hO hc c')
  have hgx : W.heap.size ≤ gx := (HP.out _ HO3.out).1
  have hjs : (j : Int) = 0 ∨ (j : Int) = 1 ∨ (j : Int) = 2 ∨ (j : Int) = 3 ∨ (j : Int) = 4 ∨ (j : Int) = 5 ∨ (j : Int) = 6 := by omega
  have hcI := Lib.hid hc
  clear hj hc
  generalize (j : Int) = jz at *
  rcases hjs with rfl | rfl | rfl | rfl | rfl | rfl | rfl
  · go_wp2_with (first | (refine wp_sub_h AppI.cell rfl rfl (Kd.O_read HO3.out) rfl rfl (by omega) (by omega) ?_; intro v4 hv4; have HV4 := Lib.hid hv4; clear hv4) | fail)
    go_ret
    exact ⟨_, _, rfl, HV4.out, by rw [List.length_take]; omega, fun c hc => (HS.out c (List.mem_of_mem_take hc)).2, HR3.out.mono (by omega), HD3.out⟩
  · obtain ⟨-, z0, z1, z2, -, -⟩ := HP.out _ HO3.out
    go_wp2_with (first | (at_builtin; refine wp_app AppI.cell rfl rfl (Kd.O_alloc _ HO3.out) rfl (Kd.S_lit Kd.cell _ (x := c) (cs := [.int .i64 c.k, .int .i64 c.n, .string c.s]) rfl rfl) rfl (by simp only [List.length_singleton]; omega) (Nat.le_trans HD3.out.bel.size (bel_alloc (Below.refl _ _) _).size) ?_; intro v9 w9 hg; have hwg := Wrote.grew hg (Kd.O_alloc _ HO3.out) (Nat.le_trans HD3.out.bel.size (bel_alloc (Below.refl _ _) _).size); have HO9 := Lib.hid (Kd.O_read hg.own); have HR9 := Lib.hid ((HR3.out.ext (bel_alloc (Below.refl _ _) _)).wrote hwg hsz (by decide)); have HD9 := Lib.hid (DW.own (DW.ext HD3.out (bel_alloc (Below.refl _ _) _) hsz) hwg.bel hsz); clear hg hwg) | fail)
    go_ret
    exact ⟨_, _, rfl, HO9.out, by rw [List.length_append, List.length_singleton]; omega, fun d hd => by
      rw [List.mem_append, List.mem_singleton] at hd
      rcases hd with hd | rfl
      · exact (HS.out d hd).2
      · exact hcs.2, HR9.out.mono (by omega), HD9.out⟩
  · go_upto_region 10 with (fail)
    have HOd := Lib.hid (Kd.O_ext (bel_drew (Below.refl _ wp3)) HO3.out)
    have HRd := Lib.hid (HR3.out.ext (bel_drew (Below.refl _ wp3)))
    have HDd := Lib.hid (DW.ext HD3.out (bel_drew (Below.refl _ wp3)) hsz)
    clear HO3 HR3 HD3
    obtain ⟨-, -, z1, -, zf, -⟩ := HP.out _ HOd.out
    have zf1 := zf 1 (by decide)
    have hiI : (i : Int) < (t.length : Int) := by omega
    have hi0 : (0 : Int) ≤ (i : Int) := by omega
    have z2 : ∀ o, (wp3.alloc o).cell? ⟨gx, i * 3 + 1, none⟩ = some (.int .i64 c.n) := fun o => (HP.out _ (Kd.O_alloc o HOd.out)).2.2.1
    have zne : gx ≠ wp3.drew.heap.size := by have := World.block_lt_of_cell? _ _ z1; show gx ≠ _; have h2 : gx < wp3.drew.heap.size := this; omega
    have zne' : wp3.heap.size ≠ gx := fun e => zne e.symm
    have zne2 : wp3.drew.heap.size ≠ gx := fun e => zne e.symm
    clear zf
    go_region_with (first | (go_at_call_of 34 (Value.int .i64 4); refine (rq_pick (HRd.out.ext (bel_alloc (Below.refl _ _) _)) (by omega) _ (by omega) (by omega)).mono ?_; rintro e we ⟨v, rfl, hv, hR, hw⟩; obtain ⟨hv0, hv1, -⟩ := hv; have hv2 := hv1 (by omega); obtain ⟨y, rfl⟩ : ∃ i : Nat, v = i := ⟨v.toNat, by omega⟩; have hy : y < 4 := (by omega); have hyI : (y : Int) < 4 := (by omega); have hy0 : (0 : Int) ≤ (y : Int) := (by omega); have HRe := Lib.hid hR; obtain ⟨xy, hxy, hxb⟩ := ints_lit [1, -1, 99999, -99999] (by decide) y (by simpa using hy); have hwr : IntKind.i64.wrap (c.n + xy) = c.n + xy := IntWalk.i64_in _ (by have := hcs.1; omega); have hcy : we.cell? ⟨wp3.heap.size, y, none⟩ = some (.int .i64 xy) := (Bx.cell (Bx.but (Bx.new _ 3 #[.int .i64 1, .int .i64 (-1), .int .i64 99999, .int .i64 (-99999)]) hw.but (by decide)) y).trans hxy; have HOe := Lib.hid (hw.O (Kd.O_alloc _ HOd.out) (by decide)); have HDe := Lib.hid ((DW.ext HDd.out (bel_alloc (Below.refl _ _) _) hsz).trans hw); obtain ⟨-, -, q1, -, qf, -⟩ := HP.out _ HOe.out; have s1 := q1; have sne : we.heap.size ≠ gx := Nat.ne_of_gt (World.block_lt_of_cell? _ _ q1); have f1 := qf 1 (by decide); have f2 : ∀ o, (we.alloc o).frozen? ⟨gx, i * 3 + 1, none⟩ = false := fun o => (HP.out _ (Kd.O_alloc o HOe.out)).2.2.2.2.1 1 (by decide); have s2 : ∀ o, (we.alloc o).cell? ⟨gx, i * 3 + 1, none⟩ = some (.int .i64 c.n) := fun o => (HP.out _ (Kd.O_alloc o HOe.out)).2.2.1; clear q1 qf; clear hv0 hv1 hv2 hR hw) | (go_at_call_of 34 (Value.int .i64 4); refine (rq_pick (HRd.out) (by omega) _ (by omega) (by omega)).mono ?_; rintro e we ⟨v, rfl, hv, hR, hw⟩; obtain ⟨hv0, hv1, -⟩ := hv; have hv2 := hv1 (by omega); obtain ⟨y, rfl⟩ : ∃ i : Nat, v = i := ⟨v.toNat, by omega⟩; have hy : y < 4 := (by omega); have hyI : (y : Int) < 4 := (by omega); have hy0 : (0 : Int) ≤ (y : Int) := (by omega); have HRe := Lib.hid hR; obtain ⟨xy, hxy, hxb⟩ := ints_lit [1, -1, 99999, -99999] (by decide) y (by simpa using hy); have hwr : IntKind.i64.wrap (c.n + xy) = c.n + xy := IntWalk.i64_in _ (by have := hcs.1; omega); have hcy : (we.alloc (.cells #[.int .i64 1, .int .i64 (-1), .int .i64 99999, .int .i64 (-99999)] 3)).cell? ⟨we.heap.size, y, none⟩ = some (.int .i64 xy) := (Bx.cell (Bx.new we 3 #[.int .i64 1, .int .i64 (-1), .int .i64 99999, .int .i64 (-99999)]) y).trans hxy; have HOe := Lib.hid (hw.O HOd.out (by decide)); have HDe := Lib.hid (HDd.out.trans hw); obtain ⟨-, -, q1, -, qf, -⟩ := HP.out _ HOe.out; have s1 := q1; have sne : we.heap.size ≠ gx := Nat.ne_of_gt (World.block_lt_of_cell? _ _ q1); have f1 := qf 1 (by decide); have f2 : ∀ o, (we.alloc o).frozen? ⟨gx, i * 3 + 1, none⟩ = false := fun o => (HP.out _ (Kd.O_alloc o HOe.out)).2.2.2.2.1 1 (by decide); have s2 : ∀ o, (we.alloc o).cell? ⟨gx, i * 3 + 1, none⟩ = some (.int .i64 c.n) := fun o => (HP.out _ (Kd.O_alloc o HOe.out)).2.2.1; clear q1 qf; clear hv0 hv1 hv2 hR hw))
    all_goals
      go_wp2
      go_ret
      first
      | exact spo_fin HOe.out (i := i) hcI.out hgx (HRe.out) (HDe.out) hsz HS.out hl2 1 (by decide) (.int .i64 (c.n + xy)) ⟨c.k, c.n + xy, c.s⟩ rfl (fun cs hcs => by obtain rfl : cs = [.int .i64 c.k, .int .i64 c.n, .string c.s] := hcs; rfl) hcs.2 (by omega)
      | exact spo_fin (Kd.O_alloc _ HOe.out) (i := i) hcI.out hgx (HRe.out.ext (bel_alloc (Below.refl _ _) _)) (DW.ext HDe.out (bel_alloc (Below.refl _ _) _) hsz) hsz HS.out hl2 1 (by decide) (.int .i64 (c.n + xy)) ⟨c.k, c.n + xy, c.s⟩ rfl (fun cs hcs => by obtain rfl : cs = [.int .i64 c.k, .int .i64 c.n, .string c.s] := hcs; rfl) hcs.2 (by omega)
  · go_wp2_with (first | (go_at_call_of 34 (Value.int .i64 4); refine (rq_pick (HR3.out.ext (bel_alloc (Below.refl _ _) _)) (by omega) _ (by omega) (by omega)).mono ?_; rintro e wp4 ⟨v, rfl, hv, hR, hw⟩; obtain ⟨hv0, hv1, -⟩ := hv; have hv2 := hv1 (by omega); obtain ⟨y, rfl⟩ : ∃ i : Nat, v = i := ⟨v.toNat, by omega⟩; have hy : y < 4 := (by omega); have HR4 := Lib.hid hR; have HW4 := Lib.hid hw; obtain ⟨xy, hxy, hxby⟩ := strs_lit [⟨#[]⟩, ⟨#[116, 111, 111, 108, 111, 110, 103, 110, 97, 109, 101]⟩, ⟨#[65]⟩, ⟨#[97]⟩] (by decide) y (by simpa using hy); have hcy := (Bx.cell (Bx.but (Bx.new _ 9 #[.string ⟨#[]⟩, .string ⟨#[116, 111, 111, 108, 111, 110, 103, 110, 97, 109, 101]⟩, .string ⟨#[65]⟩, .string ⟨#[97]⟩]) hw.but (by decide)) y).trans hxy; have HO4 := Lib.hid (hw.O (Kd.O_alloc _ HO3.out) (by decide)); have HD4 := Lib.hid ((DW.ext HD3.out (bel_alloc (Below.refl _ _) _) hsz).trans hw); obtain ⟨-, q0, q1, q2, qf, -⟩ := HP.out _ HO4.out; have f1 := qf 2 (by decide); clear q0 q1 qf; clear hv0 hv1 hv2 hR hw) | fail)
    go_ret
    exact spo_fin HO4.out (i := i) hcI.out hgx (HR4.out) (HD4.out) hsz HS.out hl2 2 (by decide) (.string xy) ⟨c.k, c.n, xy⟩ rfl (fun cs hcs => by obtain rfl : cs = [.int .i64 c.k, .int .i64 c.n, .string c.s] := hcs; rfl) hxby (by omega)
  · go_wp2_with (first | (go_at_call_of 34 (Value.int .i64 5); refine (rq_pick HR3.out (by omega) _ (by omega) (by omega)).mono ?_; rintro e wp4 ⟨v, rfl, hv, hR, hw⟩; obtain ⟨hv0, hv1, -⟩ := hv; have hv2 := hv1 (by omega); obtain ⟨y, rfl⟩ : ∃ i : Nat, v = i := ⟨v.toNat, by omega⟩; have hy : y < 5 := (by omega); have HR4 := Lib.hid hR; have HW4 := Lib.hid hw; have HO4 := Lib.hid (hw.O HO3.out (by decide)); have HD4 := Lib.hid (HD3.out.trans hw); obtain ⟨-, q0, q1, q2, qf, -⟩ := HP.out _ HO4.out; have f1 : wp4.frozen? ⟨gx, i * 3, none⟩ = false := qf 0 (by decide); clear q1 q2 qf; clear hv0 hv1 hv2 hR hw) | fail)
    go_ret
    exact spo_fin HO4.out (i := i) hcI.out hgx (HR4.out) (HD4.out) hsz HS.out hl2 0 (by decide) (.int .i64 (y : Int)) ⟨(y : Int), c.n, c.s⟩ rfl (fun cs hcs => by obtain rfl : cs = [.int .i64 c.k, .int .i64 c.n, .string c.s] := hcs; rfl) hcs.2 (by omega)
  · go_wp2
    go_loopw [5] (fun v5 wr => ∃ (L : Trm) (OA : Option Addr) (oc : Nat), v5 = .slice OA L.length oc ∧ L.length ≤ 100 ∧ Hid (Kd.cell.O 47 wr W.heap.size (.slice OA L.length oc) L) ∧ Hid (∀ c ∈ L, c.s.size ≤ 100) ∧ Hid (RQ w0 g (M + 2) wr) ∧ Hid (DW w0 W wr)) (fun v5 _ => 200 - slen v5)
    case atStart => exact ⟨t, _, _, rfl, hl2, HO3, Lib.hid (fun d hd => (HS.out d hd).2), HR3, HD3⟩
    case round =>
      obtain ⟨L, OA, oc, rfl, hL, HOr, HLr, HRr, HDr⟩ := hrel
      by_cases h40 : L.length ≤ 40
      · have f0 : decide ((L.length : Int) ≤ 40) = true := decide_eq_true (by omega)
        go_wp2_with (first | (at_builtin; refine wp_app AppI.cell rfl rfl (Kd.O_alloc _ HOr.out) rfl (Kd.S_lit Kd.cell _ (x := (⟨3, 1, ⟨#[102]⟩⟩ : Cell)) (cs := [.int .i64 3, .int .i64 1, .string ⟨#[102]⟩]) rfl rfl) rfl (by simp only [List.length_singleton]; omega) (Nat.le_trans HDr.out.bel.size (bel_alloc (Below.refl _ _) _).size) ?_; intro v9 w9 hg; have hwg := Wrote.grew hg (Kd.O_alloc _ HOr.out) (Nat.le_trans HDr.out.bel.size (bel_alloc (Below.refl _ _) _).size); have hO9 := hg.own; obtain ⟨L2, hL2⟩ : ∃ L2, L ++ [(⟨3, 1, ⟨#[102]⟩⟩ : Cell)] = L2 := ⟨_, rfl⟩; rw [hL2] at hO9; have HO9 := Lib.hid hO9; have HL2 := Lib.hid hL2; obtain ⟨OB, od, rfl, -, -, -⟩ := Kd.O_read hO9; have HR9 := Lib.hid ((HRr.out.ext (bel_alloc (Below.refl _ _) _)).wrote hwg hsz (by decide)); have HD9 := Lib.hid (DW.own (DW.ext HDr.out (bel_alloc (Below.refl _ _) _) hsz) hwg.bel hsz); clear hg hwg hO9 hL2) | fail)
        have hl2' : L2.length = L.length + 1 := by rw [← HL2.out, List.length_append, List.length_singleton]
        exact ⟨⟨L2, OB, od, rfl, by omega, HO9, Lib.hid (fun d hd => by
          rw [← HL2.out, List.mem_append, List.mem_singleton] at hd
          rcases hd with hd | rfl
          · exact HLr.out d hd
          · exact (show (1 : Nat) ≤ 100 by decide)), HR9, HD9⟩, by simp only [slen]; omega⟩
      · have f0 : decide ((L.length : Int) ≤ 40) = false := decide_eq_false (by omega)
        go_wp2
        go_ret
        exact ⟨_, _, rfl, Kd.O_read HOr.out, by omega, HLr.out, HRr.out.mono (by omega), HDr.out⟩
  · go_wp2_with (first | (go_at_call_of 34 (Value.int .i64 3); refine (rq_pick (HR3.out.ext (bel_alloc (Below.refl _ _) _)) (by omega) _ (by omega) (by omega)).mono ?_; rintro e wp4 ⟨v, rfl, hv, hR, hw⟩; obtain ⟨hv0, hv1, -⟩ := hv; have hv2 := hv1 (by omega); obtain ⟨y, rfl⟩ : ∃ i : Nat, v = i := ⟨v.toNat, by omega⟩; have hy : y < 3 := (by omega); have HR4 := Lib.hid hR; have HW4 := Lib.hid hw; obtain ⟨xy, hxy, hxby⟩ := ints_lit [99999, 100000, -1] (by decide) y (by simpa using hy); have hcy := (Bx.cell (Bx.but (Bx.new _ 3 #[.int .i64 99999, .int .i64 100000, .int .i64 (-1)]) hw.but (by decide)) y).trans hxy; have HO4 := Lib.hid (hw.O (Kd.O_alloc _ HO3.out) (by decide)); have HD4 := Lib.hid ((DW.ext HD3.out (bel_alloc (Below.refl _ _) _) hsz).trans hw); obtain ⟨m0, m1, m2, m3, m4, m5, HE⟩ := HP3.out _ HO4.out ⟨1, xy, ⟨#[]⟩⟩; clear hv0 hv1 hv2 hR hw) | fail)
    go_ret
    have hw3 := own_put3 HO4.out hgx (i * 3) (i * 3 + 1) (i * 3 + 2) (.int .i64 1) (.int .i64 xy) (.string ⟨#[]⟩)
    exact ⟨_, _, rfl, Kd.O_read HE.out.1, by rw [List.length_set]; omega, sets_mem (fun d hd => (HS.out d hd).2) i (show (0 : Nat) ≤ 100 by decide), (HR4.out.wrote hw3 hsz (by decide)).mono (by omega), DW.own HD4.out hw3.bel hsz⟩
end Go.Proofs.YtjglbadkbhopoaaGreatDoor
namespace Go.Proofs.YtjglbadkbhopoaaGreatDoor
open Go.RowKit
set_option maxRecDepth 100000
set_option maxHeartbeats 8000000
set_option linter.unusedVariables false
theorem dgt_c (s : ByteArray) (a : Nat) (w : World) (hs : s.size ≤ 4000000) (ha : a ≤ s.size) : Calls Tryz.prog 117 #[.string s, .int .i64 (a : Int)] w fun e w' => ∃ k : Nat, e = .returned (.int .i64 (k : Int)) ∧ a ≤ k ∧ k ≤ s.size ∧ w = w' := by
  go_enter Tryz.func117, Tryz.ntmps117
  go_wp2
  go_loop [5] (fun v5 => ∃ k : Nat, v5 = .int .i64 (k : Int) ∧ a ≤ k ∧ k ≤ s.size) (fun v5 => s.size - (intOf v5).toNat)
  case atStart => exact ⟨a, rfl, Nat.le_refl _, ha⟩
  case round =>
    obtain ⟨k, rfl, h1, h2⟩ := hrel
    by_cases hlt : k < s.size
    · have hx := byt_at s k
      by_cases h48 : byt s k < 48
      · go_wp2
        go_ret
        exact ⟨k, rfl, h1, h2, rfl⟩
      · by_cases h57 : 57 < byt s k
        · go_wp2
          go_ret
          exact ⟨k, rfl, h1, h2, rfl⟩
        · go_wp2
          exact ⟨⟨k + 1, by go_num, by omega, by omega⟩, by simp [intOf]; omega⟩
    · go_wp2
      go_ret
      exact ⟨k, rfl, h1, h2, rfl⟩
theorem nmb_c (s : ByteArray) (w : World) (hs : s.size ≤ 4000000) : Calls Tryz.prog 118 #[.string s] w fun e w' => ∃ v : Int, e = .returned (.int .i64 v) ∧ w = w' := by
  by_cases h0 : s.size = 0
  · have e0 : ((s.size : Int) == 0) = true := beq_iff_eq.2 (by omega)
    go_enter Tryz.func118, Tryz.ntmps118
    go_wp2
    go_ret
    exact ⟨_, rfl, rfl⟩
  have e0 : ((s.size : Int) == 0) = false := beq_eq_false_iff_ne.2 (by omega)
  by_cases h5 : 5 < s.size
  · have e5 : decide ((5 : Int) < s.size) = true := decide_eq_true (by omega)
    go_enter Tryz.func118, Tryz.ntmps118
    go_wp2
    go_ret
    exact ⟨_, rfl, rfl⟩
  have e5 : decide ((5 : Int) < s.size) = false := decide_eq_false (by omega)
  go_enter Tryz.func118, Tryz.ntmps118
  go_wp2
  go_loop [3, 4] (fun v3 v4 => ∃ (n : Int) (k : Nat), v3 = .int .i64 n ∧ v4 = .int .i64 (k : Int) ∧ k ≤ s.size) (fun _ v4 => s.size - (intOf v4).toNat)
  case atStart => exact ⟨0, 0, rfl, rfl, by omega⟩
  case round =>
    obtain ⟨n, k, rfl, rfl, h2⟩ := hrel
    by_cases hlt : k < s.size
    · have hx := byt_at s k
      go_wp2
      exact ⟨⟨_, k + 1, rfl, by go_num, by omega⟩, by simp [intOf]; omega⟩
    · go_wp2
      go_ret
      first | exact ⟨n, rfl, rfl⟩ | exact ⟨n, rfl⟩ | exact .inl rfl | simp
theorem take_c (s : ByteArray) (a : Nat) (w : World) (hs : s.size ≤ 4000000) (ha : a ≤ s.size) :
    Calls Tryz.prog 98 #[.string s, .int .i64 (a : Int)] w fun e w' => ∃ (c : Cell) (k : Int), e = .returned (.tuple #[.agg #[.int .i64 c.k, .int .i64 c.n, .string c.s], .int .i64 k]) ∧ c.s.size ≤ s.size ∧ (k = -1 ∨ (a : Int) ≤ k ∧ k ≤ s.size) ∧ Below w.heap.size w w' := by
  have HB0 := Lib.hid (show Below w.heap.size w (w.alloc (.cells #[.int .i64 0, .int .i64 0, .string ⟨#[]⟩] 47)) from bel_alloc (Below.refl _ _) _)
  have HX0 := Lib.hid (Bx.new w 47 #[.int .i64 0, .int .i64 0, .string ⟨#[]⟩])
  have HDg := Lib.hid (fun a (ha : a ≤ s.size) W => dgt_c s a W hs ha)
  have HNm := Lib.hid (fun (u : ByteArray) (hu : u.size ≤ 4000000) W => nmb_c u W hu)
  by_cases hlt : a < s.size
  · have hx := byt_at s a
    by_cases h88 : byt s a = 88
    · go_enter Tryz.func98, Tryz.ntmps98
      go_wp2_with (first | (go_at_call 117; (with_reducible refine (show Calls _ _ #[_, .int .i64 ((a : Int) + 1)] _ _ from HDg.out (a + 1) (by omega) _).mono ?_); rintro e w1 ⟨k, rfl, hk1, hk2, rfl⟩) | (go_at_call 118; (with_reducible refine (HNm.out _ (by simp only [ByteArray.size_extract]; omega) _).mono ?_); rintro e w2 ⟨nv, rfl, rfl⟩; skip) | fail)
      refine ret_cell_tmp rfl rfl (Bx.new w 47 #[.int .i64 1, .int .i64 nv, .string ⟨#[]⟩]) Tryz.underlying47 rfl (by kernel_rfl) rfl ?_
      exact ⟨⟨1, nv, ⟨#[]⟩⟩, (k : Int), rfl, Nat.zero_le _, .inr ⟨by omega, by omega⟩, bel_alloc (Below.refl _ _) _⟩
    by_cases h45 : byt s a = 45
    · go_enter Tryz.func98, Tryz.ntmps98
      go_wp2_with (first | (go_at_call 117; (with_reducible refine (show Calls _ _ #[_, .int .i64 ((a : Int) + 1)] _ _ from HDg.out (a + 1) (by omega) _).mono ?_); rintro e w1 ⟨k, rfl, hk1, hk2, rfl⟩) | (go_at_call 118; (with_reducible refine (HNm.out _ (by simp only [ByteArray.size_extract]; omega) _).mono ?_); rintro e w2 ⟨nv, rfl, rfl⟩; obtain ⟨nw, hnw⟩ : ∃ nw, wrap64 (-nv) = nw := ⟨_, rfl⟩; skip) | fail)
      refine ret_cell_tmp rfl rfl (Bx.new w 47 #[.int .i64 2, .int .i64 nw, .string ⟨#[]⟩]) Tryz.underlying47 rfl (by kernel_rfl) rfl ?_
      exact ⟨⟨2, nw, ⟨#[]⟩⟩, (k : Int), rfl, Nat.zero_le _, .inr ⟨by omega, by omega⟩, bel_alloc (Below.refl _ _) _⟩
    by_cases hd : 48 ≤ byt s a ∧ byt s a ≤ 57
    · obtain ⟨hd1, hd2⟩ := hd
      go_enter Tryz.func98, Tryz.ntmps98
      go_wp2_with (first | (go_at_call 117; (with_reducible refine (HDg.out _ (by omega) _).mono ?_); rintro e w1 ⟨k, rfl, hk1, hk2, rfl⟩) | (go_at_call 118; (with_reducible refine (HNm.out _ (by simp only [ByteArray.size_extract]; omega) _).mono ?_); rintro e w2 ⟨nv, rfl, rfl⟩; skip) | fail)
      refine ret_cell_tmp rfl rfl (Bx.new w 47 #[.int .i64 2, .int .i64 nv, .string ⟨#[]⟩]) Tryz.underlying47 rfl (by kernel_rfl) rfl ?_
      exact ⟨⟨2, nv, ⟨#[]⟩⟩, (k : Int), rfl, Nat.zero_le _, .inr ⟨by omega, by omega⟩, bel_alloc (Below.refl _ _) _⟩
    have hd' : byt s a < 48 ∨ 57 < byt s a := by omega
    rcases hd' with hd' | hd'
    all_goals
      go_enter Tryz.func98, Tryz.ntmps98
      go_wp2
      go_loop [10] (fun v10 => ∃ k : Nat, v10 = .int .i64 (k : Int) ∧ a ≤ k ∧ k ≤ s.size) (fun v10 => s.size - (intOf v10).toNat)
      case atStart => exact ⟨a, rfl, Nat.le_refl _, by omega⟩
      case round =>
        obtain ⟨k, rfl, h1, h2⟩ := hrel
        clear hx
        by_cases hkl : k < s.size
        · have hy := byt_at s k
          by_cases h97 : byt s k < 97
          · obtain ⟨nm, hnm⟩ : ∃ nm, s.extract a k = nm := ⟨_, rfl⟩
            have hns : nm.size ≤ s.size := by rw [← hnm, ByteArray.size_extract]; omega
            skip
            go_wp2
            refine ret_cell_tmp rfl rfl (Bx.new w 47 #[.int .i64 3, .int .i64 0, .string nm]) Tryz.underlying47 rfl (by kernel_rfl) rfl ?_
            exact ⟨⟨3, 0, nm⟩, (k : Int), rfl, hns, .inr ⟨by omega, by omega⟩, bel_alloc (Below.refl _ _) _⟩
          · by_cases h122 : 122 < byt s k
            · obtain ⟨nm, hnm⟩ : ∃ nm, s.extract a k = nm := ⟨_, rfl⟩
              have hns : nm.size ≤ s.size := by rw [← hnm, ByteArray.size_extract]; omega
              skip
              go_wp2
              refine ret_cell_tmp rfl rfl (Bx.new w 47 #[.int .i64 3, .int .i64 0, .string nm]) Tryz.underlying47 rfl (by kernel_rfl) rfl ?_
              exact ⟨⟨3, 0, nm⟩, (k : Int), rfl, hns, .inr ⟨by omega, by omega⟩, bel_alloc (Below.refl _ _) _⟩
            · go_wp2
              exact ⟨⟨k + 1, by go_num, by omega, by omega⟩, by simp [intOf]; omega⟩
        · obtain ⟨nm, hnm⟩ : ∃ nm, s.extract a k = nm := ⟨_, rfl⟩
          have hns : nm.size ≤ s.size := by rw [← hnm, ByteArray.size_extract]; omega
          skip
          go_wp2
          refine ret_cell_tmp rfl rfl (Bx.new w 47 #[.int .i64 3, .int .i64 0, .string nm]) Tryz.underlying47 rfl (by kernel_rfl) rfl ?_
          exact ⟨⟨3, 0, nm⟩, (k : Int), rfl, hns, .inr ⟨by omega, by omega⟩, bel_alloc (Below.refl _ _) _⟩
  · skip
    go_enter Tryz.func98, Tryz.ntmps98
    go_wp2
    refine ret_cell_tmp rfl rfl (Bx.new w 47 #[.int .i64 0, .int .i64 0, .string ⟨#[]⟩]) Tryz.underlying47 rfl (by kernel_rfl) rfl ?_
    exact ⟨⟨0, 0, ⟨#[]⟩⟩, (-1), rfl, Nat.zero_le _, .inl rfl, bel_alloc (Below.refl _ _) _⟩
end Go.Proofs.YtjglbadkbhopoaaGreatDoor
namespace Go.Proofs.YtjglbadkbhopoaaGreatDoor
set_option linter.unusedVariables false
def wordB (c : Cell) : Bs := if c.k = 1 then 88 :: Lib.itoa c.n else if c.k = 2 then Lib.itoa c.n else L c.s
def closeB : List Nat → Bs × List Nat
  | [] => ([], [])
  | 0 :: op => ([], 0 :: op)
  | 1 :: op => (41 :: (closeB op).1, (closeB op).2)
  | (m + 2) :: op => ([44], (m + 1) :: op)
def R : List Nat → Trm → Bs
  | _, [] => []
  | op, c :: t => wordB c ++ if 0 < (ar c).toNat then 40 :: R ((ar c).toNat :: op) t else (closeB op).1 ++ R (closeB op).2 t
def txt (t : Trm) : Bs := R [] t
def Fin' (op : List Nat) (r : Trm) : Bs := (closeB op).1 ++ R (closeB op).2 r
def joinT : List Trm → Bs
  | [] => []
  | [a] => txt a
  | a :: b :: l => txt a ++ 44 :: joinT (b :: l)
theorem R_both : ∀ (n : Nat) (u : Trm), u.length ≤ n →
    (∀ (op : List Nat) (rest : Trm), Ms 1 u → R op (u ++ rest) = txt u ++ Fin' op rest) ∧
    (∀ (m : Nat) (op : List Nat) (rest : Trm), Ms (m + 1) u → R ((m + 1) :: op) (u ++ rest) = joinT (argsOf (m + 1) u) ++ 41 :: Fin' op rest) := by
  intro n
  induction n with
  | zero =>
    intro u hu
    obtain rfl : u = [] := List.eq_nil_of_length_eq_zero (by omega)
    exact ⟨fun _ _ h => by rw [Ms_nil] at h; omega, fun _ _ _ h => by rw [Ms_nil] at h; omega⟩
  | succ n ih =>
    intro u hu
    have A : ∀ (op : List Nat) (rest : Trm), Ms 1 u → R op (u ++ rest) = txt u ++ Fin' op rest := by
      intro op rest h
      match u, h with
      | c :: r, h =>
        have hr : Ms (ar c).toNat r := by rw [show 1 = 0 + 1 by rfl, Ms_cons, Nat.zero_add] at h; exact h
        unfold txt
        rw [List.cons_append, R, R]
        by_cases h0 : 0 < (ar c).toNat
        · rw [if_pos h0, if_pos h0]
          obtain ⟨m, hm⟩ : ∃ m, (ar c).toNat = m + 1 := ⟨(ar c).toNat - 1, by omega⟩
          rw [hm] at hr ⊢
          have ih2 := (ih r (by simp at hu; omega)).2 m
          rw [ih2 op rest hr]
          have := ih2 [] [] hr
          rw [List.append_nil] at this
          rw [this]
          simp [Fin', closeB, R]
        · rw [if_neg h0, if_neg h0]
          obtain rfl : r = [] := by
            have h0 : (ar c).toNat = 0 := by omega
            rw [h0, Ms_zero] at hr; exact hr
          simp [Fin', closeB, R]
    refine ⟨A, ?_⟩
    intro m
    induction m generalizing u with
    | zero =>
      intro op rest h
      have h1 := A (1 :: op) rest h
      have e : fst1 u = u := by have := fst1_pre [] h; rwa [List.append_nil] at this
      rw [show 0 + 1 = 1 by rfl, h1, argsOf, argsOf, joinT, e]
      simp [Fin', closeB]
    | succ m ihm =>
      intro op rest h
      rw [show m + 1 + 1 = 1 + (m + 1) by omega] at h
      obtain ⟨x, y, rfl, hx, hy⟩ := Ms_split h
      have hxl := Ms_pos (m := 0) hx
      have hyl := Ms_pos (m := m) hy
      rw [List.length_append] at hu
      have hAx := (ih x (by omega)).1 ((m + 1 + 1) :: op) (y ++ rest) hx
      have hBy := (ih y (by omega)).2 m op rest hy
      rw [List.append_assoc, hAx, argsOf, fst1_pre y hx, rst1_pre y hx, argsOf, joinT]
      rw [argsOf] at hBy
      simp only [Fin', closeB] at *
      rw [List.singleton_append, hBy]
      simp
theorem txt_cons {c : Cell} {r : Trm} (h : Ms 1 (c :: r)) : txt (c :: r) = wordB c ++ if 0 < (ar c).toNat then 40 :: joinT (argsOf (ar c).toNat r) ++ [41] else [] := by
  have hr : Ms (ar c).toNat r := by rw [show 1 = 0 + 1 by rfl, Ms_cons, Nat.zero_add] at h; exact h
  unfold txt
  rw [R]
  by_cases h0 : 0 < (ar c).toNat
  · rw [if_pos h0, if_pos h0]
    obtain ⟨m, hm⟩ : ∃ m, (ar c).toNat = m + 1 := ⟨(ar c).toNat - 1, by omega⟩
    rw [hm] at hr ⊢
    have := (R_both r.length r (Nat.le_refl _)).2 m [] [] hr
    rw [List.append_nil] at this
    rw [this]
    simp [Fin', closeB, R]
  · rw [if_neg h0, if_neg h0]
    obtain rfl : r = [] := by
      have h0 : (ar c).toNat = 0 := by omega
      rw [h0, Ms_zero] at hr; exact hr
    simp [closeB, R]
theorem dec_len5' {u : Nat} (h : u < 100000) : (Lib.decDigits u).length ≤ 5 := (dec_len5 u).2 h
theorem itoa_len {n : Int} (h0 : -99999 ≤ n) (h1 : n ≤ 99999) : (Lib.itoa n).length ≤ 6 := by
  unfold Lib.itoa
  split
  · have := dec_len5' (u := n.natAbs) (by omega)
    simp; omega
  · have := dec_len5' (u := n.toNat) (by omega)
    omega
theorem nameOk_len {s : ByteArray} (h : nameOk s = true) : s.size ≤ 8 := by
  unfold nameOk at h
  simp only [Bool.and_eq_true, decide_eq_true_eq] at h
  exact h.1.1.2
theorem cellOk_fun {c : Cell} (h : cellOk c = true) (hc : c.k = 3) : nameOk c.s = true := by
  unfold cellOk at h
  rw [if_neg (by omega), if_neg (by omega), if_pos hc] at h
  simp at h
  exact h.2
theorem cellOk_k {c : Cell} (h : cellOk c = true) : c.k = 1 ∨ c.k = 2 ∨ c.k = 3 := by
  unfold cellOk at h
  split at h
  · exact .inl ‹_›
  · split at h
    · exact .inr (.inl ‹_›)
    · split at h
      · exact .inr (.inr ‹_›)
      · cases h
theorem cellOk_n' {c : Cell} (h : cellOk c = true) : -99999 ≤ c.n ∧ c.n ≤ 99999 := by
  unfold cellOk at h
  split at h
  · simp at h; omega
  · split at h
    · simp at h; omega
    · split at h
      · simp at h; omega
      · cases h
theorem word_len {c : Cell} (h : cellOk c = true) : (wordB c).length ≤ 8 := by
  have hn := cellOk_n' h
  have hi := itoa_len hn.1 hn.2
  unfold wordB
  rcases cellOk_k h with h1 | h1 | h1
  · rw [if_pos h1, List.length_cons]; omega
  · rw [if_neg (by omega), if_pos h1]; omega
  · rw [if_neg (by omega), if_neg (by omega), L_length]
    exact nameOk_len (cellOk_fun h h1)
end Go.Proofs.YtjglbadkbhopoaaGreatDoor
