/- Lemmas and contracts for FnExactWldOk, part 12. -/
import Derived.Test.YtdoggcfdfkkedaaGreatDoorW11
namespace Go.Proofs.YtdoggcfdfkkedaaGreatDoor
open Go.RowKit
set_option maxRecDepth 100000
set_option maxHeartbeats 4000000
set_option linter.unusedVariables false
theorem eq_cell_c (x : Cell)  (w : World)   (hl : mz_cell x ≤ 1048576) :
    Calls Tryz.prog 72 #[.agg #[.int .i64 x.k, .int .i64 x.n, .string x.s], .agg #[.int .i64 x.k, .int .i64 x.n, .string x.s]] w fun e w' => e = .returned (.bool true) ∧ Below w.heap.size w w' := by
  have HB := Lib.hid (fun a b => bel_alloc (bel_alloc (Below.refl w.heap.size w) a) b)
  clear hl
  go_enter Tryz.func72, Tryz.ntmps72
  go_wp2
  go_ret
  exact ⟨rfl, HB.out _ _⟩
theorem eq_cellS_c (D : List Cell) (v v' : Value) (w : World) (hS : Kd.cell.S 112 w v D) (hS' : Kd.cell.S 112 w v' D) (hl : szL mz_cell D ≤ 1048576) :
    Calls Tryz.prog 33 #[v, v'] w fun e w' => e = .returned (.bool true) ∧ Below w.heap.size w w' := by
  have HS := Lib.hid hS
  have HS' := Lib.hid hS'
  have hlen : D.length ≤ 1048576 := Nat.le_trans szL_len hl
  have HL := Lib.hid (fun x (hx : x ∈ D) => Nat.le_trans (szL_mem (m := mz_cell) hx) hl)
  obtain ⟨A, c, rfl, a1, a2, -⟩ := hS
  obtain ⟨A', c', rfl, b1, b2, -⟩ := hS'
  clear hl
  go_enter Tryz.func33, Tryz.ntmps33
  go_wp2
  go_loopw [5] (fun v5 wr => ∃ k : Nat, v5 = .int .i64 k ∧ k ≤ D.length ∧ Hid (Below w.heap.size w wr)) (fun v5 _ => D.length - (intOf v5).toNat)
  case atStart => exact ⟨0, rfl, Nat.zero_le _, Lib.hid (Below.refl _ _)⟩
  case round =>
    obtain ⟨k, rfl, hk, HBr⟩ := hrel
    by_cases hlt : k < D.length
    · obtain ⟨cc, hc⟩ : ∃ cc, D[k]? = some cc := ⟨_, List.getElem?_eq_getElem hlt⟩
      obtain ⟨A1, c1, ev, _, _, hC⟩ := HS.out
      injection ev with z1 z2 z3
      obtain ⟨ad, had, x0, x1, x2⟩ := dcell_at hC hc
      have had2 := z1.trans had
      obtain ⟨A2, c2, ev2, _, _, hC2⟩ := HS'.out
      injection ev2 with z4 z5 z6
      obtain ⟨bd, hbd, y0, y1, y2⟩ := dcell_at hC2 hc
      have had3 := z4.trans hbd
      have HX := Lib.hid (fun W (hb : Below w.heap.size w W) => eq_cell_c cc  W   (HL.out cc (List.mem_of_getElem? hc)))
      have x0 := cell_keep HBr.out x0
      have y0 := cell_keep HBr.out y0
      have x1 := cell_keep HBr.out x1
      have y1 := cell_keep HBr.out y1
      have x2 := cell_keep HBr.out x2
      have y2 := cell_keep HBr.out y2
      clear z1 z2 z3 z4 z5 z6 had hbd hC hC2 hc 
      subst had2
      subst had3
      have hst : ∀ W W', Below W.heap.size W W' → (W.cell? (ad.add (k * 3)) = some (.int .i64 cc.k) ∧ W.cell? ⟨(ad.add (k * 3)).block, (ad.add (k * 3)).off + 1, none⟩ = some (.int .i64 cc.n) ∧ W.cell? ⟨(ad.add (k * 3)).block, (ad.add (k * 3)).off + 2, none⟩ = some (.string cc.s) ∧ W.cell? (bd.add (k * 3)) = some (.int .i64 cc.k) ∧ W.cell? ⟨(bd.add (k * 3)).block, (bd.add (k * 3)).off + 1, none⟩ = some (.int .i64 cc.n) ∧ W.cell? ⟨(bd.add (k * 3)).block, (bd.add (k * 3)).off + 2, none⟩ = some (.string cc.s) ∧ Hid (Below w.heap.size w W)) → (W'.cell? (ad.add (k * 3)) = some (.int .i64 cc.k) ∧ W'.cell? ⟨(ad.add (k * 3)).block, (ad.add (k * 3)).off + 1, none⟩ = some (.int .i64 cc.n) ∧ W'.cell? ⟨(ad.add (k * 3)).block, (ad.add (k * 3)).off + 2, none⟩ = some (.string cc.s) ∧ W'.cell? (bd.add (k * 3)) = some (.int .i64 cc.k) ∧ W'.cell? ⟨(bd.add (k * 3)).block, (bd.add (k * 3)).off + 1, none⟩ = some (.int .i64 cc.n) ∧ W'.cell? ⟨(bd.add (k * 3)).block, (bd.add (k * 3)).off + 2, none⟩ = some (.string cc.s) ∧ Hid (Below w.heap.size w W')) := fun W W' hb h =>
        ⟨cell_keep hb h.1, cell_keep hb h.2.1, cell_keep hb h.2.2.1, cell_keep hb h.2.2.2.1, cell_keep hb h.2.2.2.2.1, cell_keep hb h.2.2.2.2.2.1, Lib.hid (bel_trans h.2.2.2.2.2.2.out hb)⟩
      go_upto_region 6 with (fail)
      have hS0 := hst wr wr.drew (bel_drew (Below.refl _ _)) ⟨x0, x1, x2, y0, y1, y2, HBr⟩
      go_region_held3 (fun W => W.cell? (ad.add (k * 3)) = some (.int .i64 cc.k) ∧ W.cell? ⟨(ad.add (k * 3)).block, (ad.add (k * 3)).off + 1, none⟩ = some (.int .i64 cc.n) ∧ W.cell? ⟨(ad.add (k * 3)).block, (ad.add (k * 3)).off + 2, none⟩ = some (.string cc.s) ∧ W.cell? (bd.add (k * 3)) = some (.int .i64 cc.k) ∧ W.cell? ⟨(bd.add (k * 3)).block, (bd.add (k * 3)).off + 1, none⟩ = some (.int .i64 cc.n) ∧ W.cell? ⟨(bd.add (k * 3)).block, (bd.add (k * 3)).off + 2, none⟩ = some (.string cc.s) ∧ Hid (Below w.heap.size w W)) (assumption) ((go_at_call 72; refine (HX.out _ hS0.2.2.2.2.2.2.out).mono ?_; rintro e w2 ⟨rfl, hb2⟩; have hS1 := hst _ _ hb2 (by assumption); clear hb2))
      all_goals
        have HB2 := hS1.2.2.2.2.2.2
        clear hst hS0
        go_wp2
        exact ⟨⟨k + 1, by go_num, hlt, HB2⟩, by simp [intOf]; omega⟩
    · go_wp2
      go_ret
      exact ⟨rfl, HBr.out⟩
theorem eq_goal_c (x : Goal) (v1 v2 v3 u1 u2 u3 : Value) (w : World) (h1 : Kd.cell.S 112 w v1 x.a) (h2 : Kd.cell.S 112 w v2 x.b) (h3 : Kd.cell.S 112 w v3 x.c) (g1 : Kd.cell.S 112 w u1 x.a) (g2 : Kd.cell.S 112 w u2 x.b) (g3 : Kd.cell.S 112 w u3 x.c) (hl : mz_goal x ≤ 1048576) :
    Calls Tryz.prog 182 #[.agg #[.int .i64 x.k, v1, v2, v3], .agg #[.int .i64 x.k, u1, u2, u3]] w fun e w' => e = .returned (.bool true) ∧ Below w.heap.size w w' := by
  have HX0 := Lib.hid (fun W hb => eq_cellS_c x.a v1 u1 W (Kd.S_ext (w := w) hb h1) (Kd.S_ext (w := w) hb g1) (by unfold mz_goal at hl; omega))
  have HX1 := Lib.hid (fun W hb => eq_cellS_c x.b v2 u2 W (Kd.S_ext (w := w) hb h2) (Kd.S_ext (w := w) hb g2) (by unfold mz_goal at hl; omega))
  have HX2 := Lib.hid (fun W hb => eq_cellS_c x.c v3 u3 W (Kd.S_ext (w := w) hb h3) (Kd.S_ext (w := w) hb g3) (by unfold mz_goal at hl; omega))
  have hk1 := h1
  have gk1 := g1
  obtain ⟨A1, c1, rfl, -, -, -⟩ := hk1
  obtain ⟨B1, d1, rfl, -, -, -⟩ := gk1
  have hk2 := h2
  have gk2 := g2
  obtain ⟨A2, c2, rfl, -, -, -⟩ := hk2
  obtain ⟨B2, d2, rfl, -, -, -⟩ := gk2
  have hk3 := h3
  have gk3 := g3
  obtain ⟨A3, c3, rfl, -, -, -⟩ := hk3
  obtain ⟨B3, d3, rfl, -, -, -⟩ := gk3
  clear hl h1 h2 h3 g1 g2 g3
  have HB0 := Lib.hid (show Below w.heap.size w ((w.alloc (.cells #[.int .i64 x.k, .slice A1 x.a.length c1, .slice A2 x.b.length c2, .slice A3 x.c.length c3] 137)).alloc (.cells #[.int .i64 x.k, .slice B1 x.a.length d1, .slice B2 x.b.length d2, .slice B3 x.c.length d3] 137)) from bel_alloc (bel_alloc (Below.refl _ _) _) _)
  have HP0 := Lib.hid (Bx.alloc (Bx.new w 137 #[.int .i64 x.k, .slice A1 x.a.length c1, .slice A2 x.b.length c2, .slice A3 x.c.length c3]) (.cells #[.int .i64 x.k, .slice B1 x.a.length d1, .slice B2 x.b.length d2, .slice B3 x.c.length d3] 137))
  have HQ0 := Lib.hid (show Bx ((w.alloc (.cells #[.int .i64 x.k, .slice A1 x.a.length c1, .slice A2 x.b.length c2, .slice A3 x.c.length c3] 137)).alloc (.cells #[.int .i64 x.k, .slice B1 x.a.length d1, .slice B2 x.b.length d2, .slice B3 x.c.length d3] 137)) (w.heap.size + 1) 137 #[.int .i64 x.k, .slice B1 x.a.length d1, .slice B2 x.b.length d2, .slice B3 x.c.length d3] from by have := Bx.new (w.alloc (.cells #[.int .i64 x.k, .slice A1 x.a.length c1, .slice A2 x.b.length c2, .slice A3 x.c.length c3] 137)) 137 #[.int .i64 x.k, .slice B1 x.a.length d1, .slice B2 x.b.length d2, .slice B3 x.c.length d3]; rwa [size_alloc] at this)
  go_enter Tryz.func182, Tryz.ntmps182
  go_wp2_with (first | (go_at_call 33; (with_reducible refine (HX0.out _ HB0.out).mono ?_); rintro e w1 ⟨rfl, hb1⟩; have HB1 := Lib.hid (bel_trans HB0.out hb1); have HP1 := Lib.hid (Bx.below HP0.out hb1); have HQ1 := Lib.hid (Bx.below HQ0.out hb1); have p1_0 : w1.cell? ⟨w.heap.size, 0, none⟩ = some (.int .i64 x.k) := Bx.cell HP1.out 0; have q1_0 : w1.cell? ⟨w.heap.size + 1, 0, none⟩ = some (.int .i64 x.k) := Bx.cell HQ1.out 0; have p1_1 : w1.cell? ⟨w.heap.size, 1, none⟩ = some (.slice A1 x.a.length c1) := Bx.cell HP1.out 1; have q1_1 : w1.cell? ⟨w.heap.size + 1, 1, none⟩ = some (.slice B1 x.a.length d1) := Bx.cell HQ1.out 1; have p1_2 : w1.cell? ⟨w.heap.size, 2, none⟩ = some (.slice A2 x.b.length c2) := Bx.cell HP1.out 2; have q1_2 : w1.cell? ⟨w.heap.size + 1, 2, none⟩ = some (.slice B2 x.b.length d2) := Bx.cell HQ1.out 2; have p1_3 : w1.cell? ⟨w.heap.size, 3, none⟩ = some (.slice A3 x.c.length c3) := Bx.cell HP1.out 3; have q1_3 : w1.cell? ⟨w.heap.size + 1, 3, none⟩ = some (.slice B3 x.c.length d3) := Bx.cell HQ1.out 3; clear hb1) | (go_at_call 33; (with_reducible refine (HX1.out _ HB1.out).mono ?_); rintro e w2 ⟨rfl, hb2⟩; have HB2 := Lib.hid (bel_trans HB1.out hb2); have HP2 := Lib.hid (Bx.below HP1.out hb2); have HQ2 := Lib.hid (Bx.below HQ1.out hb2); have p2_0 : w2.cell? ⟨w.heap.size, 0, none⟩ = some (.int .i64 x.k) := Bx.cell HP2.out 0; have q2_0 : w2.cell? ⟨w.heap.size + 1, 0, none⟩ = some (.int .i64 x.k) := Bx.cell HQ2.out 0; have p2_1 : w2.cell? ⟨w.heap.size, 1, none⟩ = some (.slice A1 x.a.length c1) := Bx.cell HP2.out 1; have q2_1 : w2.cell? ⟨w.heap.size + 1, 1, none⟩ = some (.slice B1 x.a.length d1) := Bx.cell HQ2.out 1; have p2_2 : w2.cell? ⟨w.heap.size, 2, none⟩ = some (.slice A2 x.b.length c2) := Bx.cell HP2.out 2; have q2_2 : w2.cell? ⟨w.heap.size + 1, 2, none⟩ = some (.slice B2 x.b.length d2) := Bx.cell HQ2.out 2; have p2_3 : w2.cell? ⟨w.heap.size, 3, none⟩ = some (.slice A3 x.c.length c3) := Bx.cell HP2.out 3; have q2_3 : w2.cell? ⟨w.heap.size + 1, 3, none⟩ = some (.slice B3 x.c.length d3) := Bx.cell HQ2.out 3; clear hb2) | (go_at_call 33; (with_reducible refine (HX2.out _ HB2.out).mono ?_); rintro e w3 ⟨rfl, hb3⟩; have HB3 := Lib.hid (bel_trans HB2.out hb3); have HP3 := Lib.hid (Bx.below HP2.out hb3); have HQ3 := Lib.hid (Bx.below HQ2.out hb3); have p3_0 : w3.cell? ⟨w.heap.size, 0, none⟩ = some (.int .i64 x.k) := Bx.cell HP3.out 0; have q3_0 : w3.cell? ⟨w.heap.size + 1, 0, none⟩ = some (.int .i64 x.k) := Bx.cell HQ3.out 0; have p3_1 : w3.cell? ⟨w.heap.size, 1, none⟩ = some (.slice A1 x.a.length c1) := Bx.cell HP3.out 1; have q3_1 : w3.cell? ⟨w.heap.size + 1, 1, none⟩ = some (.slice B1 x.a.length d1) := Bx.cell HQ3.out 1; have p3_2 : w3.cell? ⟨w.heap.size, 2, none⟩ = some (.slice A2 x.b.length c2) := Bx.cell HP3.out 2; have q3_2 : w3.cell? ⟨w.heap.size + 1, 2, none⟩ = some (.slice B2 x.b.length d2) := Bx.cell HQ3.out 2; have p3_3 : w3.cell? ⟨w.heap.size, 3, none⟩ = some (.slice A3 x.c.length c3) := Bx.cell HP3.out 3; have q3_3 : w3.cell? ⟨w.heap.size + 1, 3, none⟩ = some (.slice B3 x.c.length d3) := Bx.cell HQ3.out 3; clear hb3))
  go_ret
  exact ⟨rfl, HB3.out⟩
theorem eq_goalS_c (D : List Goal) (v v' : Value) (w : World) (hS : Kd.goal.S 137 w v D) (hS' : Kd.goal.S 137 w v' D) (hl : szL mz_goal D ≤ 1048576) :
    Calls Tryz.prog 153 #[v, v'] w fun e w' => e = .returned (.bool true) ∧ Below w.heap.size w w' := by
  have HS := Lib.hid hS
  have HS' := Lib.hid hS'
  have hlen : D.length ≤ 1048576 := Nat.le_trans szL_len hl
  have HL := Lib.hid (fun x (hx : x ∈ D) => Nat.le_trans (szL_mem (m := mz_goal) hx) hl)
  obtain ⟨A, c, rfl, a1, a2, -⟩ := hS
  obtain ⟨A', c', rfl, b1, b2, -⟩ := hS'
  clear hl
  go_enter Tryz.func153, Tryz.ntmps153
  go_wp2
  go_loopw [5] (fun v5 wr => ∃ k : Nat, v5 = .int .i64 k ∧ k ≤ D.length ∧ Hid (Below w.heap.size w wr)) (fun v5 _ => D.length - (intOf v5).toNat)
  case atStart => exact ⟨0, rfl, Nat.zero_le _, Lib.hid (Below.refl _ _)⟩
  case round =>
    obtain ⟨k, rfl, hk, HBr⟩ := hrel
    by_cases hlt : k < D.length
    · obtain ⟨cc, hc⟩ : ∃ cc, D[k]? = some cc := ⟨_, List.getElem?_eq_getElem hlt⟩
      obtain ⟨A1, c1, ev, _, _, hC⟩ := HS.out
      injection ev with z1 z2 z3
      obtain ⟨ad, v1, v2, v3, had, x0, x1, x2, x3, h1, h2, h3⟩ := dgoal_at hC hc
      have had2 := z1.trans had
      obtain ⟨A2, c2, ev2, _, _, hC2⟩ := HS'.out
      injection ev2 with z4 z5 z6
      obtain ⟨bd, u1, u2, u3, hbd, y0, y1, y2, y3, g1, g2, g3⟩ := dgoal_at hC2 hc
      have had3 := z4.trans hbd
      have HX := Lib.hid (fun W (hb : Below w.heap.size w W) => eq_goal_c cc v1 v2 v3 u1 u2 u3 W (Kd.S_ext hb h1) (Kd.S_ext hb h2) (Kd.S_ext hb h3) (Kd.S_ext hb g1) (Kd.S_ext hb g2) (Kd.S_ext hb g3) (HL.out cc (List.mem_of_getElem? hc)))
      have hk1 := h1
      have gk1 := g1
      obtain ⟨E1, f1, rfl, -, -, -⟩ := hk1
      obtain ⟨F1, m1, rfl, -, -, -⟩ := gk1
      have hk2 := h2
      have gk2 := g2
      obtain ⟨E2, f2, rfl, -, -, -⟩ := hk2
      obtain ⟨F2, m2, rfl, -, -, -⟩ := gk2
      have hk3 := h3
      have gk3 := g3
      obtain ⟨E3, f3, rfl, -, -, -⟩ := hk3
      obtain ⟨F3, m3, rfl, -, -, -⟩ := gk3
      have x0 := cell_keep HBr.out x0
      have y0 := cell_keep HBr.out y0
      have x1 := cell_keep HBr.out x1
      have y1 := cell_keep HBr.out y1
      have x2 := cell_keep HBr.out x2
      have y2 := cell_keep HBr.out y2
      have x3 := cell_keep HBr.out x3
      have y3 := cell_keep HBr.out y3
      clear z1 z2 z3 z4 z5 z6 had hbd hC hC2 hc h1 h2 h3 g1 g2 g3
      subst had2
      subst had3
      have hst : ∀ W W', Below W.heap.size W W' → (W.cell? (ad.add (k * 4)) = some (.int .i64 cc.k) ∧ W.cell? ⟨(ad.add (k * 4)).block, (ad.add (k * 4)).off + 1, none⟩ = some (.slice E1 cc.a.length f1) ∧ W.cell? ⟨(ad.add (k * 4)).block, (ad.add (k * 4)).off + 2, none⟩ = some (.slice E2 cc.b.length f2) ∧ W.cell? ⟨(ad.add (k * 4)).block, (ad.add (k * 4)).off + 3, none⟩ = some (.slice E3 cc.c.length f3) ∧ W.cell? (bd.add (k * 4)) = some (.int .i64 cc.k) ∧ W.cell? ⟨(bd.add (k * 4)).block, (bd.add (k * 4)).off + 1, none⟩ = some (.slice F1 cc.a.length m1) ∧ W.cell? ⟨(bd.add (k * 4)).block, (bd.add (k * 4)).off + 2, none⟩ = some (.slice F2 cc.b.length m2) ∧ W.cell? ⟨(bd.add (k * 4)).block, (bd.add (k * 4)).off + 3, none⟩ = some (.slice F3 cc.c.length m3) ∧ Hid (Below w.heap.size w W)) → (W'.cell? (ad.add (k * 4)) = some (.int .i64 cc.k) ∧ W'.cell? ⟨(ad.add (k * 4)).block, (ad.add (k * 4)).off + 1, none⟩ = some (.slice E1 cc.a.length f1) ∧ W'.cell? ⟨(ad.add (k * 4)).block, (ad.add (k * 4)).off + 2, none⟩ = some (.slice E2 cc.b.length f2) ∧ W'.cell? ⟨(ad.add (k * 4)).block, (ad.add (k * 4)).off + 3, none⟩ = some (.slice E3 cc.c.length f3) ∧ W'.cell? (bd.add (k * 4)) = some (.int .i64 cc.k) ∧ W'.cell? ⟨(bd.add (k * 4)).block, (bd.add (k * 4)).off + 1, none⟩ = some (.slice F1 cc.a.length m1) ∧ W'.cell? ⟨(bd.add (k * 4)).block, (bd.add (k * 4)).off + 2, none⟩ = some (.slice F2 cc.b.length m2) ∧ W'.cell? ⟨(bd.add (k * 4)).block, (bd.add (k * 4)).off + 3, none⟩ = some (.slice F3 cc.c.length m3) ∧ Hid (Below w.heap.size w W')) := fun W W' hb h =>
        ⟨cell_keep hb h.1, cell_keep hb h.2.1, cell_keep hb h.2.2.1, cell_keep hb h.2.2.2.1, cell_keep hb h.2.2.2.2.1, cell_keep hb h.2.2.2.2.2.1, cell_keep hb h.2.2.2.2.2.2.1, cell_keep hb h.2.2.2.2.2.2.2.1, Lib.hid (bel_trans h.2.2.2.2.2.2.2.2.out hb)⟩
      go_upto_region 6 with (fail)
      have hS0 := hst wr wr.drew (bel_drew (Below.refl _ _)) ⟨x0, x1, x2, x3, y0, y1, y2, y3, HBr⟩
      go_region_held3 (fun W => W.cell? (ad.add (k * 4)) = some (.int .i64 cc.k) ∧ W.cell? ⟨(ad.add (k * 4)).block, (ad.add (k * 4)).off + 1, none⟩ = some (.slice E1 cc.a.length f1) ∧ W.cell? ⟨(ad.add (k * 4)).block, (ad.add (k * 4)).off + 2, none⟩ = some (.slice E2 cc.b.length f2) ∧ W.cell? ⟨(ad.add (k * 4)).block, (ad.add (k * 4)).off + 3, none⟩ = some (.slice E3 cc.c.length f3) ∧ W.cell? (bd.add (k * 4)) = some (.int .i64 cc.k) ∧ W.cell? ⟨(bd.add (k * 4)).block, (bd.add (k * 4)).off + 1, none⟩ = some (.slice F1 cc.a.length m1) ∧ W.cell? ⟨(bd.add (k * 4)).block, (bd.add (k * 4)).off + 2, none⟩ = some (.slice F2 cc.b.length m2) ∧ W.cell? ⟨(bd.add (k * 4)).block, (bd.add (k * 4)).off + 3, none⟩ = some (.slice F3 cc.c.length m3) ∧ Hid (Below w.heap.size w W)) (assumption) ((go_at_call 182; refine (HX.out _ hS0.2.2.2.2.2.2.2.2.out).mono ?_; rintro e w2 ⟨rfl, hb2⟩; have hS1 := hst _ _ hb2 (by assumption); clear hb2))
      all_goals
        have HB2 := hS1.2.2.2.2.2.2.2.2
        clear hst hS0
        go_wp2
        exact ⟨⟨k + 1, by go_num, hlt, HB2⟩, by simp [intOf]; omega⟩
    · go_wp2
      go_ret
      exact ⟨rfl, HBr.out⟩
theorem eq_clause_c (x : Clause) (v1 v2 u1 u2 : Value) (w : World) (h1 : Kd.cell.S 112 w v1 x.head) (h2 : Kd.goal.S 137 w v2 x.body) (g1 : Kd.cell.S 112 w u1 x.head) (g2 : Kd.goal.S 137 w u2 x.body) (hl : mz_clause x ≤ 1048576) :
    Calls Tryz.prog 112 #[.agg #[v1, v2], .agg #[u1, u2]] w fun e w' => e = .returned (.bool true) ∧ Below w.heap.size w w' := by
  have HX0 := Lib.hid (fun W hb => eq_cellS_c x.head v1 u1 W (Kd.S_ext (w := w) hb h1) (Kd.S_ext (w := w) hb g1) (by unfold mz_clause at hl; omega))
  have HX1 := Lib.hid (fun W hb => eq_goalS_c x.body v2 u2 W (Kd.S_ext (w := w) hb h2) (Kd.S_ext (w := w) hb g2) (by unfold mz_clause at hl; omega))
  have hk1 := h1
  have gk1 := g1
  obtain ⟨A1, c1, rfl, -, -, -⟩ := hk1
  obtain ⟨B1, d1, rfl, -, -, -⟩ := gk1
  have hk2 := h2
  have gk2 := g2
  obtain ⟨A2, c2, rfl, -, -, -⟩ := hk2
  obtain ⟨B2, d2, rfl, -, -, -⟩ := gk2
  clear hl h1 h2 g1 g2
  have HB0 := Lib.hid (show Below w.heap.size w ((w.alloc (.cells #[.slice A1 x.head.length c1, .slice A2 x.body.length c2] 92)).alloc (.cells #[.slice B1 x.head.length d1, .slice B2 x.body.length d2] 92)) from bel_alloc (bel_alloc (Below.refl _ _) _) _)
  have HP0 := Lib.hid (Bx.alloc (Bx.new w 92 #[.slice A1 x.head.length c1, .slice A2 x.body.length c2]) (.cells #[.slice B1 x.head.length d1, .slice B2 x.body.length d2] 92))
  have HQ0 := Lib.hid (show Bx ((w.alloc (.cells #[.slice A1 x.head.length c1, .slice A2 x.body.length c2] 92)).alloc (.cells #[.slice B1 x.head.length d1, .slice B2 x.body.length d2] 92)) (w.heap.size + 1) 92 #[.slice B1 x.head.length d1, .slice B2 x.body.length d2] from by have := Bx.new (w.alloc (.cells #[.slice A1 x.head.length c1, .slice A2 x.body.length c2] 92)) 92 #[.slice B1 x.head.length d1, .slice B2 x.body.length d2]; rwa [size_alloc] at this)
  go_enter Tryz.func112, Tryz.ntmps112
  go_wp2_with (first | (go_at_call 33; (with_reducible refine (HX0.out _ HB0.out).mono ?_); rintro e w1 ⟨rfl, hb1⟩; have HB1 := Lib.hid (bel_trans HB0.out hb1); have HP1 := Lib.hid (Bx.below HP0.out hb1); have HQ1 := Lib.hid (Bx.below HQ0.out hb1); have p1_0 : w1.cell? ⟨w.heap.size, 0, none⟩ = some (.slice A1 x.head.length c1) := Bx.cell HP1.out 0; have q1_0 : w1.cell? ⟨w.heap.size + 1, 0, none⟩ = some (.slice B1 x.head.length d1) := Bx.cell HQ1.out 0; have p1_1 : w1.cell? ⟨w.heap.size, 1, none⟩ = some (.slice A2 x.body.length c2) := Bx.cell HP1.out 1; have q1_1 : w1.cell? ⟨w.heap.size + 1, 1, none⟩ = some (.slice B2 x.body.length d2) := Bx.cell HQ1.out 1; clear hb1) | (go_at_call 153; (with_reducible refine (HX1.out _ HB1.out).mono ?_); rintro e w2 ⟨rfl, hb2⟩; have HB2 := Lib.hid (bel_trans HB1.out hb2); have HP2 := Lib.hid (Bx.below HP1.out hb2); have HQ2 := Lib.hid (Bx.below HQ1.out hb2); have p2_0 : w2.cell? ⟨w.heap.size, 0, none⟩ = some (.slice A1 x.head.length c1) := Bx.cell HP2.out 0; have q2_0 : w2.cell? ⟨w.heap.size + 1, 0, none⟩ = some (.slice B1 x.head.length d1) := Bx.cell HQ2.out 0; have p2_1 : w2.cell? ⟨w.heap.size, 1, none⟩ = some (.slice A2 x.body.length c2) := Bx.cell HP2.out 1; have q2_1 : w2.cell? ⟨w.heap.size + 1, 1, none⟩ = some (.slice B2 x.body.length d2) := Bx.cell HQ2.out 1; clear hb2))
  go_ret
  exact ⟨rfl, HB2.out⟩
theorem eq_clauseS_c (D : List Clause) (v v' : Value) (w : World) (hS : Kd.clause.S 92 w v D) (hS' : Kd.clause.S 92 w v' D) (hl : szL mz_clause D ≤ 1048576) :
    Calls Tryz.prog 69 #[v, v'] w fun e w' => e = .returned (.bool true) ∧ Below w.heap.size w w' := by
  have HS := Lib.hid hS
  have HS' := Lib.hid hS'
  have hlen : D.length ≤ 1048576 := Nat.le_trans szL_len hl
  have HL := Lib.hid (fun x (hx : x ∈ D) => Nat.le_trans (szL_mem (m := mz_clause) hx) hl)
  obtain ⟨A, c, rfl, a1, a2, -⟩ := hS
  obtain ⟨A', c', rfl, b1, b2, -⟩ := hS'
  clear hl
  go_enter Tryz.func69, Tryz.ntmps69
  go_wp2
  go_loopw [5] (fun v5 wr => ∃ k : Nat, v5 = .int .i64 k ∧ k ≤ D.length ∧ Hid (Below w.heap.size w wr)) (fun v5 _ => D.length - (intOf v5).toNat)
  case atStart => exact ⟨0, rfl, Nat.zero_le _, Lib.hid (Below.refl _ _)⟩
  case round =>
    obtain ⟨k, rfl, hk, HBr⟩ := hrel
    by_cases hlt : k < D.length
    · obtain ⟨cc, hc⟩ : ∃ cc, D[k]? = some cc := ⟨_, List.getElem?_eq_getElem hlt⟩
      obtain ⟨A1, c1, ev, _, _, hC⟩ := HS.out
      injection ev with z1 z2 z3
      obtain ⟨ad, v1, v2, had, x0, x1, h1, h2⟩ := dclause_at hC hc
      have had2 := z1.trans had
      obtain ⟨A2, c2, ev2, _, _, hC2⟩ := HS'.out
      injection ev2 with z4 z5 z6
      obtain ⟨bd, u1, u2, hbd, y0, y1, g1, g2⟩ := dclause_at hC2 hc
      have had3 := z4.trans hbd
      have HX := Lib.hid (fun W (hb : Below w.heap.size w W) => eq_clause_c cc v1 v2 u1 u2 W (Kd.S_ext hb h1) (Kd.S_ext hb h2) (Kd.S_ext hb g1) (Kd.S_ext hb g2) (HL.out cc (List.mem_of_getElem? hc)))
      have hk1 := h1
      have gk1 := g1
      obtain ⟨E1, f1, rfl, -, -, -⟩ := hk1
      obtain ⟨F1, m1, rfl, -, -, -⟩ := gk1
      have hk2 := h2
      have gk2 := g2
      obtain ⟨E2, f2, rfl, -, -, -⟩ := hk2
      obtain ⟨F2, m2, rfl, -, -, -⟩ := gk2
      have x0 := cell_keep HBr.out x0
      have y0 := cell_keep HBr.out y0
      have x1 := cell_keep HBr.out x1
      have y1 := cell_keep HBr.out y1
      clear z1 z2 z3 z4 z5 z6 had hbd hC hC2 hc h1 h2 g1 g2
      subst had2
      subst had3
      have hst : ∀ W W', Below W.heap.size W W' → (W.cell? (ad.add (k * 2)) = some (.slice E1 cc.head.length f1) ∧ W.cell? ⟨(ad.add (k * 2)).block, (ad.add (k * 2)).off + 1, none⟩ = some (.slice E2 cc.body.length f2) ∧ W.cell? (bd.add (k * 2)) = some (.slice F1 cc.head.length m1) ∧ W.cell? ⟨(bd.add (k * 2)).block, (bd.add (k * 2)).off + 1, none⟩ = some (.slice F2 cc.body.length m2) ∧ Hid (Below w.heap.size w W)) → (W'.cell? (ad.add (k * 2)) = some (.slice E1 cc.head.length f1) ∧ W'.cell? ⟨(ad.add (k * 2)).block, (ad.add (k * 2)).off + 1, none⟩ = some (.slice E2 cc.body.length f2) ∧ W'.cell? (bd.add (k * 2)) = some (.slice F1 cc.head.length m1) ∧ W'.cell? ⟨(bd.add (k * 2)).block, (bd.add (k * 2)).off + 1, none⟩ = some (.slice F2 cc.body.length m2) ∧ Hid (Below w.heap.size w W')) := fun W W' hb h =>
        ⟨cell_keep hb h.1, cell_keep hb h.2.1, cell_keep hb h.2.2.1, cell_keep hb h.2.2.2.1, Lib.hid (bel_trans h.2.2.2.2.out hb)⟩
      go_upto_region 6 with (fail)
      have hS0 := hst wr wr.drew (bel_drew (Below.refl _ _)) ⟨x0, x1, y0, y1, HBr⟩
      go_region_held3 (fun W => W.cell? (ad.add (k * 2)) = some (.slice E1 cc.head.length f1) ∧ W.cell? ⟨(ad.add (k * 2)).block, (ad.add (k * 2)).off + 1, none⟩ = some (.slice E2 cc.body.length f2) ∧ W.cell? (bd.add (k * 2)) = some (.slice F1 cc.head.length m1) ∧ W.cell? ⟨(bd.add (k * 2)).block, (bd.add (k * 2)).off + 1, none⟩ = some (.slice F2 cc.body.length m2) ∧ Hid (Below w.heap.size w W)) (assumption) ((go_at_call 112; refine (HX.out _ hS0.2.2.2.2.out).mono ?_; rintro e w2 ⟨rfl, hb2⟩; have hS1 := hst _ _ hb2 (by assumption); clear hb2))
      all_goals
        have HB2 := hS1.2.2.2.2
        clear hst hS0
        go_wp2
        exact ⟨⟨k + 1, by go_num, hlt, HB2⟩, by simp [intOf]; omega⟩
    · go_wp2
      go_ret
      exact ⟨rfl, HBr.out⟩
theorem eq_place_c (x : Place)  (w : World)   (hl : mz_place x ≤ 1048576) :
    Calls Tryz.prog 113 #[.agg #[.string x.name, .int .i64 x.n, .int .i64 x.node], .agg #[.string x.name, .int .i64 x.n, .int .i64 x.node]] w fun e w' => e = .returned (.bool true) ∧ Below w.heap.size w w' := by
  have HB := Lib.hid (fun a b => bel_alloc (bel_alloc (Below.refl w.heap.size w) a) b)
  clear hl
  go_enter Tryz.func113, Tryz.ntmps113
  go_wp2
  go_ret
  exact ⟨rfl, HB.out _ _⟩
theorem eq_placeS_c (D : List Place) (v v' : Value) (w : World) (hS : Kd.place.S 95 w v D) (hS' : Kd.place.S 95 w v' D) (hl : szL mz_place D ≤ 1048576) :
    Calls Tryz.prog 70 #[v, v'] w fun e w' => e = .returned (.bool true) ∧ Below w.heap.size w w' := by
  have HS := Lib.hid hS
  have HS' := Lib.hid hS'
  have hlen : D.length ≤ 1048576 := Nat.le_trans szL_len hl
  have HL := Lib.hid (fun x (hx : x ∈ D) => Nat.le_trans (szL_mem (m := mz_place) hx) hl)
  obtain ⟨A, c, rfl, a1, a2, -⟩ := hS
  obtain ⟨A', c', rfl, b1, b2, -⟩ := hS'
  clear hl
  go_enter Tryz.func70, Tryz.ntmps70
  go_wp2
  go_loopw [5] (fun v5 wr => ∃ k : Nat, v5 = .int .i64 k ∧ k ≤ D.length ∧ Hid (Below w.heap.size w wr)) (fun v5 _ => D.length - (intOf v5).toNat)
  case atStart => exact ⟨0, rfl, Nat.zero_le _, Lib.hid (Below.refl _ _)⟩
  case round =>
    obtain ⟨k, rfl, hk, HBr⟩ := hrel
    by_cases hlt : k < D.length
    · obtain ⟨cc, hc⟩ : ∃ cc, D[k]? = some cc := ⟨_, List.getElem?_eq_getElem hlt⟩
      obtain ⟨A1, c1, ev, _, _, hC⟩ := HS.out
      injection ev with z1 z2 z3
      obtain ⟨ad, had, x0, x1, x2⟩ := dplace_at hC hc
      have had2 := z1.trans had
      obtain ⟨A2, c2, ev2, _, _, hC2⟩ := HS'.out
      injection ev2 with z4 z5 z6
      obtain ⟨bd, hbd, y0, y1, y2⟩ := dplace_at hC2 hc
      have had3 := z4.trans hbd
      have HX := Lib.hid (fun W (hb : Below w.heap.size w W) => eq_place_c cc  W   (HL.out cc (List.mem_of_getElem? hc)))
      have x0 := cell_keep HBr.out x0
      have y0 := cell_keep HBr.out y0
      have x1 := cell_keep HBr.out x1
      have y1 := cell_keep HBr.out y1
      have x2 := cell_keep HBr.out x2
      have y2 := cell_keep HBr.out y2
      clear z1 z2 z3 z4 z5 z6 had hbd hC hC2 hc 
      subst had2
      subst had3
      have hst : ∀ W W', Below W.heap.size W W' → (W.cell? (ad.add (k * 3)) = some (.string cc.name) ∧ W.cell? ⟨(ad.add (k * 3)).block, (ad.add (k * 3)).off + 1, none⟩ = some (.int .i64 cc.n) ∧ W.cell? ⟨(ad.add (k * 3)).block, (ad.add (k * 3)).off + 2, none⟩ = some (.int .i64 cc.node) ∧ W.cell? (bd.add (k * 3)) = some (.string cc.name) ∧ W.cell? ⟨(bd.add (k * 3)).block, (bd.add (k * 3)).off + 1, none⟩ = some (.int .i64 cc.n) ∧ W.cell? ⟨(bd.add (k * 3)).block, (bd.add (k * 3)).off + 2, none⟩ = some (.int .i64 cc.node) ∧ Hid (Below w.heap.size w W)) → (W'.cell? (ad.add (k * 3)) = some (.string cc.name) ∧ W'.cell? ⟨(ad.add (k * 3)).block, (ad.add (k * 3)).off + 1, none⟩ = some (.int .i64 cc.n) ∧ W'.cell? ⟨(ad.add (k * 3)).block, (ad.add (k * 3)).off + 2, none⟩ = some (.int .i64 cc.node) ∧ W'.cell? (bd.add (k * 3)) = some (.string cc.name) ∧ W'.cell? ⟨(bd.add (k * 3)).block, (bd.add (k * 3)).off + 1, none⟩ = some (.int .i64 cc.n) ∧ W'.cell? ⟨(bd.add (k * 3)).block, (bd.add (k * 3)).off + 2, none⟩ = some (.int .i64 cc.node) ∧ Hid (Below w.heap.size w W')) := fun W W' hb h =>
        ⟨cell_keep hb h.1, cell_keep hb h.2.1, cell_keep hb h.2.2.1, cell_keep hb h.2.2.2.1, cell_keep hb h.2.2.2.2.1, cell_keep hb h.2.2.2.2.2.1, Lib.hid (bel_trans h.2.2.2.2.2.2.out hb)⟩
      go_upto_region 6 with (fail)
      have hS0 := hst wr wr.drew (bel_drew (Below.refl _ _)) ⟨x0, x1, x2, y0, y1, y2, HBr⟩
      go_region_held3 (fun W => W.cell? (ad.add (k * 3)) = some (.string cc.name) ∧ W.cell? ⟨(ad.add (k * 3)).block, (ad.add (k * 3)).off + 1, none⟩ = some (.int .i64 cc.n) ∧ W.cell? ⟨(ad.add (k * 3)).block, (ad.add (k * 3)).off + 2, none⟩ = some (.int .i64 cc.node) ∧ W.cell? (bd.add (k * 3)) = some (.string cc.name) ∧ W.cell? ⟨(bd.add (k * 3)).block, (bd.add (k * 3)).off + 1, none⟩ = some (.int .i64 cc.n) ∧ W.cell? ⟨(bd.add (k * 3)).block, (bd.add (k * 3)).off + 2, none⟩ = some (.int .i64 cc.node) ∧ Hid (Below w.heap.size w W)) (assumption) ((go_at_call 113; refine (HX.out _ hS0.2.2.2.2.2.2.out).mono ?_; rintro e w2 ⟨rfl, hb2⟩; have hS1 := hst _ _ hb2 (by assumption); clear hb2))
      all_goals
        have HB2 := hS1.2.2.2.2.2.2
        clear hst hS0
        go_wp2
        exact ⟨⟨k + 1, by go_num, hlt, HB2⟩, by simp [intOf]; omega⟩
    · go_wp2
      go_ret
      exact ⟨rfl, HBr.out⟩
theorem eq_prog_c (x : Prog) (v1 v2 u1 u2 : Value) (w : World) (h1 : Kd.clause.S 92 w v1 x.cl) (h2 : Kd.place.S 95 w v2 x.pl) (g1 : Kd.clause.S 92 w u1 x.cl) (g2 : Kd.place.S 95 w u2 x.pl) (hl : mz_prog x ≤ 1048576) :
    Calls Tryz.prog 31 #[.agg #[v1, v2], .agg #[u1, u2]] w fun e w' => e = .returned (.bool true) ∧ Below w.heap.size w w' := by
  have HX0 := Lib.hid (fun W hb => eq_clauseS_c x.cl v1 u1 W (Kd.S_ext (w := w) hb h1) (Kd.S_ext (w := w) hb g1) (by unfold mz_prog at hl; omega))
  have HX1 := Lib.hid (fun W hb => eq_placeS_c x.pl v2 u2 W (Kd.S_ext (w := w) hb h2) (Kd.S_ext (w := w) hb g2) (by unfold mz_prog at hl; omega))
  have hk1 := h1
  have gk1 := g1
  obtain ⟨A1, c1, rfl, -, -, -⟩ := hk1
  obtain ⟨B1, d1, rfl, -, -, -⟩ := gk1
  have hk2 := h2
  have gk2 := g2
  obtain ⟨A2, c2, rfl, -, -, -⟩ := hk2
  obtain ⟨B2, d2, rfl, -, -, -⟩ := gk2
  clear hl h1 h2 g1 g2
  have HB0 := Lib.hid (show Below w.heap.size w ((w.alloc (.cells #[.slice A1 x.cl.length c1, .slice A2 x.pl.length c2] 37)).alloc (.cells #[.slice B1 x.cl.length d1, .slice B2 x.pl.length d2] 37)) from bel_alloc (bel_alloc (Below.refl _ _) _) _)
  have HP0 := Lib.hid (Bx.alloc (Bx.new w 37 #[.slice A1 x.cl.length c1, .slice A2 x.pl.length c2]) (.cells #[.slice B1 x.cl.length d1, .slice B2 x.pl.length d2] 37))
  have HQ0 := Lib.hid (show Bx ((w.alloc (.cells #[.slice A1 x.cl.length c1, .slice A2 x.pl.length c2] 37)).alloc (.cells #[.slice B1 x.cl.length d1, .slice B2 x.pl.length d2] 37)) (w.heap.size + 1) 37 #[.slice B1 x.cl.length d1, .slice B2 x.pl.length d2] from by have := Bx.new (w.alloc (.cells #[.slice A1 x.cl.length c1, .slice A2 x.pl.length c2] 37)) 37 #[.slice B1 x.cl.length d1, .slice B2 x.pl.length d2]; rwa [size_alloc] at this)
  go_enter Tryz.func31, Tryz.ntmps31
  go_wp2_with (first | (go_at_call 69; (with_reducible refine (HX0.out _ HB0.out).mono ?_); rintro e w1 ⟨rfl, hb1⟩; have HB1 := Lib.hid (bel_trans HB0.out hb1); have HP1 := Lib.hid (Bx.below HP0.out hb1); have HQ1 := Lib.hid (Bx.below HQ0.out hb1); have p1_0 : w1.cell? ⟨w.heap.size, 0, none⟩ = some (.slice A1 x.cl.length c1) := Bx.cell HP1.out 0; have q1_0 : w1.cell? ⟨w.heap.size + 1, 0, none⟩ = some (.slice B1 x.cl.length d1) := Bx.cell HQ1.out 0; have p1_1 : w1.cell? ⟨w.heap.size, 1, none⟩ = some (.slice A2 x.pl.length c2) := Bx.cell HP1.out 1; have q1_1 : w1.cell? ⟨w.heap.size + 1, 1, none⟩ = some (.slice B2 x.pl.length d2) := Bx.cell HQ1.out 1; clear hb1) | (go_at_call 70; (with_reducible refine (HX1.out _ HB1.out).mono ?_); rintro e w2 ⟨rfl, hb2⟩; have HB2 := Lib.hid (bel_trans HB1.out hb2); have HP2 := Lib.hid (Bx.below HP1.out hb2); have HQ2 := Lib.hid (Bx.below HQ1.out hb2); have p2_0 : w2.cell? ⟨w.heap.size, 0, none⟩ = some (.slice A1 x.cl.length c1) := Bx.cell HP2.out 0; have q2_0 : w2.cell? ⟨w.heap.size + 1, 0, none⟩ = some (.slice B1 x.cl.length d1) := Bx.cell HQ2.out 0; have p2_1 : w2.cell? ⟨w.heap.size, 1, none⟩ = some (.slice A2 x.pl.length c2) := Bx.cell HP2.out 1; have q2_1 : w2.cell? ⟨w.heap.size + 1, 1, none⟩ = some (.slice B2 x.pl.length d2) := Bx.cell HQ2.out 1; clear hb2))
  go_ret
  exact ⟨rfl, HB2.out⟩
theorem eq_sgoal_c (x : SGoal) (v1 v2 v3 u1 u2 u3 : Value) (w : World) (h1 : Kd.cell.S 112 w v1 x.g.a) (h2 : Kd.cell.S 112 w v2 x.g.b) (h3 : Kd.cell.S 112 w v3 x.g.c) (g1 : Kd.cell.S 112 w u1 x.g.a) (g2 : Kd.cell.S 112 w u2 x.g.b) (g3 : Kd.cell.S 112 w u3 x.g.c) (hl : mz_sgoal x ≤ 1048576) :
    Calls Tryz.prog 210 #[.agg #[.int .i64 x.g.k, v1, v2, v3, .int .i64 x.cut], .agg #[.int .i64 x.g.k, u1, u2, u3, .int .i64 x.cut]] w fun e w' => e = .returned (.bool true) ∧ Below w.heap.size w w' := by
  have HX0 := Lib.hid (fun W (hb : Below w.heap.size w W) => eq_goal_c x.g v1 v2 v3 u1 u2 u3 W (Kd.S_ext hb h1) (Kd.S_ext hb h2) (Kd.S_ext hb h3) (Kd.S_ext hb g1) (Kd.S_ext hb g2) (Kd.S_ext hb g3) (by unfold mz_sgoal at hl; omega))
  have hk1 := h1
  have gk1 := g1
  obtain ⟨A1, c1, rfl, -, -, -⟩ := hk1
  obtain ⟨B1, d1, rfl, -, -, -⟩ := gk1
  have hk2 := h2
  have gk2 := g2
  obtain ⟨A2, c2, rfl, -, -, -⟩ := hk2
  obtain ⟨B2, d2, rfl, -, -, -⟩ := gk2
  have hk3 := h3
  have gk3 := g3
  obtain ⟨A3, c3, rfl, -, -, -⟩ := hk3
  obtain ⟨B3, d3, rfl, -, -, -⟩ := gk3
  clear hl h1 h2 h3 g1 g2 g3
  have HB0 := Lib.hid (show Below w.heap.size w ((w.alloc (.cells #[.int .i64 x.g.k, .slice A1 x.g.a.length c1, .slice A2 x.g.b.length c2, .slice A3 x.g.c.length c3, .int .i64 x.cut] 219)).alloc (.cells #[.int .i64 x.g.k, .slice B1 x.g.a.length d1, .slice B2 x.g.b.length d2, .slice B3 x.g.c.length d3, .int .i64 x.cut] 219)) from bel_alloc (bel_alloc (Below.refl _ _) _) _)
  have HP0 := Lib.hid (Bx.alloc (Bx.new w 219 #[.int .i64 x.g.k, .slice A1 x.g.a.length c1, .slice A2 x.g.b.length c2, .slice A3 x.g.c.length c3, .int .i64 x.cut]) (.cells #[.int .i64 x.g.k, .slice B1 x.g.a.length d1, .slice B2 x.g.b.length d2, .slice B3 x.g.c.length d3, .int .i64 x.cut] 219))
  have HQ0 := Lib.hid (show Bx ((w.alloc (.cells #[.int .i64 x.g.k, .slice A1 x.g.a.length c1, .slice A2 x.g.b.length c2, .slice A3 x.g.c.length c3, .int .i64 x.cut] 219)).alloc (.cells #[.int .i64 x.g.k, .slice B1 x.g.a.length d1, .slice B2 x.g.b.length d2, .slice B3 x.g.c.length d3, .int .i64 x.cut] 219)) (w.heap.size + 1) 219 #[.int .i64 x.g.k, .slice B1 x.g.a.length d1, .slice B2 x.g.b.length d2, .slice B3 x.g.c.length d3, .int .i64 x.cut] from by have := Bx.new (w.alloc (.cells #[.int .i64 x.g.k, .slice A1 x.g.a.length c1, .slice A2 x.g.b.length c2, .slice A3 x.g.c.length c3, .int .i64 x.cut] 219)) 219 #[.int .i64 x.g.k, .slice B1 x.g.a.length d1, .slice B2 x.g.b.length d2, .slice B3 x.g.c.length d3, .int .i64 x.cut]; rwa [size_alloc] at this)
  go_enter Tryz.func210, Tryz.ntmps210
  go_wp2_with (first | (go_at_call 182; (with_reducible refine (HX0.out _ HB0.out).mono ?_); rintro e w1 ⟨rfl, hb1⟩; have HB1 := Lib.hid (bel_trans HB0.out hb1); have HP1 := Lib.hid (Bx.below HP0.out hb1); have HQ1 := Lib.hid (Bx.below HQ0.out hb1); have p1_0 : w1.cell? ⟨w.heap.size, 0, none⟩ = some (.int .i64 x.g.k) := Bx.cell HP1.out 0; have q1_0 : w1.cell? ⟨w.heap.size + 1, 0, none⟩ = some (.int .i64 x.g.k) := Bx.cell HQ1.out 0; have p1_1 : w1.cell? ⟨w.heap.size, 1, none⟩ = some (.slice A1 x.g.a.length c1) := Bx.cell HP1.out 1; have q1_1 : w1.cell? ⟨w.heap.size + 1, 1, none⟩ = some (.slice B1 x.g.a.length d1) := Bx.cell HQ1.out 1; have p1_2 : w1.cell? ⟨w.heap.size, 2, none⟩ = some (.slice A2 x.g.b.length c2) := Bx.cell HP1.out 2; have q1_2 : w1.cell? ⟨w.heap.size + 1, 2, none⟩ = some (.slice B2 x.g.b.length d2) := Bx.cell HQ1.out 2; have p1_3 : w1.cell? ⟨w.heap.size, 3, none⟩ = some (.slice A3 x.g.c.length c3) := Bx.cell HP1.out 3; have q1_3 : w1.cell? ⟨w.heap.size + 1, 3, none⟩ = some (.slice B3 x.g.c.length d3) := Bx.cell HQ1.out 3; have p1_4 : w1.cell? ⟨w.heap.size, 4, none⟩ = some (.int .i64 x.cut) := Bx.cell HP1.out 4; have q1_4 : w1.cell? ⟨w.heap.size + 1, 4, none⟩ = some (.int .i64 x.cut) := Bx.cell HQ1.out 4; clear hb1))
  go_ret
  exact ⟨rfl, HB1.out⟩
theorem eq_sgoalS_c (D : List SGoal) (v v' : Value) (w : World) (hS : Kd.sgoal.S 219 w v D) (hS' : Kd.sgoal.S 219 w v' D) (hl : szL mz_sgoal D ≤ 1048576) :
    Calls Tryz.prog 196 #[v, v'] w fun e w' => e = .returned (.bool true) ∧ Below w.heap.size w w' := by
  have HS := Lib.hid hS
  have HS' := Lib.hid hS'
  have hlen : D.length ≤ 1048576 := Nat.le_trans szL_len hl
  have HL := Lib.hid (fun x (hx : x ∈ D) => Nat.le_trans (szL_mem (m := mz_sgoal) hx) hl)
  obtain ⟨A, c, rfl, a1, a2, -⟩ := hS
  obtain ⟨A', c', rfl, b1, b2, -⟩ := hS'
  clear hl
  go_enter Tryz.func196, Tryz.ntmps196
  go_wp2
  go_loopw [5] (fun v5 wr => ∃ k : Nat, v5 = .int .i64 k ∧ k ≤ D.length ∧ Hid (Below w.heap.size w wr)) (fun v5 _ => D.length - (intOf v5).toNat)
  case atStart => exact ⟨0, rfl, Nat.zero_le _, Lib.hid (Below.refl _ _)⟩
  case round =>
    obtain ⟨k, rfl, hk, HBr⟩ := hrel
    by_cases hlt : k < D.length
    · obtain ⟨cc, hc⟩ : ∃ cc, D[k]? = some cc := ⟨_, List.getElem?_eq_getElem hlt⟩
      obtain ⟨A1, c1, ev, _, _, hC⟩ := HS.out
      injection ev with z1 z2 z3
      obtain ⟨ad, v1, v2, v3, had, x0, x1, x2, x3, x4, h1, h2, h3⟩ := dsgoal_at hC hc
      have had2 := z1.trans had
      obtain ⟨A2, c2, ev2, _, _, hC2⟩ := HS'.out
      injection ev2 with z4 z5 z6
      obtain ⟨bd, u1, u2, u3, hbd, y0, y1, y2, y3, y4, g1, g2, g3⟩ := dsgoal_at hC2 hc
      have had3 := z4.trans hbd
      have HX := Lib.hid (fun W (hb : Below w.heap.size w W) => eq_sgoal_c cc v1 v2 v3 u1 u2 u3 W (Kd.S_ext hb h1) (Kd.S_ext hb h2) (Kd.S_ext hb h3) (Kd.S_ext hb g1) (Kd.S_ext hb g2) (Kd.S_ext hb g3) (HL.out cc (List.mem_of_getElem? hc)))
      have hk1 := h1
      have gk1 := g1
      obtain ⟨E1, f1, rfl, -, -, -⟩ := hk1
      obtain ⟨F1, m1, rfl, -, -, -⟩ := gk1
      have hk2 := h2
      have gk2 := g2
      obtain ⟨E2, f2, rfl, -, -, -⟩ := hk2
      obtain ⟨F2, m2, rfl, -, -, -⟩ := gk2
      have hk3 := h3
      have gk3 := g3
      obtain ⟨E3, f3, rfl, -, -, -⟩ := hk3
      obtain ⟨F3, m3, rfl, -, -, -⟩ := gk3
      have x0 := cell_keep HBr.out x0
      have y0 := cell_keep HBr.out y0
      have x1 := cell_keep HBr.out x1
      have y1 := cell_keep HBr.out y1
      have x2 := cell_keep HBr.out x2
      have y2 := cell_keep HBr.out y2
      have x3 := cell_keep HBr.out x3
      have y3 := cell_keep HBr.out y3
      have x4 := cell_keep HBr.out x4
      have y4 := cell_keep HBr.out y4
      clear z1 z2 z3 z4 z5 z6 had hbd hC hC2 hc h1 h2 h3 g1 g2 g3
      subst had2
      subst had3
      have hst : ∀ W W', Below W.heap.size W W' → (W.cell? (ad.add (k * 5)) = some (.int .i64 cc.g.k) ∧ W.cell? ⟨(ad.add (k * 5)).block, (ad.add (k * 5)).off + 1, none⟩ = some (.slice E1 cc.g.a.length f1) ∧ W.cell? ⟨(ad.add (k * 5)).block, (ad.add (k * 5)).off + 2, none⟩ = some (.slice E2 cc.g.b.length f2) ∧ W.cell? ⟨(ad.add (k * 5)).block, (ad.add (k * 5)).off + 3, none⟩ = some (.slice E3 cc.g.c.length f3) ∧ W.cell? ⟨(ad.add (k * 5)).block, (ad.add (k * 5)).off + 4, none⟩ = some (.int .i64 cc.cut) ∧ W.cell? (bd.add (k * 5)) = some (.int .i64 cc.g.k) ∧ W.cell? ⟨(bd.add (k * 5)).block, (bd.add (k * 5)).off + 1, none⟩ = some (.slice F1 cc.g.a.length m1) ∧ W.cell? ⟨(bd.add (k * 5)).block, (bd.add (k * 5)).off + 2, none⟩ = some (.slice F2 cc.g.b.length m2) ∧ W.cell? ⟨(bd.add (k * 5)).block, (bd.add (k * 5)).off + 3, none⟩ = some (.slice F3 cc.g.c.length m3) ∧ W.cell? ⟨(bd.add (k * 5)).block, (bd.add (k * 5)).off + 4, none⟩ = some (.int .i64 cc.cut) ∧ Hid (Below w.heap.size w W)) → (W'.cell? (ad.add (k * 5)) = some (.int .i64 cc.g.k) ∧ W'.cell? ⟨(ad.add (k * 5)).block, (ad.add (k * 5)).off + 1, none⟩ = some (.slice E1 cc.g.a.length f1) ∧ W'.cell? ⟨(ad.add (k * 5)).block, (ad.add (k * 5)).off + 2, none⟩ = some (.slice E2 cc.g.b.length f2) ∧ W'.cell? ⟨(ad.add (k * 5)).block, (ad.add (k * 5)).off + 3, none⟩ = some (.slice E3 cc.g.c.length f3) ∧ W'.cell? ⟨(ad.add (k * 5)).block, (ad.add (k * 5)).off + 4, none⟩ = some (.int .i64 cc.cut) ∧ W'.cell? (bd.add (k * 5)) = some (.int .i64 cc.g.k) ∧ W'.cell? ⟨(bd.add (k * 5)).block, (bd.add (k * 5)).off + 1, none⟩ = some (.slice F1 cc.g.a.length m1) ∧ W'.cell? ⟨(bd.add (k * 5)).block, (bd.add (k * 5)).off + 2, none⟩ = some (.slice F2 cc.g.b.length m2) ∧ W'.cell? ⟨(bd.add (k * 5)).block, (bd.add (k * 5)).off + 3, none⟩ = some (.slice F3 cc.g.c.length m3) ∧ W'.cell? ⟨(bd.add (k * 5)).block, (bd.add (k * 5)).off + 4, none⟩ = some (.int .i64 cc.cut) ∧ Hid (Below w.heap.size w W')) := fun W W' hb h =>
        ⟨cell_keep hb h.1, cell_keep hb h.2.1, cell_keep hb h.2.2.1, cell_keep hb h.2.2.2.1, cell_keep hb h.2.2.2.2.1, cell_keep hb h.2.2.2.2.2.1, cell_keep hb h.2.2.2.2.2.2.1, cell_keep hb h.2.2.2.2.2.2.2.1, cell_keep hb h.2.2.2.2.2.2.2.2.1, cell_keep hb h.2.2.2.2.2.2.2.2.2.1, Lib.hid (bel_trans h.2.2.2.2.2.2.2.2.2.2.out hb)⟩
      go_upto_region 6 with (fail)
      have hS0 := hst wr wr.drew (bel_drew (Below.refl _ _)) ⟨x0, x1, x2, x3, x4, y0, y1, y2, y3, y4, HBr⟩
      go_region_held3 (fun W => W.cell? (ad.add (k * 5)) = some (.int .i64 cc.g.k) ∧ W.cell? ⟨(ad.add (k * 5)).block, (ad.add (k * 5)).off + 1, none⟩ = some (.slice E1 cc.g.a.length f1) ∧ W.cell? ⟨(ad.add (k * 5)).block, (ad.add (k * 5)).off + 2, none⟩ = some (.slice E2 cc.g.b.length f2) ∧ W.cell? ⟨(ad.add (k * 5)).block, (ad.add (k * 5)).off + 3, none⟩ = some (.slice E3 cc.g.c.length f3) ∧ W.cell? ⟨(ad.add (k * 5)).block, (ad.add (k * 5)).off + 4, none⟩ = some (.int .i64 cc.cut) ∧ W.cell? (bd.add (k * 5)) = some (.int .i64 cc.g.k) ∧ W.cell? ⟨(bd.add (k * 5)).block, (bd.add (k * 5)).off + 1, none⟩ = some (.slice F1 cc.g.a.length m1) ∧ W.cell? ⟨(bd.add (k * 5)).block, (bd.add (k * 5)).off + 2, none⟩ = some (.slice F2 cc.g.b.length m2) ∧ W.cell? ⟨(bd.add (k * 5)).block, (bd.add (k * 5)).off + 3, none⟩ = some (.slice F3 cc.g.c.length m3) ∧ W.cell? ⟨(bd.add (k * 5)).block, (bd.add (k * 5)).off + 4, none⟩ = some (.int .i64 cc.cut) ∧ Hid (Below w.heap.size w W)) (assumption) ((go_at_call 210; refine (HX.out _ hS0.2.2.2.2.2.2.2.2.2.2.out).mono ?_; rintro e w2 ⟨rfl, hb2⟩; have hS1 := hst _ _ hb2 (by assumption); clear hb2))
      all_goals
        have HB2 := hS1.2.2.2.2.2.2.2.2.2.2
        clear hst hS0
        go_wp2
        exact ⟨⟨k + 1, by go_num, hlt, HB2⟩, by simp [intOf]; omega⟩
    · go_wp2
      go_ret
      exact ⟨rfl, HBr.out⟩
theorem eq_bind_c (x : (Int × Trm)) (v1 u1 : Value) (w : World) (h1 : Kd.cell.S 112 w v1 x.2) (g1 : Kd.cell.S 112 w u1 x.2) (hl : mz_bind x ≤ 1048576) :
    Calls Tryz.prog 211 #[.agg #[.int .i64 x.1, v1], .agg #[.int .i64 x.1, u1]] w fun e w' => e = .returned (.bool true) ∧ Below w.heap.size w w' := by
  have HX0 := Lib.hid (fun W hb => eq_cellS_c x.2 v1 u1 W (Kd.S_ext (w := w) hb h1) (Kd.S_ext (w := w) hb g1) (by unfold mz_bind at hl; omega))
  have hk1 := h1
  have gk1 := g1
  obtain ⟨A1, c1, rfl, -, -, -⟩ := hk1
  obtain ⟨B1, d1, rfl, -, -, -⟩ := gk1
  clear hl h1 g1
  have HB0 := Lib.hid (show Below w.heap.size w ((w.alloc (.cells #[.int .i64 x.1, .slice A1 x.2.length c1] 216)).alloc (.cells #[.int .i64 x.1, .slice B1 x.2.length d1] 216)) from bel_alloc (bel_alloc (Below.refl _ _) _) _)
  have HP0 := Lib.hid (Bx.alloc (Bx.new w 216 #[.int .i64 x.1, .slice A1 x.2.length c1]) (.cells #[.int .i64 x.1, .slice B1 x.2.length d1] 216))
  have HQ0 := Lib.hid (show Bx ((w.alloc (.cells #[.int .i64 x.1, .slice A1 x.2.length c1] 216)).alloc (.cells #[.int .i64 x.1, .slice B1 x.2.length d1] 216)) (w.heap.size + 1) 216 #[.int .i64 x.1, .slice B1 x.2.length d1] from by have := Bx.new (w.alloc (.cells #[.int .i64 x.1, .slice A1 x.2.length c1] 216)) 216 #[.int .i64 x.1, .slice B1 x.2.length d1]; rwa [size_alloc] at this)
  go_enter Tryz.func211, Tryz.ntmps211
  go_wp2_with (first | (go_at_call 33; (with_reducible refine (HX0.out _ HB0.out).mono ?_); rintro e w1 ⟨rfl, hb1⟩; have HB1 := Lib.hid (bel_trans HB0.out hb1); have HP1 := Lib.hid (Bx.below HP0.out hb1); have HQ1 := Lib.hid (Bx.below HQ0.out hb1); have p1_0 : w1.cell? ⟨w.heap.size, 0, none⟩ = some (.int .i64 x.1) := Bx.cell HP1.out 0; have q1_0 : w1.cell? ⟨w.heap.size + 1, 0, none⟩ = some (.int .i64 x.1) := Bx.cell HQ1.out 0; have p1_1 : w1.cell? ⟨w.heap.size, 1, none⟩ = some (.slice A1 x.2.length c1) := Bx.cell HP1.out 1; have q1_1 : w1.cell? ⟨w.heap.size + 1, 1, none⟩ = some (.slice B1 x.2.length d1) := Bx.cell HQ1.out 1; clear hb1))
  go_ret
  exact ⟨rfl, HB1.out⟩
theorem eq_bindS_c (D : List (Int × Trm)) (v v' : Value) (w : World) (hS : Kd.bind.S 216 w v D) (hS' : Kd.bind.S 216 w v' D) (hl : szL mz_bind D ≤ 1048576) :
    Calls Tryz.prog 197 #[v, v'] w fun e w' => e = .returned (.bool true) ∧ Below w.heap.size w w' := by
  have HS := Lib.hid hS
  have HS' := Lib.hid hS'
  have hlen : D.length ≤ 1048576 := Nat.le_trans szL_len hl
  have HL := Lib.hid (fun x (hx : x ∈ D) => Nat.le_trans (szL_mem (m := mz_bind) hx) hl)
  obtain ⟨A, c, rfl, a1, a2, -⟩ := hS
  obtain ⟨A', c', rfl, b1, b2, -⟩ := hS'
  clear hl
  go_enter Tryz.func197, Tryz.ntmps197
  go_wp2
  go_loopw [5] (fun v5 wr => ∃ k : Nat, v5 = .int .i64 k ∧ k ≤ D.length ∧ Hid (Below w.heap.size w wr)) (fun v5 _ => D.length - (intOf v5).toNat)
  case atStart => exact ⟨0, rfl, Nat.zero_le _, Lib.hid (Below.refl _ _)⟩
  case round =>
    obtain ⟨k, rfl, hk, HBr⟩ := hrel
    by_cases hlt : k < D.length
    · obtain ⟨cc, hc⟩ : ∃ cc, D[k]? = some cc := ⟨_, List.getElem?_eq_getElem hlt⟩
      obtain ⟨A1, c1, ev, _, _, hC⟩ := HS.out
      injection ev with z1 z2 z3
      obtain ⟨ad, v1, had, x0, x1, h1⟩ := dbind_at hC hc
      have had2 := z1.trans had
      obtain ⟨A2, c2, ev2, _, _, hC2⟩ := HS'.out
      injection ev2 with z4 z5 z6
      obtain ⟨bd, u1, hbd, y0, y1, g1⟩ := dbind_at hC2 hc
      have had3 := z4.trans hbd
      have HX := Lib.hid (fun W (hb : Below w.heap.size w W) => eq_bind_c cc v1 u1 W (Kd.S_ext hb h1) (Kd.S_ext hb g1) (HL.out cc (List.mem_of_getElem? hc)))
      have hk1 := h1
      have gk1 := g1
      obtain ⟨E1, f1, rfl, -, -, -⟩ := hk1
      obtain ⟨F1, m1, rfl, -, -, -⟩ := gk1
      have x0 := cell_keep HBr.out x0
      have y0 := cell_keep HBr.out y0
      have x1 := cell_keep HBr.out x1
      have y1 := cell_keep HBr.out y1
      clear z1 z2 z3 z4 z5 z6 had hbd hC hC2 hc h1 g1
      subst had2
      subst had3
      have hst : ∀ W W', Below W.heap.size W W' → (W.cell? (ad.add (k * 2)) = some (.int .i64 cc.1) ∧ W.cell? ⟨(ad.add (k * 2)).block, (ad.add (k * 2)).off + 1, none⟩ = some (.slice E1 cc.2.length f1) ∧ W.cell? (bd.add (k * 2)) = some (.int .i64 cc.1) ∧ W.cell? ⟨(bd.add (k * 2)).block, (bd.add (k * 2)).off + 1, none⟩ = some (.slice F1 cc.2.length m1) ∧ Hid (Below w.heap.size w W)) → (W'.cell? (ad.add (k * 2)) = some (.int .i64 cc.1) ∧ W'.cell? ⟨(ad.add (k * 2)).block, (ad.add (k * 2)).off + 1, none⟩ = some (.slice E1 cc.2.length f1) ∧ W'.cell? (bd.add (k * 2)) = some (.int .i64 cc.1) ∧ W'.cell? ⟨(bd.add (k * 2)).block, (bd.add (k * 2)).off + 1, none⟩ = some (.slice F1 cc.2.length m1) ∧ Hid (Below w.heap.size w W')) := fun W W' hb h =>
        ⟨cell_keep hb h.1, cell_keep hb h.2.1, cell_keep hb h.2.2.1, cell_keep hb h.2.2.2.1, Lib.hid (bel_trans h.2.2.2.2.out hb)⟩
      go_upto_region 6 with (fail)
      have hS0 := hst wr wr.drew (bel_drew (Below.refl _ _)) ⟨x0, x1, y0, y1, HBr⟩
      go_region_held3 (fun W => W.cell? (ad.add (k * 2)) = some (.int .i64 cc.1) ∧ W.cell? ⟨(ad.add (k * 2)).block, (ad.add (k * 2)).off + 1, none⟩ = some (.slice E1 cc.2.length f1) ∧ W.cell? (bd.add (k * 2)) = some (.int .i64 cc.1) ∧ W.cell? ⟨(bd.add (k * 2)).block, (bd.add (k * 2)).off + 1, none⟩ = some (.slice F1 cc.2.length m1) ∧ Hid (Below w.heap.size w W)) (assumption) ((go_at_call 211; refine (HX.out _ hS0.2.2.2.2.out).mono ?_; rintro e w2 ⟨rfl, hb2⟩; have hS1 := hst _ _ hb2 (by assumption); clear hb2))
      all_goals
        have HB2 := hS1.2.2.2.2
        clear hst hS0
        go_wp2
        exact ⟨⟨k + 1, by go_num, hlt, HB2⟩, by simp [intOf]; omega⟩
    · go_wp2
      go_ret
      exact ⟨rfl, HBr.out⟩
theorem eq_tch_c (x : TCh) (v1 v2 u1 u2 : Value) (w : World) (h1 : Kd.sgoal.S 219 w v1 x.goals) (h2 : Kd.cell.S 112 w v2 x.call) (g1 : Kd.sgoal.S 219 w u1 x.goals) (g2 : Kd.cell.S 112 w u2 x.call) (hl : mz_tch x ≤ 1048576) :
    Calls Tryz.prog 212 #[.agg #[v1, .int .i64 x.mark, .int .i64 x.vars, v2, .int .i64 x.next, .int .i64 x.far], .agg #[u1, .int .i64 x.mark, .int .i64 x.vars, u2, .int .i64 x.next, .int .i64 x.far]] w fun e w' => e = .returned (.bool true) ∧ Below w.heap.size w w' := by
  have HX0 := Lib.hid (fun W hb => eq_sgoalS_c x.goals v1 u1 W (Kd.S_ext (w := w) hb h1) (Kd.S_ext (w := w) hb g1) (by unfold mz_tch at hl; omega))
  have HX1 := Lib.hid (fun W hb => eq_cellS_c x.call v2 u2 W (Kd.S_ext (w := w) hb h2) (Kd.S_ext (w := w) hb g2) (by unfold mz_tch at hl; omega))
  have hk1 := h1
  have gk1 := g1
  obtain ⟨A1, c1, rfl, -, -, -⟩ := hk1
  obtain ⟨B1, d1, rfl, -, -, -⟩ := gk1
  have hk2 := h2
  have gk2 := g2
  obtain ⟨A2, c2, rfl, -, -, -⟩ := hk2
  obtain ⟨B2, d2, rfl, -, -, -⟩ := gk2
  clear hl h1 h2 g1 g2
  have HB0 := Lib.hid (show Below w.heap.size w ((w.alloc (.cells #[.slice A1 x.goals.length c1, .int .i64 x.mark, .int .i64 x.vars, .slice A2 x.call.length c2, .int .i64 x.next, .int .i64 x.far] 183)).alloc (.cells #[.slice B1 x.goals.length d1, .int .i64 x.mark, .int .i64 x.vars, .slice B2 x.call.length d2, .int .i64 x.next, .int .i64 x.far] 183)) from bel_alloc (bel_alloc (Below.refl _ _) _) _)
  have HP0 := Lib.hid (Bx.alloc (Bx.new w 183 #[.slice A1 x.goals.length c1, .int .i64 x.mark, .int .i64 x.vars, .slice A2 x.call.length c2, .int .i64 x.next, .int .i64 x.far]) (.cells #[.slice B1 x.goals.length d1, .int .i64 x.mark, .int .i64 x.vars, .slice B2 x.call.length d2, .int .i64 x.next, .int .i64 x.far] 183))
  have HQ0 := Lib.hid (show Bx ((w.alloc (.cells #[.slice A1 x.goals.length c1, .int .i64 x.mark, .int .i64 x.vars, .slice A2 x.call.length c2, .int .i64 x.next, .int .i64 x.far] 183)).alloc (.cells #[.slice B1 x.goals.length d1, .int .i64 x.mark, .int .i64 x.vars, .slice B2 x.call.length d2, .int .i64 x.next, .int .i64 x.far] 183)) (w.heap.size + 1) 183 #[.slice B1 x.goals.length d1, .int .i64 x.mark, .int .i64 x.vars, .slice B2 x.call.length d2, .int .i64 x.next, .int .i64 x.far] from by have := Bx.new (w.alloc (.cells #[.slice A1 x.goals.length c1, .int .i64 x.mark, .int .i64 x.vars, .slice A2 x.call.length c2, .int .i64 x.next, .int .i64 x.far] 183)) 183 #[.slice B1 x.goals.length d1, .int .i64 x.mark, .int .i64 x.vars, .slice B2 x.call.length d2, .int .i64 x.next, .int .i64 x.far]; rwa [size_alloc] at this)
  go_enter Tryz.func212, Tryz.ntmps212
  go_wp2_with (first | (go_at_call 196; (with_reducible refine (HX0.out _ HB0.out).mono ?_); rintro e w1 ⟨rfl, hb1⟩; have HB1 := Lib.hid (bel_trans HB0.out hb1); have HP1 := Lib.hid (Bx.below HP0.out hb1); have HQ1 := Lib.hid (Bx.below HQ0.out hb1); have p1_0 : w1.cell? ⟨w.heap.size, 0, none⟩ = some (.slice A1 x.goals.length c1) := Bx.cell HP1.out 0; have q1_0 : w1.cell? ⟨w.heap.size + 1, 0, none⟩ = some (.slice B1 x.goals.length d1) := Bx.cell HQ1.out 0; have p1_1 : w1.cell? ⟨w.heap.size, 1, none⟩ = some (.int .i64 x.mark) := Bx.cell HP1.out 1; have q1_1 : w1.cell? ⟨w.heap.size + 1, 1, none⟩ = some (.int .i64 x.mark) := Bx.cell HQ1.out 1; have p1_2 : w1.cell? ⟨w.heap.size, 2, none⟩ = some (.int .i64 x.vars) := Bx.cell HP1.out 2; have q1_2 : w1.cell? ⟨w.heap.size + 1, 2, none⟩ = some (.int .i64 x.vars) := Bx.cell HQ1.out 2; have p1_3 : w1.cell? ⟨w.heap.size, 3, none⟩ = some (.slice A2 x.call.length c2) := Bx.cell HP1.out 3; have q1_3 : w1.cell? ⟨w.heap.size + 1, 3, none⟩ = some (.slice B2 x.call.length d2) := Bx.cell HQ1.out 3; have p1_4 : w1.cell? ⟨w.heap.size, 4, none⟩ = some (.int .i64 x.next) := Bx.cell HP1.out 4; have q1_4 : w1.cell? ⟨w.heap.size + 1, 4, none⟩ = some (.int .i64 x.next) := Bx.cell HQ1.out 4; have p1_5 : w1.cell? ⟨w.heap.size, 5, none⟩ = some (.int .i64 x.far) := Bx.cell HP1.out 5; have q1_5 : w1.cell? ⟨w.heap.size + 1, 5, none⟩ = some (.int .i64 x.far) := Bx.cell HQ1.out 5; clear hb1) | (go_at_call 33; (with_reducible refine (HX1.out _ HB1.out).mono ?_); rintro e w2 ⟨rfl, hb2⟩; have HB2 := Lib.hid (bel_trans HB1.out hb2); have HP2 := Lib.hid (Bx.below HP1.out hb2); have HQ2 := Lib.hid (Bx.below HQ1.out hb2); have p2_0 : w2.cell? ⟨w.heap.size, 0, none⟩ = some (.slice A1 x.goals.length c1) := Bx.cell HP2.out 0; have q2_0 : w2.cell? ⟨w.heap.size + 1, 0, none⟩ = some (.slice B1 x.goals.length d1) := Bx.cell HQ2.out 0; have p2_1 : w2.cell? ⟨w.heap.size, 1, none⟩ = some (.int .i64 x.mark) := Bx.cell HP2.out 1; have q2_1 : w2.cell? ⟨w.heap.size + 1, 1, none⟩ = some (.int .i64 x.mark) := Bx.cell HQ2.out 1; have p2_2 : w2.cell? ⟨w.heap.size, 2, none⟩ = some (.int .i64 x.vars) := Bx.cell HP2.out 2; have q2_2 : w2.cell? ⟨w.heap.size + 1, 2, none⟩ = some (.int .i64 x.vars) := Bx.cell HQ2.out 2; have p2_3 : w2.cell? ⟨w.heap.size, 3, none⟩ = some (.slice A2 x.call.length c2) := Bx.cell HP2.out 3; have q2_3 : w2.cell? ⟨w.heap.size + 1, 3, none⟩ = some (.slice B2 x.call.length d2) := Bx.cell HQ2.out 3; have p2_4 : w2.cell? ⟨w.heap.size, 4, none⟩ = some (.int .i64 x.next) := Bx.cell HP2.out 4; have q2_4 : w2.cell? ⟨w.heap.size + 1, 4, none⟩ = some (.int .i64 x.next) := Bx.cell HQ2.out 4; have p2_5 : w2.cell? ⟨w.heap.size, 5, none⟩ = some (.int .i64 x.far) := Bx.cell HP2.out 5; have q2_5 : w2.cell? ⟨w.heap.size + 1, 5, none⟩ = some (.int .i64 x.far) := Bx.cell HQ2.out 5; clear hb2))
  go_ret
  exact ⟨rfl, HB2.out⟩
theorem eq_tchS_c (D : List TCh) (v v' : Value) (w : World) (hS : Kd.tch.S 183 w v D) (hS' : Kd.tch.S 183 w v' D) (hl : szL mz_tch D ≤ 1048576) :
    Calls Tryz.prog 198 #[v, v'] w fun e w' => e = .returned (.bool true) ∧ Below w.heap.size w w' := by
  have HS := Lib.hid hS
  have HS' := Lib.hid hS'
  have hlen : D.length ≤ 1048576 := Nat.le_trans szL_len hl
  have HL := Lib.hid (fun x (hx : x ∈ D) => Nat.le_trans (szL_mem (m := mz_tch) hx) hl)
  obtain ⟨A, c, rfl, a1, a2, -⟩ := hS
  obtain ⟨A', c', rfl, b1, b2, -⟩ := hS'
  clear hl
  go_enter Tryz.func198, Tryz.ntmps198
  go_wp2
  go_loopw [5] (fun v5 wr => ∃ k : Nat, v5 = .int .i64 k ∧ k ≤ D.length ∧ Hid (Below w.heap.size w wr)) (fun v5 _ => D.length - (intOf v5).toNat)
  case atStart => exact ⟨0, rfl, Nat.zero_le _, Lib.hid (Below.refl _ _)⟩
  case round =>
    obtain ⟨k, rfl, hk, HBr⟩ := hrel
    by_cases hlt : k < D.length
    · obtain ⟨cc, hc⟩ : ∃ cc, D[k]? = some cc := ⟨_, List.getElem?_eq_getElem hlt⟩
      obtain ⟨A1, c1, ev, _, _, hC⟩ := HS.out
      injection ev with z1 z2 z3
      obtain ⟨ad, v1, v2, had, x0, x1, x2, x3, x4, x5, h1, h2⟩ := dtch_at hC hc
      have had2 := z1.trans had
      obtain ⟨A2, c2, ev2, _, _, hC2⟩ := HS'.out
      injection ev2 with z4 z5 z6
      obtain ⟨bd, u1, u2, hbd, y0, y1, y2, y3, y4, y5, g1, g2⟩ := dtch_at hC2 hc
      have had3 := z4.trans hbd
      have HX := Lib.hid (fun W (hb : Below w.heap.size w W) => eq_tch_c cc v1 v2 u1 u2 W (Kd.S_ext hb h1) (Kd.S_ext hb h2) (Kd.S_ext hb g1) (Kd.S_ext hb g2) (HL.out cc (List.mem_of_getElem? hc)))
      have hk1 := h1
      have gk1 := g1
      obtain ⟨E1, f1, rfl, -, -, -⟩ := hk1
      obtain ⟨F1, m1, rfl, -, -, -⟩ := gk1
      have hk2 := h2
      have gk2 := g2
      obtain ⟨E2, f2, rfl, -, -, -⟩ := hk2
      obtain ⟨F2, m2, rfl, -, -, -⟩ := gk2
      have x0 := cell_keep HBr.out x0
      have y0 := cell_keep HBr.out y0
      have x1 := cell_keep HBr.out x1
      have y1 := cell_keep HBr.out y1
      have x2 := cell_keep HBr.out x2
      have y2 := cell_keep HBr.out y2
      have x3 := cell_keep HBr.out x3
      have y3 := cell_keep HBr.out y3
      have x4 := cell_keep HBr.out x4
      have y4 := cell_keep HBr.out y4
      have x5 := cell_keep HBr.out x5
      have y5 := cell_keep HBr.out y5
      clear z1 z2 z3 z4 z5 z6 had hbd hC hC2 hc h1 h2 g1 g2
      subst had2
      subst had3
      have hst : ∀ W W', Below W.heap.size W W' → (W.cell? (ad.add (k * 6)) = some (.slice E1 cc.goals.length f1) ∧ W.cell? ⟨(ad.add (k * 6)).block, (ad.add (k * 6)).off + 1, none⟩ = some (.int .i64 cc.mark) ∧ W.cell? ⟨(ad.add (k * 6)).block, (ad.add (k * 6)).off + 2, none⟩ = some (.int .i64 cc.vars) ∧ W.cell? ⟨(ad.add (k * 6)).block, (ad.add (k * 6)).off + 3, none⟩ = some (.slice E2 cc.call.length f2) ∧ W.cell? ⟨(ad.add (k * 6)).block, (ad.add (k * 6)).off + 4, none⟩ = some (.int .i64 cc.next) ∧ W.cell? ⟨(ad.add (k * 6)).block, (ad.add (k * 6)).off + 5, none⟩ = some (.int .i64 cc.far) ∧ W.cell? (bd.add (k * 6)) = some (.slice F1 cc.goals.length m1) ∧ W.cell? ⟨(bd.add (k * 6)).block, (bd.add (k * 6)).off + 1, none⟩ = some (.int .i64 cc.mark) ∧ W.cell? ⟨(bd.add (k * 6)).block, (bd.add (k * 6)).off + 2, none⟩ = some (.int .i64 cc.vars) ∧ W.cell? ⟨(bd.add (k * 6)).block, (bd.add (k * 6)).off + 3, none⟩ = some (.slice F2 cc.call.length m2) ∧ W.cell? ⟨(bd.add (k * 6)).block, (bd.add (k * 6)).off + 4, none⟩ = some (.int .i64 cc.next) ∧ W.cell? ⟨(bd.add (k * 6)).block, (bd.add (k * 6)).off + 5, none⟩ = some (.int .i64 cc.far) ∧ Hid (Below w.heap.size w W)) → (W'.cell? (ad.add (k * 6)) = some (.slice E1 cc.goals.length f1) ∧ W'.cell? ⟨(ad.add (k * 6)).block, (ad.add (k * 6)).off + 1, none⟩ = some (.int .i64 cc.mark) ∧ W'.cell? ⟨(ad.add (k * 6)).block, (ad.add (k * 6)).off + 2, none⟩ = some (.int .i64 cc.vars) ∧ W'.cell? ⟨(ad.add (k * 6)).block, (ad.add (k * 6)).off + 3, none⟩ = some (.slice E2 cc.call.length f2) ∧ W'.cell? ⟨(ad.add (k * 6)).block, (ad.add (k * 6)).off + 4, none⟩ = some (.int .i64 cc.next) ∧ W'.cell? ⟨(ad.add (k * 6)).block, (ad.add (k * 6)).off + 5, none⟩ = some (.int .i64 cc.far) ∧ W'.cell? (bd.add (k * 6)) = some (.slice F1 cc.goals.length m1) ∧ W'.cell? ⟨(bd.add (k * 6)).block, (bd.add (k * 6)).off + 1, none⟩ = some (.int .i64 cc.mark) ∧ W'.cell? ⟨(bd.add (k * 6)).block, (bd.add (k * 6)).off + 2, none⟩ = some (.int .i64 cc.vars) ∧ W'.cell? ⟨(bd.add (k * 6)).block, (bd.add (k * 6)).off + 3, none⟩ = some (.slice F2 cc.call.length m2) ∧ W'.cell? ⟨(bd.add (k * 6)).block, (bd.add (k * 6)).off + 4, none⟩ = some (.int .i64 cc.next) ∧ W'.cell? ⟨(bd.add (k * 6)).block, (bd.add (k * 6)).off + 5, none⟩ = some (.int .i64 cc.far) ∧ Hid (Below w.heap.size w W')) := fun W W' hb h =>
        ⟨cell_keep hb h.1, cell_keep hb h.2.1, cell_keep hb h.2.2.1, cell_keep hb h.2.2.2.1, cell_keep hb h.2.2.2.2.1, cell_keep hb h.2.2.2.2.2.1, cell_keep hb h.2.2.2.2.2.2.1, cell_keep hb h.2.2.2.2.2.2.2.1, cell_keep hb h.2.2.2.2.2.2.2.2.1, cell_keep hb h.2.2.2.2.2.2.2.2.2.1, cell_keep hb h.2.2.2.2.2.2.2.2.2.2.1, cell_keep hb h.2.2.2.2.2.2.2.2.2.2.2.1, Lib.hid (bel_trans h.2.2.2.2.2.2.2.2.2.2.2.2.out hb)⟩
      go_upto_region 6 with (fail)
      have hS0 := hst wr wr.drew (bel_drew (Below.refl _ _)) ⟨x0, x1, x2, x3, x4, x5, y0, y1, y2, y3, y4, y5, HBr⟩
      go_region_held3 (fun W => W.cell? (ad.add (k * 6)) = some (.slice E1 cc.goals.length f1) ∧ W.cell? ⟨(ad.add (k * 6)).block, (ad.add (k * 6)).off + 1, none⟩ = some (.int .i64 cc.mark) ∧ W.cell? ⟨(ad.add (k * 6)).block, (ad.add (k * 6)).off + 2, none⟩ = some (.int .i64 cc.vars) ∧ W.cell? ⟨(ad.add (k * 6)).block, (ad.add (k * 6)).off + 3, none⟩ = some (.slice E2 cc.call.length f2) ∧ W.cell? ⟨(ad.add (k * 6)).block, (ad.add (k * 6)).off + 4, none⟩ = some (.int .i64 cc.next) ∧ W.cell? ⟨(ad.add (k * 6)).block, (ad.add (k * 6)).off + 5, none⟩ = some (.int .i64 cc.far) ∧ W.cell? (bd.add (k * 6)) = some (.slice F1 cc.goals.length m1) ∧ W.cell? ⟨(bd.add (k * 6)).block, (bd.add (k * 6)).off + 1, none⟩ = some (.int .i64 cc.mark) ∧ W.cell? ⟨(bd.add (k * 6)).block, (bd.add (k * 6)).off + 2, none⟩ = some (.int .i64 cc.vars) ∧ W.cell? ⟨(bd.add (k * 6)).block, (bd.add (k * 6)).off + 3, none⟩ = some (.slice F2 cc.call.length m2) ∧ W.cell? ⟨(bd.add (k * 6)).block, (bd.add (k * 6)).off + 4, none⟩ = some (.int .i64 cc.next) ∧ W.cell? ⟨(bd.add (k * 6)).block, (bd.add (k * 6)).off + 5, none⟩ = some (.int .i64 cc.far) ∧ Hid (Below w.heap.size w W)) (assumption) ((go_at_call 212; refine (HX.out _ hS0.2.2.2.2.2.2.2.2.2.2.2.2.out).mono ?_; rintro e w2 ⟨rfl, hb2⟩; have hS1 := hst _ _ hb2 (by assumption); clear hb2))
      all_goals
        have HB2 := hS1.2.2.2.2.2.2.2.2.2.2.2.2
        clear hst hS0
        go_wp2
        exact ⟨⟨k + 1, by go_num, hlt, HB2⟩, by simp [intOf]; omega⟩
    · go_wp2
      go_ret
      exact ⟨rfl, HBr.out⟩
theorem eq_tst_c (x : TSt) (v1 v2 v3 v4 v5 u1 u2 u3 u4 u5 : Value) (w : World) (h1 : Kd.sgoal.S 219 w v1 x.goals) (h2 : Kd.bind.S 216 w v2 x.binds) (h3 : Kd.tch.S 183 w v3 x.ch) (h4 : Kd.cell.S 112 w v4 x.top) (h5 : Kd.cell.S 112 w v5 x.out) (g1 : Kd.sgoal.S 219 w u1 x.goals) (g2 : Kd.bind.S 216 w u2 x.binds) (g3 : Kd.tch.S 183 w u3 x.ch) (g4 : Kd.cell.S 112 w u4 x.top) (g5 : Kd.cell.S 112 w u5 x.out) (hl : mz_tst x ≤ 1048576) :
    Calls Tryz.prog 183 #[.agg #[.int .i64 x.st, v1, v2, .int .i64 x.vars, v3, v4, v5], .agg #[.int .i64 x.st, u1, u2, .int .i64 x.vars, u3, u4, u5]] w fun e w' => e = .returned (.bool true) ∧ Below w.heap.size w w' := by
  have HX0 := Lib.hid (fun W hb => eq_sgoalS_c x.goals v1 u1 W (Kd.S_ext (w := w) hb h1) (Kd.S_ext (w := w) hb g1) (by unfold mz_tst at hl; omega))
  have HX1 := Lib.hid (fun W hb => eq_bindS_c x.binds v2 u2 W (Kd.S_ext (w := w) hb h2) (Kd.S_ext (w := w) hb g2) (by unfold mz_tst at hl; omega))
  have HX2 := Lib.hid (fun W hb => eq_tchS_c x.ch v3 u3 W (Kd.S_ext (w := w) hb h3) (Kd.S_ext (w := w) hb g3) (by unfold mz_tst at hl; omega))
  have HX3 := Lib.hid (fun W hb => eq_cellS_c x.top v4 u4 W (Kd.S_ext (w := w) hb h4) (Kd.S_ext (w := w) hb g4) (by unfold mz_tst at hl; omega))
  have HX4 := Lib.hid (fun W hb => eq_cellS_c x.out v5 u5 W (Kd.S_ext (w := w) hb h5) (Kd.S_ext (w := w) hb g5) (by unfold mz_tst at hl; omega))
  have hk1 := h1
  have gk1 := g1
  obtain ⟨A1, c1, rfl, -, -, -⟩ := hk1
  obtain ⟨B1, d1, rfl, -, -, -⟩ := gk1
  have hk2 := h2
  have gk2 := g2
  obtain ⟨A2, c2, rfl, -, -, -⟩ := hk2
  obtain ⟨B2, d2, rfl, -, -, -⟩ := gk2
  have hk3 := h3
  have gk3 := g3
  obtain ⟨A3, c3, rfl, -, -, -⟩ := hk3
  obtain ⟨B3, d3, rfl, -, -, -⟩ := gk3
  have hk4 := h4
  have gk4 := g4
  obtain ⟨A4, c4, rfl, -, -, -⟩ := hk4
  obtain ⟨B4, d4, rfl, -, -, -⟩ := gk4
  have hk5 := h5
  have gk5 := g5
  obtain ⟨A5, c5, rfl, -, -, -⟩ := hk5
  obtain ⟨B5, d5, rfl, -, -, -⟩ := gk5
  clear hl h1 h2 h3 h4 h5 g1 g2 g3 g4 g5
  have HB0 := Lib.hid (show Below w.heap.size w ((w.alloc (.cells #[.int .i64 x.st, .slice A1 x.goals.length c1, .slice A2 x.binds.length c2, .int .i64 x.vars, .slice A3 x.ch.length c3, .slice A4 x.top.length c4, .slice A5 x.out.length c5] 105)).alloc (.cells #[.int .i64 x.st, .slice B1 x.goals.length d1, .slice B2 x.binds.length d2, .int .i64 x.vars, .slice B3 x.ch.length d3, .slice B4 x.top.length d4, .slice B5 x.out.length d5] 105)) from bel_alloc (bel_alloc (Below.refl _ _) _) _)
  have HP0 := Lib.hid (Bx.alloc (Bx.new w 105 #[.int .i64 x.st, .slice A1 x.goals.length c1, .slice A2 x.binds.length c2, .int .i64 x.vars, .slice A3 x.ch.length c3, .slice A4 x.top.length c4, .slice A5 x.out.length c5]) (.cells #[.int .i64 x.st, .slice B1 x.goals.length d1, .slice B2 x.binds.length d2, .int .i64 x.vars, .slice B3 x.ch.length d3, .slice B4 x.top.length d4, .slice B5 x.out.length d5] 105))
  have HQ0 := Lib.hid (show Bx ((w.alloc (.cells #[.int .i64 x.st, .slice A1 x.goals.length c1, .slice A2 x.binds.length c2, .int .i64 x.vars, .slice A3 x.ch.length c3, .slice A4 x.top.length c4, .slice A5 x.out.length c5] 105)).alloc (.cells #[.int .i64 x.st, .slice B1 x.goals.length d1, .slice B2 x.binds.length d2, .int .i64 x.vars, .slice B3 x.ch.length d3, .slice B4 x.top.length d4, .slice B5 x.out.length d5] 105)) (w.heap.size + 1) 105 #[.int .i64 x.st, .slice B1 x.goals.length d1, .slice B2 x.binds.length d2, .int .i64 x.vars, .slice B3 x.ch.length d3, .slice B4 x.top.length d4, .slice B5 x.out.length d5] from by have := Bx.new (w.alloc (.cells #[.int .i64 x.st, .slice A1 x.goals.length c1, .slice A2 x.binds.length c2, .int .i64 x.vars, .slice A3 x.ch.length c3, .slice A4 x.top.length c4, .slice A5 x.out.length c5] 105)) 105 #[.int .i64 x.st, .slice B1 x.goals.length d1, .slice B2 x.binds.length d2, .int .i64 x.vars, .slice B3 x.ch.length d3, .slice B4 x.top.length d4, .slice B5 x.out.length d5]; rwa [size_alloc] at this)
  go_enter Tryz.func183, Tryz.ntmps183
  go_wp2_with (first | (go_at_call 196; (with_reducible refine (HX0.out _ HB0.out).mono ?_); rintro e w1 ⟨rfl, hb1⟩; have HB1 := Lib.hid (bel_trans HB0.out hb1); have HP1 := Lib.hid (Bx.below HP0.out hb1); have HQ1 := Lib.hid (Bx.below HQ0.out hb1); have p1_0 : w1.cell? ⟨w.heap.size, 0, none⟩ = some (.int .i64 x.st) := Bx.cell HP1.out 0; have q1_0 : w1.cell? ⟨w.heap.size + 1, 0, none⟩ = some (.int .i64 x.st) := Bx.cell HQ1.out 0; have p1_1 : w1.cell? ⟨w.heap.size, 1, none⟩ = some (.slice A1 x.goals.length c1) := Bx.cell HP1.out 1; have q1_1 : w1.cell? ⟨w.heap.size + 1, 1, none⟩ = some (.slice B1 x.goals.length d1) := Bx.cell HQ1.out 1; have p1_2 : w1.cell? ⟨w.heap.size, 2, none⟩ = some (.slice A2 x.binds.length c2) := Bx.cell HP1.out 2; have q1_2 : w1.cell? ⟨w.heap.size + 1, 2, none⟩ = some (.slice B2 x.binds.length d2) := Bx.cell HQ1.out 2; have p1_3 : w1.cell? ⟨w.heap.size, 3, none⟩ = some (.int .i64 x.vars) := Bx.cell HP1.out 3; have q1_3 : w1.cell? ⟨w.heap.size + 1, 3, none⟩ = some (.int .i64 x.vars) := Bx.cell HQ1.out 3; have p1_4 : w1.cell? ⟨w.heap.size, 4, none⟩ = some (.slice A3 x.ch.length c3) := Bx.cell HP1.out 4; have q1_4 : w1.cell? ⟨w.heap.size + 1, 4, none⟩ = some (.slice B3 x.ch.length d3) := Bx.cell HQ1.out 4; have p1_5 : w1.cell? ⟨w.heap.size, 5, none⟩ = some (.slice A4 x.top.length c4) := Bx.cell HP1.out 5; have q1_5 : w1.cell? ⟨w.heap.size + 1, 5, none⟩ = some (.slice B4 x.top.length d4) := Bx.cell HQ1.out 5; have p1_6 : w1.cell? ⟨w.heap.size, 6, none⟩ = some (.slice A5 x.out.length c5) := Bx.cell HP1.out 6; have q1_6 : w1.cell? ⟨w.heap.size + 1, 6, none⟩ = some (.slice B5 x.out.length d5) := Bx.cell HQ1.out 6; clear hb1) | (go_at_call 197; (with_reducible refine (HX1.out _ HB1.out).mono ?_); rintro e w2 ⟨rfl, hb2⟩; have HB2 := Lib.hid (bel_trans HB1.out hb2); have HP2 := Lib.hid (Bx.below HP1.out hb2); have HQ2 := Lib.hid (Bx.below HQ1.out hb2); have p2_0 : w2.cell? ⟨w.heap.size, 0, none⟩ = some (.int .i64 x.st) := Bx.cell HP2.out 0; have q2_0 : w2.cell? ⟨w.heap.size + 1, 0, none⟩ = some (.int .i64 x.st) := Bx.cell HQ2.out 0; have p2_1 : w2.cell? ⟨w.heap.size, 1, none⟩ = some (.slice A1 x.goals.length c1) := Bx.cell HP2.out 1; have q2_1 : w2.cell? ⟨w.heap.size + 1, 1, none⟩ = some (.slice B1 x.goals.length d1) := Bx.cell HQ2.out 1; have p2_2 : w2.cell? ⟨w.heap.size, 2, none⟩ = some (.slice A2 x.binds.length c2) := Bx.cell HP2.out 2; have q2_2 : w2.cell? ⟨w.heap.size + 1, 2, none⟩ = some (.slice B2 x.binds.length d2) := Bx.cell HQ2.out 2; have p2_3 : w2.cell? ⟨w.heap.size, 3, none⟩ = some (.int .i64 x.vars) := Bx.cell HP2.out 3; have q2_3 : w2.cell? ⟨w.heap.size + 1, 3, none⟩ = some (.int .i64 x.vars) := Bx.cell HQ2.out 3; have p2_4 : w2.cell? ⟨w.heap.size, 4, none⟩ = some (.slice A3 x.ch.length c3) := Bx.cell HP2.out 4; have q2_4 : w2.cell? ⟨w.heap.size + 1, 4, none⟩ = some (.slice B3 x.ch.length d3) := Bx.cell HQ2.out 4; have p2_5 : w2.cell? ⟨w.heap.size, 5, none⟩ = some (.slice A4 x.top.length c4) := Bx.cell HP2.out 5; have q2_5 : w2.cell? ⟨w.heap.size + 1, 5, none⟩ = some (.slice B4 x.top.length d4) := Bx.cell HQ2.out 5; have p2_6 : w2.cell? ⟨w.heap.size, 6, none⟩ = some (.slice A5 x.out.length c5) := Bx.cell HP2.out 6; have q2_6 : w2.cell? ⟨w.heap.size + 1, 6, none⟩ = some (.slice B5 x.out.length d5) := Bx.cell HQ2.out 6; clear hb2) | (go_at_call 198; (with_reducible refine (HX2.out _ HB2.out).mono ?_); rintro e w3 ⟨rfl, hb3⟩; have HB3 := Lib.hid (bel_trans HB2.out hb3); have HP3 := Lib.hid (Bx.below HP2.out hb3); have HQ3 := Lib.hid (Bx.below HQ2.out hb3); have p3_0 : w3.cell? ⟨w.heap.size, 0, none⟩ = some (.int .i64 x.st) := Bx.cell HP3.out 0; have q3_0 : w3.cell? ⟨w.heap.size + 1, 0, none⟩ = some (.int .i64 x.st) := Bx.cell HQ3.out 0; have p3_1 : w3.cell? ⟨w.heap.size, 1, none⟩ = some (.slice A1 x.goals.length c1) := Bx.cell HP3.out 1; have q3_1 : w3.cell? ⟨w.heap.size + 1, 1, none⟩ = some (.slice B1 x.goals.length d1) := Bx.cell HQ3.out 1; have p3_2 : w3.cell? ⟨w.heap.size, 2, none⟩ = some (.slice A2 x.binds.length c2) := Bx.cell HP3.out 2; have q3_2 : w3.cell? ⟨w.heap.size + 1, 2, none⟩ = some (.slice B2 x.binds.length d2) := Bx.cell HQ3.out 2; have p3_3 : w3.cell? ⟨w.heap.size, 3, none⟩ = some (.int .i64 x.vars) := Bx.cell HP3.out 3; have q3_3 : w3.cell? ⟨w.heap.size + 1, 3, none⟩ = some (.int .i64 x.vars) := Bx.cell HQ3.out 3; have p3_4 : w3.cell? ⟨w.heap.size, 4, none⟩ = some (.slice A3 x.ch.length c3) := Bx.cell HP3.out 4; have q3_4 : w3.cell? ⟨w.heap.size + 1, 4, none⟩ = some (.slice B3 x.ch.length d3) := Bx.cell HQ3.out 4; have p3_5 : w3.cell? ⟨w.heap.size, 5, none⟩ = some (.slice A4 x.top.length c4) := Bx.cell HP3.out 5; have q3_5 : w3.cell? ⟨w.heap.size + 1, 5, none⟩ = some (.slice B4 x.top.length d4) := Bx.cell HQ3.out 5; have p3_6 : w3.cell? ⟨w.heap.size, 6, none⟩ = some (.slice A5 x.out.length c5) := Bx.cell HP3.out 6; have q3_6 : w3.cell? ⟨w.heap.size + 1, 6, none⟩ = some (.slice B5 x.out.length d5) := Bx.cell HQ3.out 6; clear hb3) | (go_at_call 33; (with_reducible refine (HX3.out _ HB3.out).mono ?_); rintro e w4 ⟨rfl, hb4⟩; have HB4 := Lib.hid (bel_trans HB3.out hb4); have HP4 := Lib.hid (Bx.below HP3.out hb4); have HQ4 := Lib.hid (Bx.below HQ3.out hb4); have p4_0 : w4.cell? ⟨w.heap.size, 0, none⟩ = some (.int .i64 x.st) := Bx.cell HP4.out 0; have q4_0 : w4.cell? ⟨w.heap.size + 1, 0, none⟩ = some (.int .i64 x.st) := Bx.cell HQ4.out 0; have p4_1 : w4.cell? ⟨w.heap.size, 1, none⟩ = some (.slice A1 x.goals.length c1) := Bx.cell HP4.out 1; have q4_1 : w4.cell? ⟨w.heap.size + 1, 1, none⟩ = some (.slice B1 x.goals.length d1) := Bx.cell HQ4.out 1; have p4_2 : w4.cell? ⟨w.heap.size, 2, none⟩ = some (.slice A2 x.binds.length c2) := Bx.cell HP4.out 2; have q4_2 : w4.cell? ⟨w.heap.size + 1, 2, none⟩ = some (.slice B2 x.binds.length d2) := Bx.cell HQ4.out 2; have p4_3 : w4.cell? ⟨w.heap.size, 3, none⟩ = some (.int .i64 x.vars) := Bx.cell HP4.out 3; have q4_3 : w4.cell? ⟨w.heap.size + 1, 3, none⟩ = some (.int .i64 x.vars) := Bx.cell HQ4.out 3; have p4_4 : w4.cell? ⟨w.heap.size, 4, none⟩ = some (.slice A3 x.ch.length c3) := Bx.cell HP4.out 4; have q4_4 : w4.cell? ⟨w.heap.size + 1, 4, none⟩ = some (.slice B3 x.ch.length d3) := Bx.cell HQ4.out 4; have p4_5 : w4.cell? ⟨w.heap.size, 5, none⟩ = some (.slice A4 x.top.length c4) := Bx.cell HP4.out 5; have q4_5 : w4.cell? ⟨w.heap.size + 1, 5, none⟩ = some (.slice B4 x.top.length d4) := Bx.cell HQ4.out 5; have p4_6 : w4.cell? ⟨w.heap.size, 6, none⟩ = some (.slice A5 x.out.length c5) := Bx.cell HP4.out 6; have q4_6 : w4.cell? ⟨w.heap.size + 1, 6, none⟩ = some (.slice B5 x.out.length d5) := Bx.cell HQ4.out 6; clear hb4) | (go_at_call 33; (with_reducible refine (HX4.out _ HB4.out).mono ?_); rintro e w5 ⟨rfl, hb5⟩; have HB5 := Lib.hid (bel_trans HB4.out hb5); have HP5 := Lib.hid (Bx.below HP4.out hb5); have HQ5 := Lib.hid (Bx.below HQ4.out hb5); have p5_0 : w5.cell? ⟨w.heap.size, 0, none⟩ = some (.int .i64 x.st) := Bx.cell HP5.out 0; have q5_0 : w5.cell? ⟨w.heap.size + 1, 0, none⟩ = some (.int .i64 x.st) := Bx.cell HQ5.out 0; have p5_1 : w5.cell? ⟨w.heap.size, 1, none⟩ = some (.slice A1 x.goals.length c1) := Bx.cell HP5.out 1; have q5_1 : w5.cell? ⟨w.heap.size + 1, 1, none⟩ = some (.slice B1 x.goals.length d1) := Bx.cell HQ5.out 1; have p5_2 : w5.cell? ⟨w.heap.size, 2, none⟩ = some (.slice A2 x.binds.length c2) := Bx.cell HP5.out 2; have q5_2 : w5.cell? ⟨w.heap.size + 1, 2, none⟩ = some (.slice B2 x.binds.length d2) := Bx.cell HQ5.out 2; have p5_3 : w5.cell? ⟨w.heap.size, 3, none⟩ = some (.int .i64 x.vars) := Bx.cell HP5.out 3; have q5_3 : w5.cell? ⟨w.heap.size + 1, 3, none⟩ = some (.int .i64 x.vars) := Bx.cell HQ5.out 3; have p5_4 : w5.cell? ⟨w.heap.size, 4, none⟩ = some (.slice A3 x.ch.length c3) := Bx.cell HP5.out 4; have q5_4 : w5.cell? ⟨w.heap.size + 1, 4, none⟩ = some (.slice B3 x.ch.length d3) := Bx.cell HQ5.out 4; have p5_5 : w5.cell? ⟨w.heap.size, 5, none⟩ = some (.slice A4 x.top.length c4) := Bx.cell HP5.out 5; have q5_5 : w5.cell? ⟨w.heap.size + 1, 5, none⟩ = some (.slice B4 x.top.length d4) := Bx.cell HQ5.out 5; have p5_6 : w5.cell? ⟨w.heap.size, 6, none⟩ = some (.slice A5 x.out.length c5) := Bx.cell HP5.out 6; have q5_6 : w5.cell? ⟨w.heap.size + 1, 6, none⟩ = some (.slice B5 x.out.length d5) := Bx.cell HQ5.out 6; clear hb5))
  go_ret
  exact ⟨rfl, HB5.out⟩
theorem eq_sout_c (x : (Int × Trm)) (v1 u1 : Value) (w : World) (h1 : Kd.cell.S 112 w v1 x.2) (g1 : Kd.cell.S 112 w u1 x.2) (hl : mz_sout x ≤ 1048576) :
    Calls Tryz.prog 73 #[.agg #[.int .i64 x.1, v1], .agg #[.int .i64 x.1, u1]] w fun e w' => e = .returned (.bool true) ∧ Below w.heap.size w w' := by
  have HX0 := Lib.hid (fun W hb => eq_cellS_c x.2 v1 u1 W (Kd.S_ext (w := w) hb h1) (Kd.S_ext (w := w) hb g1) (by unfold mz_sout at hl; omega))
  have hk1 := h1
  have gk1 := g1
  obtain ⟨A1, c1, rfl, -, -, -⟩ := hk1
  obtain ⟨B1, d1, rfl, -, -, -⟩ := gk1
  clear hl h1 g1
  have HB0 := Lib.hid (show Below w.heap.size w ((w.alloc (.cells #[.int .i64 x.1, .slice A1 x.2.length c1] 99)).alloc (.cells #[.int .i64 x.1, .slice B1 x.2.length d1] 99)) from bel_alloc (bel_alloc (Below.refl _ _) _) _)
  have HP0 := Lib.hid (Bx.alloc (Bx.new w 99 #[.int .i64 x.1, .slice A1 x.2.length c1]) (.cells #[.int .i64 x.1, .slice B1 x.2.length d1] 99))
  have HQ0 := Lib.hid (show Bx ((w.alloc (.cells #[.int .i64 x.1, .slice A1 x.2.length c1] 99)).alloc (.cells #[.int .i64 x.1, .slice B1 x.2.length d1] 99)) (w.heap.size + 1) 99 #[.int .i64 x.1, .slice B1 x.2.length d1] from by have := Bx.new (w.alloc (.cells #[.int .i64 x.1, .slice A1 x.2.length c1] 99)) 99 #[.int .i64 x.1, .slice B1 x.2.length d1]; rwa [size_alloc] at this)
  go_enter Tryz.func73, Tryz.ntmps73
  go_wp2_with (first | (go_at_call 33; (with_reducible refine (HX0.out _ HB0.out).mono ?_); rintro e w1 ⟨rfl, hb1⟩; have HB1 := Lib.hid (bel_trans HB0.out hb1); have HP1 := Lib.hid (Bx.below HP0.out hb1); have HQ1 := Lib.hid (Bx.below HQ0.out hb1); have p1_0 : w1.cell? ⟨w.heap.size, 0, none⟩ = some (.int .i64 x.1) := Bx.cell HP1.out 0; have q1_0 : w1.cell? ⟨w.heap.size + 1, 0, none⟩ = some (.int .i64 x.1) := Bx.cell HQ1.out 0; have p1_1 : w1.cell? ⟨w.heap.size, 1, none⟩ = some (.slice A1 x.2.length c1) := Bx.cell HP1.out 1; have q1_1 : w1.cell? ⟨w.heap.size + 1, 1, none⟩ = some (.slice B1 x.2.length d1) := Bx.cell HQ1.out 1; clear hb1))
  go_ret
  exact ⟨rfl, HB1.out⟩
theorem eq_soutS_c (D : List (Int × Trm)) (v v' : Value) (w : World) (hS : Kd.bind.S 99 w v D) (hS' : Kd.bind.S 99 w v' D) (hl : szL mz_sout D ≤ 1048576) :
    Calls Tryz.prog 34 #[v, v'] w fun e w' => e = .returned (.bool true) ∧ Below w.heap.size w w' := by
  have HS := Lib.hid hS
  have HS' := Lib.hid hS'
  have hlen : D.length ≤ 1048576 := Nat.le_trans szL_len hl
  have HL := Lib.hid (fun x (hx : x ∈ D) => Nat.le_trans (szL_mem (m := mz_sout) hx) hl)
  obtain ⟨A, c, rfl, a1, a2, -⟩ := hS
  obtain ⟨A', c', rfl, b1, b2, -⟩ := hS'
  clear hl
  go_enter Tryz.func34, Tryz.ntmps34
  go_wp2
  go_loopw [5] (fun v5 wr => ∃ k : Nat, v5 = .int .i64 k ∧ k ≤ D.length ∧ Hid (Below w.heap.size w wr)) (fun v5 _ => D.length - (intOf v5).toNat)
  case atStart => exact ⟨0, rfl, Nat.zero_le _, Lib.hid (Below.refl _ _)⟩
  case round =>
    obtain ⟨k, rfl, hk, HBr⟩ := hrel
    by_cases hlt : k < D.length
    · obtain ⟨cc, hc⟩ : ∃ cc, D[k]? = some cc := ⟨_, List.getElem?_eq_getElem hlt⟩
      obtain ⟨A1, c1, ev, _, _, hC⟩ := HS.out
      injection ev with z1 z2 z3
      obtain ⟨ad, v1, had, x0, x1, h1⟩ := dbind_at hC hc
      have had2 := z1.trans had
      obtain ⟨A2, c2, ev2, _, _, hC2⟩ := HS'.out
      injection ev2 with z4 z5 z6
      obtain ⟨bd, u1, hbd, y0, y1, g1⟩ := dbind_at hC2 hc
      have had3 := z4.trans hbd
      have HX := Lib.hid (fun W (hb : Below w.heap.size w W) => eq_sout_c cc v1 u1 W (Kd.S_ext hb h1) (Kd.S_ext hb g1) (HL.out cc (List.mem_of_getElem? hc)))
      have hk1 := h1
      have gk1 := g1
      obtain ⟨E1, f1, rfl, -, -, -⟩ := hk1
      obtain ⟨F1, m1, rfl, -, -, -⟩ := gk1
      have x0 := cell_keep HBr.out x0
      have y0 := cell_keep HBr.out y0
      have x1 := cell_keep HBr.out x1
      have y1 := cell_keep HBr.out y1
      clear z1 z2 z3 z4 z5 z6 had hbd hC hC2 hc h1 g1
      subst had2
      subst had3
      have hst : ∀ W W', Below W.heap.size W W' → (W.cell? (ad.add (k * 2)) = some (.int .i64 cc.1) ∧ W.cell? ⟨(ad.add (k * 2)).block, (ad.add (k * 2)).off + 1, none⟩ = some (.slice E1 cc.2.length f1) ∧ W.cell? (bd.add (k * 2)) = some (.int .i64 cc.1) ∧ W.cell? ⟨(bd.add (k * 2)).block, (bd.add (k * 2)).off + 1, none⟩ = some (.slice F1 cc.2.length m1) ∧ Hid (Below w.heap.size w W)) → (W'.cell? (ad.add (k * 2)) = some (.int .i64 cc.1) ∧ W'.cell? ⟨(ad.add (k * 2)).block, (ad.add (k * 2)).off + 1, none⟩ = some (.slice E1 cc.2.length f1) ∧ W'.cell? (bd.add (k * 2)) = some (.int .i64 cc.1) ∧ W'.cell? ⟨(bd.add (k * 2)).block, (bd.add (k * 2)).off + 1, none⟩ = some (.slice F1 cc.2.length m1) ∧ Hid (Below w.heap.size w W')) := fun W W' hb h =>
        ⟨cell_keep hb h.1, cell_keep hb h.2.1, cell_keep hb h.2.2.1, cell_keep hb h.2.2.2.1, Lib.hid (bel_trans h.2.2.2.2.out hb)⟩
      go_upto_region 6 with (fail)
      have hS0 := hst wr wr.drew (bel_drew (Below.refl _ _)) ⟨x0, x1, y0, y1, HBr⟩
      go_region_held3 (fun W => W.cell? (ad.add (k * 2)) = some (.int .i64 cc.1) ∧ W.cell? ⟨(ad.add (k * 2)).block, (ad.add (k * 2)).off + 1, none⟩ = some (.slice E1 cc.2.length f1) ∧ W.cell? (bd.add (k * 2)) = some (.int .i64 cc.1) ∧ W.cell? ⟨(bd.add (k * 2)).block, (bd.add (k * 2)).off + 1, none⟩ = some (.slice F1 cc.2.length m1) ∧ Hid (Below w.heap.size w W)) (assumption) ((go_at_call 73; refine (HX.out _ hS0.2.2.2.2.out).mono ?_; rintro e w2 ⟨rfl, hb2⟩; have hS1 := hst _ _ hb2 (by assumption); clear hb2))
      all_goals
        have HB2 := hS1.2.2.2.2
        clear hst hS0
        go_wp2
        exact ⟨⟨k + 1, by go_num, hlt, HB2⟩, by simp [intOf]; omega⟩
    · go_wp2
      go_ret
      exact ⟨rfl, HBr.out⟩
theorem eq_work_c (x : Work) (v1 v2 v3 v4 v5 v6 u1 u2 u3 u4 u5 u6 : Value) (w : World) (h1 : Kd.sout.S 99 w v1 x.outs) (h2 : Kd.sgoal.S 219 w v2 x.slv.goals) (h3 : Kd.bind.S 216 w v3 x.slv.binds) (h4 : Kd.tch.S 183 w v4 x.slv.ch) (h5 : Kd.cell.S 112 w v5 x.slv.top) (h6 : Kd.cell.S 112 w v6 x.slv.out) (g1 : Kd.sout.S 99 w u1 x.outs) (g2 : Kd.sgoal.S 219 w u2 x.slv.goals) (g3 : Kd.bind.S 216 w u3 x.slv.binds) (g4 : Kd.tch.S 183 w u4 x.slv.ch) (g5 : Kd.cell.S 112 w u5 x.slv.top) (g6 : Kd.cell.S 112 w u6 x.slv.out) (hl : mz_work x ≤ 1048576) :
    Calls Tryz.prog 154 #[.agg #[v1, .int .i64 x.want, .bool x.asked, .int .i64 x.slv.st, v2, v3, .int .i64 x.slv.vars, v4, v5, v6], .agg #[u1, .int .i64 x.want, .bool x.asked, .int .i64 x.slv.st, u2, u3, .int .i64 x.slv.vars, u4, u5, u6]] w fun e w' => e = .returned (.bool true) ∧ Below w.heap.size w w' := by
  have HX0 := Lib.hid (fun W hb => eq_soutS_c x.outs v1 u1 W (Kd.S_ext (w := w) hb h1) (Kd.S_ext (w := w) hb g1) (by unfold mz_work at hl; omega))
  have HX1 := Lib.hid (fun W (hb : Below w.heap.size w W) => eq_tst_c x.slv v2 v3 v4 v5 v6 u2 u3 u4 u5 u6 W (Kd.S_ext hb h2) (Kd.S_ext hb h3) (Kd.S_ext hb h4) (Kd.S_ext hb h5) (Kd.S_ext hb h6) (Kd.S_ext hb g2) (Kd.S_ext hb g3) (Kd.S_ext hb g4) (Kd.S_ext hb g5) (Kd.S_ext hb g6) (by unfold mz_work at hl; omega))
  have hk1 := h1
  have gk1 := g1
  obtain ⟨A1, c1, rfl, -, -, -⟩ := hk1
  obtain ⟨B1, d1, rfl, -, -, -⟩ := gk1
  have hk2 := h2
  have gk2 := g2
  obtain ⟨A2, c2, rfl, -, -, -⟩ := hk2
  obtain ⟨B2, d2, rfl, -, -, -⟩ := gk2
  have hk3 := h3
  have gk3 := g3
  obtain ⟨A3, c3, rfl, -, -, -⟩ := hk3
  obtain ⟨B3, d3, rfl, -, -, -⟩ := gk3
  have hk4 := h4
  have gk4 := g4
  obtain ⟨A4, c4, rfl, -, -, -⟩ := hk4
  obtain ⟨B4, d4, rfl, -, -, -⟩ := gk4
  have hk5 := h5
  have gk5 := g5
  obtain ⟨A5, c5, rfl, -, -, -⟩ := hk5
  obtain ⟨B5, d5, rfl, -, -, -⟩ := gk5
  have hk6 := h6
  have gk6 := g6
  obtain ⟨A6, c6, rfl, -, -, -⟩ := hk6
  obtain ⟨B6, d6, rfl, -, -, -⟩ := gk6
  clear hl h1 h2 h3 h4 h5 h6 g1 g2 g3 g4 g5 g6
  have HB0 := Lib.hid (show Below w.heap.size w ((w.alloc (.cells #[.slice A1 x.outs.length c1, .int .i64 x.want, .bool x.asked, .int .i64 x.slv.st, .slice A2 x.slv.goals.length c2, .slice A3 x.slv.binds.length c3, .int .i64 x.slv.vars, .slice A4 x.slv.ch.length c4, .slice A5 x.slv.top.length c5, .slice A6 x.slv.out.length c6] 107)).alloc (.cells #[.slice B1 x.outs.length d1, .int .i64 x.want, .bool x.asked, .int .i64 x.slv.st, .slice B2 x.slv.goals.length d2, .slice B3 x.slv.binds.length d3, .int .i64 x.slv.vars, .slice B4 x.slv.ch.length d4, .slice B5 x.slv.top.length d5, .slice B6 x.slv.out.length d6] 107)) from bel_alloc (bel_alloc (Below.refl _ _) _) _)
  have HP0 := Lib.hid (Bx.alloc (Bx.new w 107 #[.slice A1 x.outs.length c1, .int .i64 x.want, .bool x.asked, .int .i64 x.slv.st, .slice A2 x.slv.goals.length c2, .slice A3 x.slv.binds.length c3, .int .i64 x.slv.vars, .slice A4 x.slv.ch.length c4, .slice A5 x.slv.top.length c5, .slice A6 x.slv.out.length c6]) (.cells #[.slice B1 x.outs.length d1, .int .i64 x.want, .bool x.asked, .int .i64 x.slv.st, .slice B2 x.slv.goals.length d2, .slice B3 x.slv.binds.length d3, .int .i64 x.slv.vars, .slice B4 x.slv.ch.length d4, .slice B5 x.slv.top.length d5, .slice B6 x.slv.out.length d6] 107))
  have HQ0 := Lib.hid (show Bx ((w.alloc (.cells #[.slice A1 x.outs.length c1, .int .i64 x.want, .bool x.asked, .int .i64 x.slv.st, .slice A2 x.slv.goals.length c2, .slice A3 x.slv.binds.length c3, .int .i64 x.slv.vars, .slice A4 x.slv.ch.length c4, .slice A5 x.slv.top.length c5, .slice A6 x.slv.out.length c6] 107)).alloc (.cells #[.slice B1 x.outs.length d1, .int .i64 x.want, .bool x.asked, .int .i64 x.slv.st, .slice B2 x.slv.goals.length d2, .slice B3 x.slv.binds.length d3, .int .i64 x.slv.vars, .slice B4 x.slv.ch.length d4, .slice B5 x.slv.top.length d5, .slice B6 x.slv.out.length d6] 107)) (w.heap.size + 1) 107 #[.slice B1 x.outs.length d1, .int .i64 x.want, .bool x.asked, .int .i64 x.slv.st, .slice B2 x.slv.goals.length d2, .slice B3 x.slv.binds.length d3, .int .i64 x.slv.vars, .slice B4 x.slv.ch.length d4, .slice B5 x.slv.top.length d5, .slice B6 x.slv.out.length d6] from by have := Bx.new (w.alloc (.cells #[.slice A1 x.outs.length c1, .int .i64 x.want, .bool x.asked, .int .i64 x.slv.st, .slice A2 x.slv.goals.length c2, .slice A3 x.slv.binds.length c3, .int .i64 x.slv.vars, .slice A4 x.slv.ch.length c4, .slice A5 x.slv.top.length c5, .slice A6 x.slv.out.length c6] 107)) 107 #[.slice B1 x.outs.length d1, .int .i64 x.want, .bool x.asked, .int .i64 x.slv.st, .slice B2 x.slv.goals.length d2, .slice B3 x.slv.binds.length d3, .int .i64 x.slv.vars, .slice B4 x.slv.ch.length d4, .slice B5 x.slv.top.length d5, .slice B6 x.slv.out.length d6]; rwa [size_alloc] at this)
  go_enter Tryz.func154, Tryz.ntmps154
  go_wp2_with (first | (go_at_call 34; (with_reducible refine (HX0.out _ HB0.out).mono ?_); rintro e w1 ⟨rfl, hb1⟩; have HB1 := Lib.hid (bel_trans HB0.out hb1); have HP1 := Lib.hid (Bx.below HP0.out hb1); have HQ1 := Lib.hid (Bx.below HQ0.out hb1); have p1_0 : w1.cell? ⟨w.heap.size, 0, none⟩ = some (.slice A1 x.outs.length c1) := Bx.cell HP1.out 0; have q1_0 : w1.cell? ⟨w.heap.size + 1, 0, none⟩ = some (.slice B1 x.outs.length d1) := Bx.cell HQ1.out 0; have p1_1 : w1.cell? ⟨w.heap.size, 1, none⟩ = some (.int .i64 x.want) := Bx.cell HP1.out 1; have q1_1 : w1.cell? ⟨w.heap.size + 1, 1, none⟩ = some (.int .i64 x.want) := Bx.cell HQ1.out 1; have p1_2 : w1.cell? ⟨w.heap.size, 2, none⟩ = some (.bool x.asked) := Bx.cell HP1.out 2; have q1_2 : w1.cell? ⟨w.heap.size + 1, 2, none⟩ = some (.bool x.asked) := Bx.cell HQ1.out 2; have p1_3 : w1.cell? ⟨w.heap.size, 3, none⟩ = some (.int .i64 x.slv.st) := Bx.cell HP1.out 3; have q1_3 : w1.cell? ⟨w.heap.size + 1, 3, none⟩ = some (.int .i64 x.slv.st) := Bx.cell HQ1.out 3; have p1_4 : w1.cell? ⟨w.heap.size, 4, none⟩ = some (.slice A2 x.slv.goals.length c2) := Bx.cell HP1.out 4; have q1_4 : w1.cell? ⟨w.heap.size + 1, 4, none⟩ = some (.slice B2 x.slv.goals.length d2) := Bx.cell HQ1.out 4; have p1_5 : w1.cell? ⟨w.heap.size, 5, none⟩ = some (.slice A3 x.slv.binds.length c3) := Bx.cell HP1.out 5; have q1_5 : w1.cell? ⟨w.heap.size + 1, 5, none⟩ = some (.slice B3 x.slv.binds.length d3) := Bx.cell HQ1.out 5; have p1_6 : w1.cell? ⟨w.heap.size, 6, none⟩ = some (.int .i64 x.slv.vars) := Bx.cell HP1.out 6; have q1_6 : w1.cell? ⟨w.heap.size + 1, 6, none⟩ = some (.int .i64 x.slv.vars) := Bx.cell HQ1.out 6; have p1_7 : w1.cell? ⟨w.heap.size, 7, none⟩ = some (.slice A4 x.slv.ch.length c4) := Bx.cell HP1.out 7; have q1_7 : w1.cell? ⟨w.heap.size + 1, 7, none⟩ = some (.slice B4 x.slv.ch.length d4) := Bx.cell HQ1.out 7; have p1_8 : w1.cell? ⟨w.heap.size, 8, none⟩ = some (.slice A5 x.slv.top.length c5) := Bx.cell HP1.out 8; have q1_8 : w1.cell? ⟨w.heap.size + 1, 8, none⟩ = some (.slice B5 x.slv.top.length d5) := Bx.cell HQ1.out 8; have p1_9 : w1.cell? ⟨w.heap.size, 9, none⟩ = some (.slice A6 x.slv.out.length c6) := Bx.cell HP1.out 9; have q1_9 : w1.cell? ⟨w.heap.size + 1, 9, none⟩ = some (.slice B6 x.slv.out.length d6) := Bx.cell HQ1.out 9; clear hb1) | (go_at_call 183; (with_reducible refine (HX1.out _ HB1.out).mono ?_); rintro e w2 ⟨rfl, hb2⟩; have HB2 := Lib.hid (bel_trans HB1.out hb2); have HP2 := Lib.hid (Bx.below HP1.out hb2); have HQ2 := Lib.hid (Bx.below HQ1.out hb2); have p2_0 : w2.cell? ⟨w.heap.size, 0, none⟩ = some (.slice A1 x.outs.length c1) := Bx.cell HP2.out 0; have q2_0 : w2.cell? ⟨w.heap.size + 1, 0, none⟩ = some (.slice B1 x.outs.length d1) := Bx.cell HQ2.out 0; have p2_1 : w2.cell? ⟨w.heap.size, 1, none⟩ = some (.int .i64 x.want) := Bx.cell HP2.out 1; have q2_1 : w2.cell? ⟨w.heap.size + 1, 1, none⟩ = some (.int .i64 x.want) := Bx.cell HQ2.out 1; have p2_2 : w2.cell? ⟨w.heap.size, 2, none⟩ = some (.bool x.asked) := Bx.cell HP2.out 2; have q2_2 : w2.cell? ⟨w.heap.size + 1, 2, none⟩ = some (.bool x.asked) := Bx.cell HQ2.out 2; have p2_3 : w2.cell? ⟨w.heap.size, 3, none⟩ = some (.int .i64 x.slv.st) := Bx.cell HP2.out 3; have q2_3 : w2.cell? ⟨w.heap.size + 1, 3, none⟩ = some (.int .i64 x.slv.st) := Bx.cell HQ2.out 3; have p2_4 : w2.cell? ⟨w.heap.size, 4, none⟩ = some (.slice A2 x.slv.goals.length c2) := Bx.cell HP2.out 4; have q2_4 : w2.cell? ⟨w.heap.size + 1, 4, none⟩ = some (.slice B2 x.slv.goals.length d2) := Bx.cell HQ2.out 4; have p2_5 : w2.cell? ⟨w.heap.size, 5, none⟩ = some (.slice A3 x.slv.binds.length c3) := Bx.cell HP2.out 5; have q2_5 : w2.cell? ⟨w.heap.size + 1, 5, none⟩ = some (.slice B3 x.slv.binds.length d3) := Bx.cell HQ2.out 5; have p2_6 : w2.cell? ⟨w.heap.size, 6, none⟩ = some (.int .i64 x.slv.vars) := Bx.cell HP2.out 6; have q2_6 : w2.cell? ⟨w.heap.size + 1, 6, none⟩ = some (.int .i64 x.slv.vars) := Bx.cell HQ2.out 6; have p2_7 : w2.cell? ⟨w.heap.size, 7, none⟩ = some (.slice A4 x.slv.ch.length c4) := Bx.cell HP2.out 7; have q2_7 : w2.cell? ⟨w.heap.size + 1, 7, none⟩ = some (.slice B4 x.slv.ch.length d4) := Bx.cell HQ2.out 7; have p2_8 : w2.cell? ⟨w.heap.size, 8, none⟩ = some (.slice A5 x.slv.top.length c5) := Bx.cell HP2.out 8; have q2_8 : w2.cell? ⟨w.heap.size + 1, 8, none⟩ = some (.slice B5 x.slv.top.length d5) := Bx.cell HQ2.out 8; have p2_9 : w2.cell? ⟨w.heap.size, 9, none⟩ = some (.slice A6 x.slv.out.length c6) := Bx.cell HP2.out 9; have q2_9 : w2.cell? ⟨w.heap.size + 1, 9, none⟩ = some (.slice B6 x.slv.out.length d6) := Bx.cell HQ2.out 9; clear hb2))
  go_ret
  exact ⟨rfl, HB2.out⟩
theorem eq_workS_c (D : List Work) (v v' : Value) (w : World) (hS : Kd.work.S 107 w v D) (hS' : Kd.work.S 107 w v' D) (hl : szL mz_work D ≤ 1048576) :
    Calls Tryz.prog 114 #[v, v'] w fun e w' => e = .returned (.bool true) ∧ Below w.heap.size w w' := by
  have HS := Lib.hid hS
  have HS' := Lib.hid hS'
  have hlen : D.length ≤ 1048576 := Nat.le_trans szL_len hl
  have HL := Lib.hid (fun x (hx : x ∈ D) => Nat.le_trans (szL_mem (m := mz_work) hx) hl)
  obtain ⟨A, c, rfl, a1, a2, -⟩ := hS
  obtain ⟨A', c', rfl, b1, b2, -⟩ := hS'
  clear hl
  go_enter Tryz.func114, Tryz.ntmps114
  go_wp2
  go_loopw [5] (fun v5 wr => ∃ k : Nat, v5 = .int .i64 k ∧ k ≤ D.length ∧ Hid (Below w.heap.size w wr)) (fun v5 _ => D.length - (intOf v5).toNat)
  case atStart => exact ⟨0, rfl, Nat.zero_le _, Lib.hid (Below.refl _ _)⟩
  case round =>
    obtain ⟨k, rfl, hk, HBr⟩ := hrel
    by_cases hlt : k < D.length
    · obtain ⟨cc, hc⟩ : ∃ cc, D[k]? = some cc := ⟨_, List.getElem?_eq_getElem hlt⟩
      obtain ⟨A1, c1, ev, _, _, hC⟩ := HS.out
      injection ev with z1 z2 z3
      obtain ⟨ad, v1, v2, v3, v4, v5, v6, had, x0, x1, x2, x3, x4, x5, x6, x7, x8, x9, h1, h2, h3, h4, h5, h6⟩ := dwork_at hC hc
      have had2 := z1.trans had
      obtain ⟨A2, c2, ev2, _, _, hC2⟩ := HS'.out
      injection ev2 with z4 z5 z6
      obtain ⟨bd, u1, u2, u3, u4, u5, u6, hbd, y0, y1, y2, y3, y4, y5, y6, y7, y8, y9, g1, g2, g3, g4, g5, g6⟩ := dwork_at hC2 hc
      have had3 := z4.trans hbd
      have HX := Lib.hid (fun W (hb : Below w.heap.size w W) => eq_work_c cc v1 v2 v3 v4 v5 v6 u1 u2 u3 u4 u5 u6 W (Kd.S_ext hb h1) (Kd.S_ext hb h2) (Kd.S_ext hb h3) (Kd.S_ext hb h4) (Kd.S_ext hb h5) (Kd.S_ext hb h6) (Kd.S_ext hb g1) (Kd.S_ext hb g2) (Kd.S_ext hb g3) (Kd.S_ext hb g4) (Kd.S_ext hb g5) (Kd.S_ext hb g6) (HL.out cc (List.mem_of_getElem? hc)))
      have hk1 := h1
      have gk1 := g1
      obtain ⟨E1, f1, rfl, -, -, -⟩ := hk1
      obtain ⟨F1, m1, rfl, -, -, -⟩ := gk1
      have hk2 := h2
      have gk2 := g2
      obtain ⟨E2, f2, rfl, -, -, -⟩ := hk2
      obtain ⟨F2, m2, rfl, -, -, -⟩ := gk2
      have hk3 := h3
      have gk3 := g3
      obtain ⟨E3, f3, rfl, -, -, -⟩ := hk3
      obtain ⟨F3, m3, rfl, -, -, -⟩ := gk3
      have hk4 := h4
      have gk4 := g4
      obtain ⟨E4, f4, rfl, -, -, -⟩ := hk4
      obtain ⟨F4, m4, rfl, -, -, -⟩ := gk4
      have hk5 := h5
      have gk5 := g5
      obtain ⟨E5, f5, rfl, -, -, -⟩ := hk5
      obtain ⟨F5, m5, rfl, -, -, -⟩ := gk5
      have hk6 := h6
      have gk6 := g6
      obtain ⟨E6, f6, rfl, -, -, -⟩ := hk6
      obtain ⟨F6, m6, rfl, -, -, -⟩ := gk6
      have x0 := cell_keep HBr.out x0
      have y0 := cell_keep HBr.out y0
      have x1 := cell_keep HBr.out x1
      have y1 := cell_keep HBr.out y1
      have x2 := cell_keep HBr.out x2
      have y2 := cell_keep HBr.out y2
      have x3 := cell_keep HBr.out x3
      have y3 := cell_keep HBr.out y3
      have x4 := cell_keep HBr.out x4
      have y4 := cell_keep HBr.out y4
      have x5 := cell_keep HBr.out x5
      have y5 := cell_keep HBr.out y5
      have x6 := cell_keep HBr.out x6
      have y6 := cell_keep HBr.out y6
      have x7 := cell_keep HBr.out x7
      have y7 := cell_keep HBr.out y7
      have x8 := cell_keep HBr.out x8
      have y8 := cell_keep HBr.out y8
      have x9 := cell_keep HBr.out x9
      have y9 := cell_keep HBr.out y9
      clear z1 z2 z3 z4 z5 z6 had hbd hC hC2 hc h1 h2 h3 h4 h5 h6 g1 g2 g3 g4 g5 g6
      subst had2
      subst had3
      have hst : ∀ W W', Below W.heap.size W W' → (W.cell? (ad.add (k * 10)) = some (.slice E1 cc.outs.length f1) ∧ W.cell? ⟨(ad.add (k * 10)).block, (ad.add (k * 10)).off + 1, none⟩ = some (.int .i64 cc.want) ∧ W.cell? ⟨(ad.add (k * 10)).block, (ad.add (k * 10)).off + 2, none⟩ = some (.bool cc.asked) ∧ W.cell? ⟨(ad.add (k * 10)).block, (ad.add (k * 10)).off + 3, none⟩ = some (.int .i64 cc.slv.st) ∧ W.cell? ⟨(ad.add (k * 10)).block, (ad.add (k * 10)).off + 4, none⟩ = some (.slice E2 cc.slv.goals.length f2) ∧ W.cell? ⟨(ad.add (k * 10)).block, (ad.add (k * 10)).off + 5, none⟩ = some (.slice E3 cc.slv.binds.length f3) ∧ W.cell? ⟨(ad.add (k * 10)).block, (ad.add (k * 10)).off + 6, none⟩ = some (.int .i64 cc.slv.vars) ∧ W.cell? ⟨(ad.add (k * 10)).block, (ad.add (k * 10)).off + 7, none⟩ = some (.slice E4 cc.slv.ch.length f4) ∧ W.cell? ⟨(ad.add (k * 10)).block, (ad.add (k * 10)).off + 8, none⟩ = some (.slice E5 cc.slv.top.length f5) ∧ W.cell? ⟨(ad.add (k * 10)).block, (ad.add (k * 10)).off + 9, none⟩ = some (.slice E6 cc.slv.out.length f6) ∧ W.cell? (bd.add (k * 10)) = some (.slice F1 cc.outs.length m1) ∧ W.cell? ⟨(bd.add (k * 10)).block, (bd.add (k * 10)).off + 1, none⟩ = some (.int .i64 cc.want) ∧ W.cell? ⟨(bd.add (k * 10)).block, (bd.add (k * 10)).off + 2, none⟩ = some (.bool cc.asked) ∧ W.cell? ⟨(bd.add (k * 10)).block, (bd.add (k * 10)).off + 3, none⟩ = some (.int .i64 cc.slv.st) ∧ W.cell? ⟨(bd.add (k * 10)).block, (bd.add (k * 10)).off + 4, none⟩ = some (.slice F2 cc.slv.goals.length m2) ∧ W.cell? ⟨(bd.add (k * 10)).block, (bd.add (k * 10)).off + 5, none⟩ = some (.slice F3 cc.slv.binds.length m3) ∧ W.cell? ⟨(bd.add (k * 10)).block, (bd.add (k * 10)).off + 6, none⟩ = some (.int .i64 cc.slv.vars) ∧ W.cell? ⟨(bd.add (k * 10)).block, (bd.add (k * 10)).off + 7, none⟩ = some (.slice F4 cc.slv.ch.length m4) ∧ W.cell? ⟨(bd.add (k * 10)).block, (bd.add (k * 10)).off + 8, none⟩ = some (.slice F5 cc.slv.top.length m5) ∧ W.cell? ⟨(bd.add (k * 10)).block, (bd.add (k * 10)).off + 9, none⟩ = some (.slice F6 cc.slv.out.length m6) ∧ Hid (Below w.heap.size w W)) → (W'.cell? (ad.add (k * 10)) = some (.slice E1 cc.outs.length f1) ∧ W'.cell? ⟨(ad.add (k * 10)).block, (ad.add (k * 10)).off + 1, none⟩ = some (.int .i64 cc.want) ∧ W'.cell? ⟨(ad.add (k * 10)).block, (ad.add (k * 10)).off + 2, none⟩ = some (.bool cc.asked) ∧ W'.cell? ⟨(ad.add (k * 10)).block, (ad.add (k * 10)).off + 3, none⟩ = some (.int .i64 cc.slv.st) ∧ W'.cell? ⟨(ad.add (k * 10)).block, (ad.add (k * 10)).off + 4, none⟩ = some (.slice E2 cc.slv.goals.length f2) ∧ W'.cell? ⟨(ad.add (k * 10)).block, (ad.add (k * 10)).off + 5, none⟩ = some (.slice E3 cc.slv.binds.length f3) ∧ W'.cell? ⟨(ad.add (k * 10)).block, (ad.add (k * 10)).off + 6, none⟩ = some (.int .i64 cc.slv.vars) ∧ W'.cell? ⟨(ad.add (k * 10)).block, (ad.add (k * 10)).off + 7, none⟩ = some (.slice E4 cc.slv.ch.length f4) ∧ W'.cell? ⟨(ad.add (k * 10)).block, (ad.add (k * 10)).off + 8, none⟩ = some (.slice E5 cc.slv.top.length f5) ∧ W'.cell? ⟨(ad.add (k * 10)).block, (ad.add (k * 10)).off + 9, none⟩ = some (.slice E6 cc.slv.out.length f6) ∧ W'.cell? (bd.add (k * 10)) = some (.slice F1 cc.outs.length m1) ∧ W'.cell? ⟨(bd.add (k * 10)).block, (bd.add (k * 10)).off + 1, none⟩ = some (.int .i64 cc.want) ∧ W'.cell? ⟨(bd.add (k * 10)).block, (bd.add (k * 10)).off + 2, none⟩ = some (.bool cc.asked) ∧ W'.cell? ⟨(bd.add (k * 10)).block, (bd.add (k * 10)).off + 3, none⟩ = some (.int .i64 cc.slv.st) ∧ W'.cell? ⟨(bd.add (k * 10)).block, (bd.add (k * 10)).off + 4, none⟩ = some (.slice F2 cc.slv.goals.length m2) ∧ W'.cell? ⟨(bd.add (k * 10)).block, (bd.add (k * 10)).off + 5, none⟩ = some (.slice F3 cc.slv.binds.length m3) ∧ W'.cell? ⟨(bd.add (k * 10)).block, (bd.add (k * 10)).off + 6, none⟩ = some (.int .i64 cc.slv.vars) ∧ W'.cell? ⟨(bd.add (k * 10)).block, (bd.add (k * 10)).off + 7, none⟩ = some (.slice F4 cc.slv.ch.length m4) ∧ W'.cell? ⟨(bd.add (k * 10)).block, (bd.add (k * 10)).off + 8, none⟩ = some (.slice F5 cc.slv.top.length m5) ∧ W'.cell? ⟨(bd.add (k * 10)).block, (bd.add (k * 10)).off + 9, none⟩ = some (.slice F6 cc.slv.out.length m6) ∧ Hid (Below w.heap.size w W')) := fun W W' hb h =>
        ⟨cell_keep hb h.1, cell_keep hb h.2.1, cell_keep hb h.2.2.1, cell_keep hb h.2.2.2.1, cell_keep hb h.2.2.2.2.1, cell_keep hb h.2.2.2.2.2.1, cell_keep hb h.2.2.2.2.2.2.1, cell_keep hb h.2.2.2.2.2.2.2.1, cell_keep hb h.2.2.2.2.2.2.2.2.1, cell_keep hb h.2.2.2.2.2.2.2.2.2.1, cell_keep hb h.2.2.2.2.2.2.2.2.2.2.1, cell_keep hb h.2.2.2.2.2.2.2.2.2.2.2.1, cell_keep hb h.2.2.2.2.2.2.2.2.2.2.2.2.1, cell_keep hb h.2.2.2.2.2.2.2.2.2.2.2.2.2.1, cell_keep hb h.2.2.2.2.2.2.2.2.2.2.2.2.2.2.1, cell_keep hb h.2.2.2.2.2.2.2.2.2.2.2.2.2.2.2.1, cell_keep hb h.2.2.2.2.2.2.2.2.2.2.2.2.2.2.2.2.1, cell_keep hb h.2.2.2.2.2.2.2.2.2.2.2.2.2.2.2.2.2.1, cell_keep hb h.2.2.2.2.2.2.2.2.2.2.2.2.2.2.2.2.2.2.1, cell_keep hb h.2.2.2.2.2.2.2.2.2.2.2.2.2.2.2.2.2.2.2.1, Lib.hid (bel_trans h.2.2.2.2.2.2.2.2.2.2.2.2.2.2.2.2.2.2.2.2.out hb)⟩
      go_upto_region 6 with (fail)
      have hS0 := hst wr wr.drew (bel_drew (Below.refl _ _)) ⟨x0, x1, x2, x3, x4, x5, x6, x7, x8, x9, y0, y1, y2, y3, y4, y5, y6, y7, y8, y9, HBr⟩
      go_region_held3 (fun W => W.cell? (ad.add (k * 10)) = some (.slice E1 cc.outs.length f1) ∧ W.cell? ⟨(ad.add (k * 10)).block, (ad.add (k * 10)).off + 1, none⟩ = some (.int .i64 cc.want) ∧ W.cell? ⟨(ad.add (k * 10)).block, (ad.add (k * 10)).off + 2, none⟩ = some (.bool cc.asked) ∧ W.cell? ⟨(ad.add (k * 10)).block, (ad.add (k * 10)).off + 3, none⟩ = some (.int .i64 cc.slv.st) ∧ W.cell? ⟨(ad.add (k * 10)).block, (ad.add (k * 10)).off + 4, none⟩ = some (.slice E2 cc.slv.goals.length f2) ∧ W.cell? ⟨(ad.add (k * 10)).block, (ad.add (k * 10)).off + 5, none⟩ = some (.slice E3 cc.slv.binds.length f3) ∧ W.cell? ⟨(ad.add (k * 10)).block, (ad.add (k * 10)).off + 6, none⟩ = some (.int .i64 cc.slv.vars) ∧ W.cell? ⟨(ad.add (k * 10)).block, (ad.add (k * 10)).off + 7, none⟩ = some (.slice E4 cc.slv.ch.length f4) ∧ W.cell? ⟨(ad.add (k * 10)).block, (ad.add (k * 10)).off + 8, none⟩ = some (.slice E5 cc.slv.top.length f5) ∧ W.cell? ⟨(ad.add (k * 10)).block, (ad.add (k * 10)).off + 9, none⟩ = some (.slice E6 cc.slv.out.length f6) ∧ W.cell? (bd.add (k * 10)) = some (.slice F1 cc.outs.length m1) ∧ W.cell? ⟨(bd.add (k * 10)).block, (bd.add (k * 10)).off + 1, none⟩ = some (.int .i64 cc.want) ∧ W.cell? ⟨(bd.add (k * 10)).block, (bd.add (k * 10)).off + 2, none⟩ = some (.bool cc.asked) ∧ W.cell? ⟨(bd.add (k * 10)).block, (bd.add (k * 10)).off + 3, none⟩ = some (.int .i64 cc.slv.st) ∧ W.cell? ⟨(bd.add (k * 10)).block, (bd.add (k * 10)).off + 4, none⟩ = some (.slice F2 cc.slv.goals.length m2) ∧ W.cell? ⟨(bd.add (k * 10)).block, (bd.add (k * 10)).off + 5, none⟩ = some (.slice F3 cc.slv.binds.length m3) ∧ W.cell? ⟨(bd.add (k * 10)).block, (bd.add (k * 10)).off + 6, none⟩ = some (.int .i64 cc.slv.vars) ∧ W.cell? ⟨(bd.add (k * 10)).block, (bd.add (k * 10)).off + 7, none⟩ = some (.slice F4 cc.slv.ch.length m4) ∧ W.cell? ⟨(bd.add (k * 10)).block, (bd.add (k * 10)).off + 8, none⟩ = some (.slice F5 cc.slv.top.length m5) ∧ W.cell? ⟨(bd.add (k * 10)).block, (bd.add (k * 10)).off + 9, none⟩ = some (.slice F6 cc.slv.out.length m6) ∧ Hid (Below w.heap.size w W)) (assumption) ((go_at_call 154; refine (HX.out _ hS0.2.2.2.2.2.2.2.2.2.2.2.2.2.2.2.2.2.2.2.2.out).mono ?_; rintro e w2 ⟨rfl, hb2⟩; have hS1 := hst _ _ hb2 (by assumption); clear hb2))
      all_goals
        have HB2 := hS1.2.2.2.2.2.2.2.2.2.2.2.2.2.2.2.2.2.2.2.2
        clear hst hS0
        go_wp2
        exact ⟨⟨k + 1, by go_num, hlt, HB2⟩, by simp [intOf]; omega⟩
    · go_wp2
      go_ret
      exact ⟨rfl, HBr.out⟩
theorem eq_node_c (x : Nod) (v1 u1 : Value) (w : World) (h1 : Kd.work.S 107 w v1 x.works) (g1 : Kd.work.S 107 w u1 x.works) (hl : mz_node x ≤ 1048576) :
    Calls Tryz.prog 71 #[.agg #[.bool x.up, v1], .agg #[.bool x.up, u1]] w fun e w' => e = .returned (.bool true) ∧ Below w.heap.size w w' := by
  have HX0 := Lib.hid (fun W hb => eq_workS_c x.works v1 u1 W (Kd.S_ext (w := w) hb h1) (Kd.S_ext (w := w) hb g1) (by unfold mz_node at hl; omega))
  have hk1 := h1
  have gk1 := g1
  obtain ⟨A1, c1, rfl, -, -, -⟩ := hk1
  obtain ⟨B1, d1, rfl, -, -, -⟩ := gk1
  clear hl h1 g1
  have HB0 := Lib.hid (show Below w.heap.size w ((w.alloc (.cells #[.bool x.up, .slice A1 x.works.length c1] 58)).alloc (.cells #[.bool x.up, .slice B1 x.works.length d1] 58)) from bel_alloc (bel_alloc (Below.refl _ _) _) _)
  have HP0 := Lib.hid (Bx.alloc (Bx.new w 58 #[.bool x.up, .slice A1 x.works.length c1]) (.cells #[.bool x.up, .slice B1 x.works.length d1] 58))
  have HQ0 := Lib.hid (show Bx ((w.alloc (.cells #[.bool x.up, .slice A1 x.works.length c1] 58)).alloc (.cells #[.bool x.up, .slice B1 x.works.length d1] 58)) (w.heap.size + 1) 58 #[.bool x.up, .slice B1 x.works.length d1] from by have := Bx.new (w.alloc (.cells #[.bool x.up, .slice A1 x.works.length c1] 58)) 58 #[.bool x.up, .slice B1 x.works.length d1]; rwa [size_alloc] at this)
  go_enter Tryz.func71, Tryz.ntmps71
  go_wp2_with (first | (go_at_call 114; (with_reducible refine (HX0.out _ HB0.out).mono ?_); rintro e w1 ⟨rfl, hb1⟩; have HB1 := Lib.hid (bel_trans HB0.out hb1); have HP1 := Lib.hid (Bx.below HP0.out hb1); have HQ1 := Lib.hid (Bx.below HQ0.out hb1); have p1_0 : w1.cell? ⟨w.heap.size, 0, none⟩ = some (.bool x.up) := Bx.cell HP1.out 0; have q1_0 : w1.cell? ⟨w.heap.size + 1, 0, none⟩ = some (.bool x.up) := Bx.cell HQ1.out 0; have p1_1 : w1.cell? ⟨w.heap.size, 1, none⟩ = some (.slice A1 x.works.length c1) := Bx.cell HP1.out 1; have q1_1 : w1.cell? ⟨w.heap.size + 1, 1, none⟩ = some (.slice B1 x.works.length d1) := Bx.cell HQ1.out 1; clear hb1))
  go_ret
  exact ⟨rfl, HB1.out⟩
theorem eq_nodeS_c (D : List Nod) (v v' : Value) (w : World) (hS : Kd.node.S 58 w v D) (hS' : Kd.node.S 58 w v' D) (hl : szL mz_node D ≤ 1048576) :
    Calls Tryz.prog 32 #[v, v'] w fun e w' => e = .returned (.bool true) ∧ Below w.heap.size w w' := by
  have HS := Lib.hid hS
  have HS' := Lib.hid hS'
  have hlen : D.length ≤ 1048576 := Nat.le_trans szL_len hl
  have HL := Lib.hid (fun x (hx : x ∈ D) => Nat.le_trans (szL_mem (m := mz_node) hx) hl)
  obtain ⟨A, c, rfl, a1, a2, -⟩ := hS
  obtain ⟨A', c', rfl, b1, b2, -⟩ := hS'
  clear hl
  go_enter Tryz.func32, Tryz.ntmps32
  go_wp2
  go_loopw [5] (fun v5 wr => ∃ k : Nat, v5 = .int .i64 k ∧ k ≤ D.length ∧ Hid (Below w.heap.size w wr)) (fun v5 _ => D.length - (intOf v5).toNat)
  case atStart => exact ⟨0, rfl, Nat.zero_le _, Lib.hid (Below.refl _ _)⟩
  case round =>
    obtain ⟨k, rfl, hk, HBr⟩ := hrel
    by_cases hlt : k < D.length
    · obtain ⟨cc, hc⟩ : ∃ cc, D[k]? = some cc := ⟨_, List.getElem?_eq_getElem hlt⟩
      obtain ⟨A1, c1, ev, _, _, hC⟩ := HS.out
      injection ev with z1 z2 z3
      obtain ⟨ad, v1, had, x0, x1, h1⟩ := dnode_at hC hc
      have had2 := z1.trans had
      obtain ⟨A2, c2, ev2, _, _, hC2⟩ := HS'.out
      injection ev2 with z4 z5 z6
      obtain ⟨bd, u1, hbd, y0, y1, g1⟩ := dnode_at hC2 hc
      have had3 := z4.trans hbd
      have HX := Lib.hid (fun W (hb : Below w.heap.size w W) => eq_node_c cc v1 u1 W (Kd.S_ext hb h1) (Kd.S_ext hb g1) (HL.out cc (List.mem_of_getElem? hc)))
      have hk1 := h1
      have gk1 := g1
      obtain ⟨E1, f1, rfl, -, -, -⟩ := hk1
      obtain ⟨F1, m1, rfl, -, -, -⟩ := gk1
      have x0 := cell_keep HBr.out x0
      have y0 := cell_keep HBr.out y0
      have x1 := cell_keep HBr.out x1
      have y1 := cell_keep HBr.out y1
      clear z1 z2 z3 z4 z5 z6 had hbd hC hC2 hc h1 g1
      subst had2
      subst had3
      have hst : ∀ W W', Below W.heap.size W W' → (W.cell? (ad.add (k * 2)) = some (.bool cc.up) ∧ W.cell? ⟨(ad.add (k * 2)).block, (ad.add (k * 2)).off + 1, none⟩ = some (.slice E1 cc.works.length f1) ∧ W.cell? (bd.add (k * 2)) = some (.bool cc.up) ∧ W.cell? ⟨(bd.add (k * 2)).block, (bd.add (k * 2)).off + 1, none⟩ = some (.slice F1 cc.works.length m1) ∧ Hid (Below w.heap.size w W)) → (W'.cell? (ad.add (k * 2)) = some (.bool cc.up) ∧ W'.cell? ⟨(ad.add (k * 2)).block, (ad.add (k * 2)).off + 1, none⟩ = some (.slice E1 cc.works.length f1) ∧ W'.cell? (bd.add (k * 2)) = some (.bool cc.up) ∧ W'.cell? ⟨(bd.add (k * 2)).block, (bd.add (k * 2)).off + 1, none⟩ = some (.slice F1 cc.works.length m1) ∧ Hid (Below w.heap.size w W')) := fun W W' hb h =>
        ⟨cell_keep hb h.1, cell_keep hb h.2.1, cell_keep hb h.2.2.1, cell_keep hb h.2.2.2.1, Lib.hid (bel_trans h.2.2.2.2.out hb)⟩
      go_upto_region 6 with (fail)
      have hS0 := hst wr wr.drew (bel_drew (Below.refl _ _)) ⟨x0, x1, y0, y1, HBr⟩
      go_region_held3 (fun W => W.cell? (ad.add (k * 2)) = some (.bool cc.up) ∧ W.cell? ⟨(ad.add (k * 2)).block, (ad.add (k * 2)).off + 1, none⟩ = some (.slice E1 cc.works.length f1) ∧ W.cell? (bd.add (k * 2)) = some (.bool cc.up) ∧ W.cell? ⟨(bd.add (k * 2)).block, (bd.add (k * 2)).off + 1, none⟩ = some (.slice F1 cc.works.length m1) ∧ Hid (Below w.heap.size w W)) (assumption) ((go_at_call 71; refine (HX.out _ hS0.2.2.2.2.out).mono ?_; rintro e w2 ⟨rfl, hb2⟩; have hS1 := hst _ _ hb2 (by assumption); clear hb2))
      all_goals
        have HB2 := hS1.2.2.2.2
        clear hst hS0
        go_wp2
        exact ⟨⟨k + 1, by go_num, hlt, HB2⟩, by simp [intOf]; omega⟩
    · go_wp2
      go_ret
      exact ⟨rfl, HBr.out⟩
theorem eq_byteS_c (D : List Int) (v v' : Value) (w : World) (hS : Kd.byte.S 5 w v D) (hS' : Kd.byte.S 5 w v' D) (hl : D.length ≤ 1048576) :
    Calls Tryz.prog 115 #[v, v'] w fun e w' => e = .returned (.bool true) ∧ Below w.heap.size w w' := by
  have HS := Lib.hid hS
  have HS' := Lib.hid hS'
  have hlen : D.length ≤ 1048576 := hl
  obtain ⟨A, c, rfl, a1, a2, -⟩ := hS
  obtain ⟨A', c', rfl, b1, b2, -⟩ := hS'
  clear hl
  go_enter Tryz.func115, Tryz.ntmps115
  go_wp2
  go_loopw [5] (fun v5 wr => ∃ k : Nat, v5 = .int .i64 k ∧ k ≤ D.length ∧ Hid (Below w.heap.size w wr)) (fun v5 _ => D.length - (intOf v5).toNat)
  case atStart => exact ⟨0, rfl, Nat.zero_le _, Lib.hid (Below.refl _ _)⟩
  case round =>
    obtain ⟨k, rfl, hk, HBr⟩ := hrel
    by_cases hlt : k < D.length
    · obtain ⟨cc, hc⟩ : ∃ cc, D[k]? = some cc := ⟨_, List.getElem?_eq_getElem hlt⟩
      obtain ⟨A1, c1, ev, _, _, hC⟩ := HS.out
      injection ev with z1 z2 z3
      obtain ⟨ad, had, x0⟩ := dbyte_at hC hc
      have had2 := z1.trans had
      obtain ⟨A2, c2, ev2, _, _, hC2⟩ := HS'.out
      injection ev2 with z4 z5 z6
      obtain ⟨bd, hbd, y0⟩ := dbyte_at hC2 hc
      have had3 := z4.trans hbd
      have x0 := cell_keep HBr.out x0
      have y0 := cell_keep HBr.out y0
      clear z1 z2 z3 z4 z5 z6 had hbd hC hC2 hc 
      subst had2
      subst had3
      have hst : ∀ W W', Below W.heap.size W W' → (W.cell? (ad.add k) = some (.int .u8 cc) ∧ W.cell? (bd.add k) = some (.int .u8 cc) ∧ Hid (Below w.heap.size w W)) → (W'.cell? (ad.add k) = some (.int .u8 cc) ∧ W'.cell? (bd.add k) = some (.int .u8 cc) ∧ Hid (Below w.heap.size w W')) := fun W W' hb h =>
        ⟨cell_keep hb h.1, cell_keep hb h.2.1, Lib.hid (bel_trans h.2.2.out hb)⟩
      go_upto_region 6 with (fail)
      have hS0 := hst wr wr.drew (bel_drew (Below.refl _ _)) ⟨x0, y0, HBr⟩
      go_region_held3 (fun W => W.cell? (ad.add k) = some (.int .u8 cc) ∧ W.cell? (bd.add k) = some (.int .u8 cc) ∧ Hid (Below w.heap.size w W)) (assumption) (fail)
      all_goals
        have HB2 := hS0.2.2
        clear hst hS0
        go_wp2
        exact ⟨⟨k + 1, by go_num, hlt, HB2⟩, by simp [intOf]; omega⟩
    · go_wp2
      go_ret
      exact ⟨rfl, HBr.out⟩
theorem eq_nmsg_c (x : NMsg) (v1 u1 : Value) (w : World) (h1 : Kd.byte.S 5 w v1 x.bytes) (g1 : Kd.byte.S 5 w u1 x.bytes) (hl : mz_nmsg x ≤ 1048576) :
    Calls Tryz.prog 74 #[.agg #[.int .i64 x.dst, .bool x.bent, v1], .agg #[.int .i64 x.dst, .bool x.bent, u1]] w fun e w' => e = .returned (.bool true) ∧ Below w.heap.size w w' := by
  have HX0 := Lib.hid (fun W hb => eq_byteS_c x.bytes v1 u1 W (Kd.S_ext (w := w) hb h1) (Kd.S_ext (w := w) hb g1) (by unfold mz_nmsg at hl; omega))
  have hk1 := h1
  have gk1 := g1
  obtain ⟨A1, c1, rfl, -, -, -⟩ := hk1
  obtain ⟨B1, d1, rfl, -, -, -⟩ := gk1
  clear hl h1 g1
  have HB0 := Lib.hid (show Below w.heap.size w ((w.alloc (.cells #[.int .i64 x.dst, .bool x.bent, .slice A1 x.bytes.length c1] 62)).alloc (.cells #[.int .i64 x.dst, .bool x.bent, .slice B1 x.bytes.length d1] 62)) from bel_alloc (bel_alloc (Below.refl _ _) _) _)
  have HP0 := Lib.hid (Bx.alloc (Bx.new w 62 #[.int .i64 x.dst, .bool x.bent, .slice A1 x.bytes.length c1]) (.cells #[.int .i64 x.dst, .bool x.bent, .slice B1 x.bytes.length d1] 62))
  have HQ0 := Lib.hid (show Bx ((w.alloc (.cells #[.int .i64 x.dst, .bool x.bent, .slice A1 x.bytes.length c1] 62)).alloc (.cells #[.int .i64 x.dst, .bool x.bent, .slice B1 x.bytes.length d1] 62)) (w.heap.size + 1) 62 #[.int .i64 x.dst, .bool x.bent, .slice B1 x.bytes.length d1] from by have := Bx.new (w.alloc (.cells #[.int .i64 x.dst, .bool x.bent, .slice A1 x.bytes.length c1] 62)) 62 #[.int .i64 x.dst, .bool x.bent, .slice B1 x.bytes.length d1]; rwa [size_alloc] at this)
  go_enter Tryz.func74, Tryz.ntmps74
  go_wp2_with (first | (go_at_call 115; (with_reducible refine (HX0.out _ HB0.out).mono ?_); rintro e w1 ⟨rfl, hb1⟩; have HB1 := Lib.hid (bel_trans HB0.out hb1); have HP1 := Lib.hid (Bx.below HP0.out hb1); have HQ1 := Lib.hid (Bx.below HQ0.out hb1); have p1_0 : w1.cell? ⟨w.heap.size, 0, none⟩ = some (.int .i64 x.dst) := Bx.cell HP1.out 0; have q1_0 : w1.cell? ⟨w.heap.size + 1, 0, none⟩ = some (.int .i64 x.dst) := Bx.cell HQ1.out 0; have p1_1 : w1.cell? ⟨w.heap.size, 1, none⟩ = some (.bool x.bent) := Bx.cell HP1.out 1; have q1_1 : w1.cell? ⟨w.heap.size + 1, 1, none⟩ = some (.bool x.bent) := Bx.cell HQ1.out 1; have p1_2 : w1.cell? ⟨w.heap.size, 2, none⟩ = some (.slice A1 x.bytes.length c1) := Bx.cell HP1.out 2; have q1_2 : w1.cell? ⟨w.heap.size + 1, 2, none⟩ = some (.slice B1 x.bytes.length d1) := Bx.cell HQ1.out 2; clear hb1))
  go_ret
  exact ⟨rfl, HB1.out⟩
theorem eq_nmsgS_c (D : List NMsg) (v v' : Value) (w : World) (hS : Kd.nmsg.S 62 w v D) (hS' : Kd.nmsg.S 62 w v' D) (hl : szL mz_nmsg D ≤ 1048576) :
    Calls Tryz.prog 35 #[v, v'] w fun e w' => e = .returned (.bool true) ∧ Below w.heap.size w w' := by
  have HS := Lib.hid hS
  have HS' := Lib.hid hS'
  have hlen : D.length ≤ 1048576 := Nat.le_trans szL_len hl
  have HL := Lib.hid (fun x (hx : x ∈ D) => Nat.le_trans (szL_mem (m := mz_nmsg) hx) hl)
  obtain ⟨A, c, rfl, a1, a2, -⟩ := hS
  obtain ⟨A', c', rfl, b1, b2, -⟩ := hS'
  clear hl
  go_enter Tryz.func35, Tryz.ntmps35
  go_wp2
  go_loopw [5] (fun v5 wr => ∃ k : Nat, v5 = .int .i64 k ∧ k ≤ D.length ∧ Hid (Below w.heap.size w wr)) (fun v5 _ => D.length - (intOf v5).toNat)
  case atStart => exact ⟨0, rfl, Nat.zero_le _, Lib.hid (Below.refl _ _)⟩
  case round =>
    obtain ⟨k, rfl, hk, HBr⟩ := hrel
    by_cases hlt : k < D.length
    · obtain ⟨cc, hc⟩ : ∃ cc, D[k]? = some cc := ⟨_, List.getElem?_eq_getElem hlt⟩
      obtain ⟨A1, c1, ev, _, _, hC⟩ := HS.out
      injection ev with z1 z2 z3
      obtain ⟨ad, v1, had, x0, x1, x2, h1⟩ := dnmsg_at hC hc
      have had2 := z1.trans had
      obtain ⟨A2, c2, ev2, _, _, hC2⟩ := HS'.out
      injection ev2 with z4 z5 z6
      obtain ⟨bd, u1, hbd, y0, y1, y2, g1⟩ := dnmsg_at hC2 hc
      have had3 := z4.trans hbd
      have HX := Lib.hid (fun W (hb : Below w.heap.size w W) => eq_nmsg_c cc v1 u1 W (Kd.S_ext hb h1) (Kd.S_ext hb g1) (HL.out cc (List.mem_of_getElem? hc)))
      have hk1 := h1
      have gk1 := g1
      obtain ⟨E1, f1, rfl, -, -, -⟩ := hk1
      obtain ⟨F1, m1, rfl, -, -, -⟩ := gk1
      have x0 := cell_keep HBr.out x0
      have y0 := cell_keep HBr.out y0
      have x1 := cell_keep HBr.out x1
      have y1 := cell_keep HBr.out y1
      have x2 := cell_keep HBr.out x2
      have y2 := cell_keep HBr.out y2
      clear z1 z2 z3 z4 z5 z6 had hbd hC hC2 hc h1 g1
      subst had2
      subst had3
      have hst : ∀ W W', Below W.heap.size W W' → (W.cell? (ad.add (k * 3)) = some (.int .i64 cc.dst) ∧ W.cell? ⟨(ad.add (k * 3)).block, (ad.add (k * 3)).off + 1, none⟩ = some (.bool cc.bent) ∧ W.cell? ⟨(ad.add (k * 3)).block, (ad.add (k * 3)).off + 2, none⟩ = some (.slice E1 cc.bytes.length f1) ∧ W.cell? (bd.add (k * 3)) = some (.int .i64 cc.dst) ∧ W.cell? ⟨(bd.add (k * 3)).block, (bd.add (k * 3)).off + 1, none⟩ = some (.bool cc.bent) ∧ W.cell? ⟨(bd.add (k * 3)).block, (bd.add (k * 3)).off + 2, none⟩ = some (.slice F1 cc.bytes.length m1) ∧ Hid (Below w.heap.size w W)) → (W'.cell? (ad.add (k * 3)) = some (.int .i64 cc.dst) ∧ W'.cell? ⟨(ad.add (k * 3)).block, (ad.add (k * 3)).off + 1, none⟩ = some (.bool cc.bent) ∧ W'.cell? ⟨(ad.add (k * 3)).block, (ad.add (k * 3)).off + 2, none⟩ = some (.slice E1 cc.bytes.length f1) ∧ W'.cell? (bd.add (k * 3)) = some (.int .i64 cc.dst) ∧ W'.cell? ⟨(bd.add (k * 3)).block, (bd.add (k * 3)).off + 1, none⟩ = some (.bool cc.bent) ∧ W'.cell? ⟨(bd.add (k * 3)).block, (bd.add (k * 3)).off + 2, none⟩ = some (.slice F1 cc.bytes.length m1) ∧ Hid (Below w.heap.size w W')) := fun W W' hb h =>
        ⟨cell_keep hb h.1, cell_keep hb h.2.1, cell_keep hb h.2.2.1, cell_keep hb h.2.2.2.1, cell_keep hb h.2.2.2.2.1, cell_keep hb h.2.2.2.2.2.1, Lib.hid (bel_trans h.2.2.2.2.2.2.out hb)⟩
      go_upto_region 6 with (fail)
      have hS0 := hst wr wr.drew (bel_drew (Below.refl _ _)) ⟨x0, x1, x2, y0, y1, y2, HBr⟩
      go_region_held3 (fun W => W.cell? (ad.add (k * 3)) = some (.int .i64 cc.dst) ∧ W.cell? ⟨(ad.add (k * 3)).block, (ad.add (k * 3)).off + 1, none⟩ = some (.bool cc.bent) ∧ W.cell? ⟨(ad.add (k * 3)).block, (ad.add (k * 3)).off + 2, none⟩ = some (.slice E1 cc.bytes.length f1) ∧ W.cell? (bd.add (k * 3)) = some (.int .i64 cc.dst) ∧ W.cell? ⟨(bd.add (k * 3)).block, (bd.add (k * 3)).off + 1, none⟩ = some (.bool cc.bent) ∧ W.cell? ⟨(bd.add (k * 3)).block, (bd.add (k * 3)).off + 2, none⟩ = some (.slice F1 cc.bytes.length m1) ∧ Hid (Below w.heap.size w W)) (assumption) ((go_at_call 74; refine (HX.out _ hS0.2.2.2.2.2.2.out).mono ?_; rintro e w2 ⟨rfl, hb2⟩; have hS1 := hst _ _ hb2 (by assumption); clear hb2))
      all_goals
        have HB2 := hS1.2.2.2.2.2.2
        clear hst hS0
        go_wp2
        exact ⟨⟨k + 1, by go_num, hlt, HB2⟩, by simp [intOf]; omega⟩
    · go_wp2
      go_ret
      exact ⟨rfl, HBr.out⟩
theorem eq_wld_c (x : Wld) (v1 v2 v3 v4 v5 v6 u1 u2 u3 u4 u5 u6 : Value) (w : World) (h1 : Kd.clause.S 92 w v1 x.prog.cl) (h2 : Kd.place.S 95 w v2 x.prog.pl) (h3 : Kd.node.S 58 w v3 x.nodes) (h4 : Kd.cell.S 112 w v4 x.top) (h5 : Kd.sout.S 99 w v5 x.outs) (h6 : Kd.nmsg.S 62 w v6 x.net) (g1 : Kd.clause.S 92 w u1 x.prog.cl) (g2 : Kd.place.S 95 w u2 x.prog.pl) (g3 : Kd.node.S 58 w u3 x.nodes) (g4 : Kd.cell.S 112 w u4 x.top) (g5 : Kd.sout.S 99 w u5 x.outs) (g6 : Kd.nmsg.S 62 w u6 x.net) (hl : mz_wld x ≤ 1048576) :
    Calls Tryz.prog 8 #[.agg #[v1, v2, v3, v4, v5, v6], .agg #[u1, u2, u3, u4, u5, u6]] w fun e w' => e = .returned (.bool true) ∧ Below w.heap.size w w' := by
  have HX0 := Lib.hid (fun W (hb : Below w.heap.size w W) => eq_prog_c x.prog v1 v2 u1 u2 W (Kd.S_ext hb h1) (Kd.S_ext hb h2) (Kd.S_ext hb g1) (Kd.S_ext hb g2) (by unfold mz_wld at hl; omega))
  have HX1 := Lib.hid (fun W hb => eq_nodeS_c x.nodes v3 u3 W (Kd.S_ext (w := w) hb h3) (Kd.S_ext (w := w) hb g3) (by unfold mz_wld at hl; omega))
  have HX2 := Lib.hid (fun W hb => eq_cellS_c x.top v4 u4 W (Kd.S_ext (w := w) hb h4) (Kd.S_ext (w := w) hb g4) (by unfold mz_wld at hl; omega))
  have HX3 := Lib.hid (fun W hb => eq_soutS_c x.outs v5 u5 W (Kd.S_ext (w := w) hb h5) (Kd.S_ext (w := w) hb g5) (by unfold mz_wld at hl; omega))
  have HX4 := Lib.hid (fun W hb => eq_nmsgS_c x.net v6 u6 W (Kd.S_ext (w := w) hb h6) (Kd.S_ext (w := w) hb g6) (by unfold mz_wld at hl; omega))
  have hk1 := h1
  have gk1 := g1
  obtain ⟨A1, c1, rfl, -, -, -⟩ := hk1
  obtain ⟨B1, d1, rfl, -, -, -⟩ := gk1
  have hk2 := h2
  have gk2 := g2
  obtain ⟨A2, c2, rfl, -, -, -⟩ := hk2
  obtain ⟨B2, d2, rfl, -, -, -⟩ := gk2
  have hk3 := h3
  have gk3 := g3
  obtain ⟨A3, c3, rfl, -, -, -⟩ := hk3
  obtain ⟨B3, d3, rfl, -, -, -⟩ := gk3
  have hk4 := h4
  have gk4 := g4
  obtain ⟨A4, c4, rfl, -, -, -⟩ := hk4
  obtain ⟨B4, d4, rfl, -, -, -⟩ := gk4
  have hk5 := h5
  have gk5 := g5
  obtain ⟨A5, c5, rfl, -, -, -⟩ := hk5
  obtain ⟨B5, d5, rfl, -, -, -⟩ := gk5
  have hk6 := h6
  have gk6 := g6
  obtain ⟨A6, c6, rfl, -, -, -⟩ := hk6
  obtain ⟨B6, d6, rfl, -, -, -⟩ := gk6
  clear hl h1 h2 h3 h4 h5 h6 g1 g2 g3 g4 g5 g6
  have HB0 := Lib.hid (show Below w.heap.size w ((w.alloc (.cells #[.slice A1 x.prog.cl.length c1, .slice A2 x.prog.pl.length c2, .slice A3 x.nodes.length c3, .slice A4 x.top.length c4, .slice A5 x.outs.length c5, .slice A6 x.net.length c6] 43)).alloc (.cells #[.slice B1 x.prog.cl.length d1, .slice B2 x.prog.pl.length d2, .slice B3 x.nodes.length d3, .slice B4 x.top.length d4, .slice B5 x.outs.length d5, .slice B6 x.net.length d6] 43)) from bel_alloc (bel_alloc (Below.refl _ _) _) _)
  have HP0 := Lib.hid (Bx.alloc (Bx.new w 43 #[.slice A1 x.prog.cl.length c1, .slice A2 x.prog.pl.length c2, .slice A3 x.nodes.length c3, .slice A4 x.top.length c4, .slice A5 x.outs.length c5, .slice A6 x.net.length c6]) (.cells #[.slice B1 x.prog.cl.length d1, .slice B2 x.prog.pl.length d2, .slice B3 x.nodes.length d3, .slice B4 x.top.length d4, .slice B5 x.outs.length d5, .slice B6 x.net.length d6] 43))
  have HQ0 := Lib.hid (show Bx ((w.alloc (.cells #[.slice A1 x.prog.cl.length c1, .slice A2 x.prog.pl.length c2, .slice A3 x.nodes.length c3, .slice A4 x.top.length c4, .slice A5 x.outs.length c5, .slice A6 x.net.length c6] 43)).alloc (.cells #[.slice B1 x.prog.cl.length d1, .slice B2 x.prog.pl.length d2, .slice B3 x.nodes.length d3, .slice B4 x.top.length d4, .slice B5 x.outs.length d5, .slice B6 x.net.length d6] 43)) (w.heap.size + 1) 43 #[.slice B1 x.prog.cl.length d1, .slice B2 x.prog.pl.length d2, .slice B3 x.nodes.length d3, .slice B4 x.top.length d4, .slice B5 x.outs.length d5, .slice B6 x.net.length d6] from by have := Bx.new (w.alloc (.cells #[.slice A1 x.prog.cl.length c1, .slice A2 x.prog.pl.length c2, .slice A3 x.nodes.length c3, .slice A4 x.top.length c4, .slice A5 x.outs.length c5, .slice A6 x.net.length c6] 43)) 43 #[.slice B1 x.prog.cl.length d1, .slice B2 x.prog.pl.length d2, .slice B3 x.nodes.length d3, .slice B4 x.top.length d4, .slice B5 x.outs.length d5, .slice B6 x.net.length d6]; rwa [size_alloc] at this)
  go_enter Tryz.func8, Tryz.ntmps8
  go_wp2_with (first | (go_at_call 31; (with_reducible refine (HX0.out _ HB0.out).mono ?_); rintro e w1 ⟨rfl, hb1⟩; have HB1 := Lib.hid (bel_trans HB0.out hb1); have HP1 := Lib.hid (Bx.below HP0.out hb1); have HQ1 := Lib.hid (Bx.below HQ0.out hb1); have p1_0 : w1.cell? ⟨w.heap.size, 0, none⟩ = some (.slice A1 x.prog.cl.length c1) := Bx.cell HP1.out 0; have q1_0 : w1.cell? ⟨w.heap.size + 1, 0, none⟩ = some (.slice B1 x.prog.cl.length d1) := Bx.cell HQ1.out 0; have p1_1 : w1.cell? ⟨w.heap.size, 1, none⟩ = some (.slice A2 x.prog.pl.length c2) := Bx.cell HP1.out 1; have q1_1 : w1.cell? ⟨w.heap.size + 1, 1, none⟩ = some (.slice B2 x.prog.pl.length d2) := Bx.cell HQ1.out 1; have p1_2 : w1.cell? ⟨w.heap.size, 2, none⟩ = some (.slice A3 x.nodes.length c3) := Bx.cell HP1.out 2; have q1_2 : w1.cell? ⟨w.heap.size + 1, 2, none⟩ = some (.slice B3 x.nodes.length d3) := Bx.cell HQ1.out 2; have p1_3 : w1.cell? ⟨w.heap.size, 3, none⟩ = some (.slice A4 x.top.length c4) := Bx.cell HP1.out 3; have q1_3 : w1.cell? ⟨w.heap.size + 1, 3, none⟩ = some (.slice B4 x.top.length d4) := Bx.cell HQ1.out 3; have p1_4 : w1.cell? ⟨w.heap.size, 4, none⟩ = some (.slice A5 x.outs.length c5) := Bx.cell HP1.out 4; have q1_4 : w1.cell? ⟨w.heap.size + 1, 4, none⟩ = some (.slice B5 x.outs.length d5) := Bx.cell HQ1.out 4; have p1_5 : w1.cell? ⟨w.heap.size, 5, none⟩ = some (.slice A6 x.net.length c6) := Bx.cell HP1.out 5; have q1_5 : w1.cell? ⟨w.heap.size + 1, 5, none⟩ = some (.slice B6 x.net.length d6) := Bx.cell HQ1.out 5; clear hb1) | (go_at_call 32; (with_reducible refine (HX1.out _ HB1.out).mono ?_); rintro e w2 ⟨rfl, hb2⟩; have HB2 := Lib.hid (bel_trans HB1.out hb2); have HP2 := Lib.hid (Bx.below HP1.out hb2); have HQ2 := Lib.hid (Bx.below HQ1.out hb2); have p2_0 : w2.cell? ⟨w.heap.size, 0, none⟩ = some (.slice A1 x.prog.cl.length c1) := Bx.cell HP2.out 0; have q2_0 : w2.cell? ⟨w.heap.size + 1, 0, none⟩ = some (.slice B1 x.prog.cl.length d1) := Bx.cell HQ2.out 0; have p2_1 : w2.cell? ⟨w.heap.size, 1, none⟩ = some (.slice A2 x.prog.pl.length c2) := Bx.cell HP2.out 1; have q2_1 : w2.cell? ⟨w.heap.size + 1, 1, none⟩ = some (.slice B2 x.prog.pl.length d2) := Bx.cell HQ2.out 1; have p2_2 : w2.cell? ⟨w.heap.size, 2, none⟩ = some (.slice A3 x.nodes.length c3) := Bx.cell HP2.out 2; have q2_2 : w2.cell? ⟨w.heap.size + 1, 2, none⟩ = some (.slice B3 x.nodes.length d3) := Bx.cell HQ2.out 2; have p2_3 : w2.cell? ⟨w.heap.size, 3, none⟩ = some (.slice A4 x.top.length c4) := Bx.cell HP2.out 3; have q2_3 : w2.cell? ⟨w.heap.size + 1, 3, none⟩ = some (.slice B4 x.top.length d4) := Bx.cell HQ2.out 3; have p2_4 : w2.cell? ⟨w.heap.size, 4, none⟩ = some (.slice A5 x.outs.length c5) := Bx.cell HP2.out 4; have q2_4 : w2.cell? ⟨w.heap.size + 1, 4, none⟩ = some (.slice B5 x.outs.length d5) := Bx.cell HQ2.out 4; have p2_5 : w2.cell? ⟨w.heap.size, 5, none⟩ = some (.slice A6 x.net.length c6) := Bx.cell HP2.out 5; have q2_5 : w2.cell? ⟨w.heap.size + 1, 5, none⟩ = some (.slice B6 x.net.length d6) := Bx.cell HQ2.out 5; clear hb2) | (go_at_call 33; (with_reducible refine (HX2.out _ HB2.out).mono ?_); rintro e w3 ⟨rfl, hb3⟩; have HB3 := Lib.hid (bel_trans HB2.out hb3); have HP3 := Lib.hid (Bx.below HP2.out hb3); have HQ3 := Lib.hid (Bx.below HQ2.out hb3); have p3_0 : w3.cell? ⟨w.heap.size, 0, none⟩ = some (.slice A1 x.prog.cl.length c1) := Bx.cell HP3.out 0; have q3_0 : w3.cell? ⟨w.heap.size + 1, 0, none⟩ = some (.slice B1 x.prog.cl.length d1) := Bx.cell HQ3.out 0; have p3_1 : w3.cell? ⟨w.heap.size, 1, none⟩ = some (.slice A2 x.prog.pl.length c2) := Bx.cell HP3.out 1; have q3_1 : w3.cell? ⟨w.heap.size + 1, 1, none⟩ = some (.slice B2 x.prog.pl.length d2) := Bx.cell HQ3.out 1; have p3_2 : w3.cell? ⟨w.heap.size, 2, none⟩ = some (.slice A3 x.nodes.length c3) := Bx.cell HP3.out 2; have q3_2 : w3.cell? ⟨w.heap.size + 1, 2, none⟩ = some (.slice B3 x.nodes.length d3) := Bx.cell HQ3.out 2; have p3_3 : w3.cell? ⟨w.heap.size, 3, none⟩ = some (.slice A4 x.top.length c4) := Bx.cell HP3.out 3; have q3_3 : w3.cell? ⟨w.heap.size + 1, 3, none⟩ = some (.slice B4 x.top.length d4) := Bx.cell HQ3.out 3; have p3_4 : w3.cell? ⟨w.heap.size, 4, none⟩ = some (.slice A5 x.outs.length c5) := Bx.cell HP3.out 4; have q3_4 : w3.cell? ⟨w.heap.size + 1, 4, none⟩ = some (.slice B5 x.outs.length d5) := Bx.cell HQ3.out 4; have p3_5 : w3.cell? ⟨w.heap.size, 5, none⟩ = some (.slice A6 x.net.length c6) := Bx.cell HP3.out 5; have q3_5 : w3.cell? ⟨w.heap.size + 1, 5, none⟩ = some (.slice B6 x.net.length d6) := Bx.cell HQ3.out 5; clear hb3) | (go_at_call 34; (with_reducible refine (HX3.out _ HB3.out).mono ?_); rintro e w4 ⟨rfl, hb4⟩; have HB4 := Lib.hid (bel_trans HB3.out hb4); have HP4 := Lib.hid (Bx.below HP3.out hb4); have HQ4 := Lib.hid (Bx.below HQ3.out hb4); have p4_0 : w4.cell? ⟨w.heap.size, 0, none⟩ = some (.slice A1 x.prog.cl.length c1) := Bx.cell HP4.out 0; have q4_0 : w4.cell? ⟨w.heap.size + 1, 0, none⟩ = some (.slice B1 x.prog.cl.length d1) := Bx.cell HQ4.out 0; have p4_1 : w4.cell? ⟨w.heap.size, 1, none⟩ = some (.slice A2 x.prog.pl.length c2) := Bx.cell HP4.out 1; have q4_1 : w4.cell? ⟨w.heap.size + 1, 1, none⟩ = some (.slice B2 x.prog.pl.length d2) := Bx.cell HQ4.out 1; have p4_2 : w4.cell? ⟨w.heap.size, 2, none⟩ = some (.slice A3 x.nodes.length c3) := Bx.cell HP4.out 2; have q4_2 : w4.cell? ⟨w.heap.size + 1, 2, none⟩ = some (.slice B3 x.nodes.length d3) := Bx.cell HQ4.out 2; have p4_3 : w4.cell? ⟨w.heap.size, 3, none⟩ = some (.slice A4 x.top.length c4) := Bx.cell HP4.out 3; have q4_3 : w4.cell? ⟨w.heap.size + 1, 3, none⟩ = some (.slice B4 x.top.length d4) := Bx.cell HQ4.out 3; have p4_4 : w4.cell? ⟨w.heap.size, 4, none⟩ = some (.slice A5 x.outs.length c5) := Bx.cell HP4.out 4; have q4_4 : w4.cell? ⟨w.heap.size + 1, 4, none⟩ = some (.slice B5 x.outs.length d5) := Bx.cell HQ4.out 4; have p4_5 : w4.cell? ⟨w.heap.size, 5, none⟩ = some (.slice A6 x.net.length c6) := Bx.cell HP4.out 5; have q4_5 : w4.cell? ⟨w.heap.size + 1, 5, none⟩ = some (.slice B6 x.net.length d6) := Bx.cell HQ4.out 5; clear hb4) | (go_at_call 35; (with_reducible refine (HX4.out _ HB4.out).mono ?_); rintro e w5 ⟨rfl, hb5⟩; have HB5 := Lib.hid (bel_trans HB4.out hb5); have HP5 := Lib.hid (Bx.below HP4.out hb5); have HQ5 := Lib.hid (Bx.below HQ4.out hb5); have p5_0 : w5.cell? ⟨w.heap.size, 0, none⟩ = some (.slice A1 x.prog.cl.length c1) := Bx.cell HP5.out 0; have q5_0 : w5.cell? ⟨w.heap.size + 1, 0, none⟩ = some (.slice B1 x.prog.cl.length d1) := Bx.cell HQ5.out 0; have p5_1 : w5.cell? ⟨w.heap.size, 1, none⟩ = some (.slice A2 x.prog.pl.length c2) := Bx.cell HP5.out 1; have q5_1 : w5.cell? ⟨w.heap.size + 1, 1, none⟩ = some (.slice B2 x.prog.pl.length d2) := Bx.cell HQ5.out 1; have p5_2 : w5.cell? ⟨w.heap.size, 2, none⟩ = some (.slice A3 x.nodes.length c3) := Bx.cell HP5.out 2; have q5_2 : w5.cell? ⟨w.heap.size + 1, 2, none⟩ = some (.slice B3 x.nodes.length d3) := Bx.cell HQ5.out 2; have p5_3 : w5.cell? ⟨w.heap.size, 3, none⟩ = some (.slice A4 x.top.length c4) := Bx.cell HP5.out 3; have q5_3 : w5.cell? ⟨w.heap.size + 1, 3, none⟩ = some (.slice B4 x.top.length d4) := Bx.cell HQ5.out 3; have p5_4 : w5.cell? ⟨w.heap.size, 4, none⟩ = some (.slice A5 x.outs.length c5) := Bx.cell HP5.out 4; have q5_4 : w5.cell? ⟨w.heap.size + 1, 4, none⟩ = some (.slice B5 x.outs.length d5) := Bx.cell HQ5.out 4; have p5_5 : w5.cell? ⟨w.heap.size, 5, none⟩ = some (.slice A6 x.net.length c6) := Bx.cell HP5.out 5; have q5_5 : w5.cell? ⟨w.heap.size + 1, 5, none⟩ = some (.slice B6 x.net.length d6) := Bx.cell HQ5.out 5; clear hb5))
  go_ret
  exact ⟨rfl, HB5.out⟩
end Go.Proofs.YtdoggcfdfkkedaaGreatDoor
