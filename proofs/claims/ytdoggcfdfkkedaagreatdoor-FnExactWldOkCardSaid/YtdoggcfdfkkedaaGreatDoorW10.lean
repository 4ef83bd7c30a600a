/- Lemmas and contracts for FnExactWldOk, part 10. -/
import Derived.Test.YtdoggcfdfkkedaaGreatDoorW09
namespace Go.Proofs.YtdoggcfdfkkedaaGreatDoor
open Go.RowKit
set_option maxRecDepth 100000
set_option maxHeartbeats 4000000
set_option linter.unusedVariables false
theorem sz_cell_c (x : Cell)  (l : Int) (w : World)  (hz0 : x.s.size ≤ maxLen) (l0 : -1 ≤ l) (l1 : l ≤ 1048576) :
    Calls Tryz.prog 39 #[.agg #[.int .i64 x.k, .int .i64 x.n, .string x.s], .int .i64 l] w fun e w' => ∃ r, e = .returned (.int .i64 r) ∧ Left r l (mz_cell x) ∧ Below w.heap.size w w' := by
  have hm : maxLen = 9223372036854775807 := rfl
  have HB := Lib.hid (show Below w.heap.size w (w.alloc (.cells #[.int .i64 x.k, .int .i64 x.n, .string x.s] 83)) from bel_alloc (Below.refl _ _) _)
  by_cases hlt : l - (x.s.size : Int) < 0
  · have e1 : decide (l - (x.s.size : Int) < 0) = true := decide_eq_true hlt
    go_enter Tryz.func39, Tryz.ntmps39
    go_wp2
    go_ret
    exact ⟨_, rfl, by unfold Left mz_cell; omega, HB.out⟩
  · have e1 : decide (l - (x.s.size : Int) < 0) = false := decide_eq_false hlt
    go_enter Tryz.func39, Tryz.ntmps39
    go_wp2
    go_ret
    exact ⟨_, rfl, by unfold Left mz_cell; omega, HB.out⟩
theorem sz_cellS_c (D : List Cell) (v : Value) (l : Int) (w : World) (hS : KI.cell.S w v D) (l0 : -1 ≤ l) (l1 : l ≤ 1048576) :
    Calls Tryz.prog 11 #[v, .int .i64 l] w fun e w' => ∃ r, e = .returned (.int .i64 r) ∧ Left r l (szL mz_cell D) ∧ Below w.heap.size w w' := by
  have HS := Lib.hid hS
  obtain ⟨A, c, rfl, a1, a2, -⟩ := hS
  have hm : maxLen = 9223372036854775807 := rfl
  have H0 := Lib.hid (Below.refl w.heap.size w)
  by_cases hlt : l - (D.length : Int) < 0
  · have e1 : decide (l - (D.length : Int) < 0) = true := decide_eq_true hlt
    go_enter Tryz.func11, Tryz.ntmps11
    go_wp2
    go_ret
    exact ⟨_, rfl, by unfold Left; omega, H0.out⟩
  · have e1 : decide (l - (D.length : Int) < 0) = false := decide_eq_false hlt
    have HJ := Lib.hid (show -1 ≤ l - (D.length : Int) ∧ l - (D.length : Int) ≤ 1048576 ∧ l - (D.length : Int) + (szD mz_cell D 0 : Int) ≤ l ∧ l - (D.length : Int) ≤ l by rw [szD_zero]; omega)
    clear hlt
    go_enter Tryz.func11, Tryz.ntmps11
    go_wp2
    go_loopw [1, 5] (fun v1 v5 wr => ∃ (k : Nat) (x : Int), v1 = .int .i64 x ∧ v5 = .int .i64 k ∧ k ≤ D.length ∧ -1 ≤ x ∧ x ≤ 1048576 ∧ Hid (x + (szD mz_cell D k : Int) ≤ l ∧ x ≤ l) ∧ Hid (Below w.heap.size w wr)) (fun _ v5 _ => D.length - (intOf v5).toNat)
    case atStart => exact ⟨0, _, rfl, rfl, Nat.zero_le _, HJ.out.1, HJ.out.2.1, Lib.hid HJ.out.2.2, H0⟩
    case round =>
      obtain ⟨k, x, rfl, rfl, hk, hx0, hx1, HRr, HBr⟩ := hrel
      by_cases hlt : k < D.length
      · obtain ⟨cc, hc⟩ : ∃ cc, D[k]? = some cc := ⟨_, List.getElem?_eq_getElem hlt⟩
        obtain ⟨A', c', ev, _, _, hC⟩ := KI.S_ext HBr.out HS.out
        injection ev with u1 u2 u3
        obtain ⟨ad, had, x0, x1, x2, z1⟩ := kcell_at hC hc
        have had2 := u1.trans had
        have HX := Lib.hid (fun l0 l1 => sz_cell_c cc  x wr  z1 l0 l1)
        have HSs := Lib.hid (szD_succ mz_cell hc)
        clear u1 u2 u3 had hC hc 
        subst had2
        go_wp2_with (go_at_call 39; (with_reducible refine (HX.out hx0 hx1).mono ?_); rintro e w2 ⟨r, rfl, hr, hb2⟩; have HR := Lib.hid hr; have HB2 := Lib.hid (bel_trans HBr.out hb2); clear hr hb2)
        all_goals first
          | (go_ret; exact ⟨-1, rfl, by unfold Left; omega, HB2.out⟩)
          | exact ⟨⟨k + 1, r, rfl, by go_num, hlt, HR.out.1, Int.le_trans HR.out.2.1 hx1, Lib.hid (by have h1 := HRr.out; have h2 := HR.out; have h3 := HSs.out; unfold Left at h2; rw [h3]; omega), HB2⟩, by simp [intOf]; omega⟩
      · have HV := Lib.hid (szD_end mz_cell (xs := D) (k := k) (by omega))
        go_wp2
        go_ret
        exact ⟨x, rfl, by have := HRr.out; rw [HV.out] at this; unfold Left; omega, HBr.out⟩
theorem sz_goal_c (x : Goal) (v1 v2 v3 : Value) (l : Int) (w : World) (h1 : KI.cell.S w v1 x.a) (h2 : KI.cell.S w v2 x.b) (h3 : KI.cell.S w v3 x.c)  (l0 : -1 ≤ l) (l1 : l ≤ 1048576) :
    Calls Tryz.prog 155 #[.agg #[.int .i64 x.k, v1, v2, v3], .int .i64 l] w fun e w' => ∃ r, e = .returned (.int .i64 r) ∧ Left r l (mz_goal x) ∧ Below w.heap.size w w' := by
  have HX0 := Lib.hid (fun l W hb l0 l1 => sz_cellS_c x.a v1 l W (KI.S_ext (w := w) hb h1) l0 l1)
  have HX1 := Lib.hid (fun l W hb l0 l1 => sz_cellS_c x.b v2 l W (KI.S_ext (w := w) hb h2) l0 l1)
  have HX2 := Lib.hid (fun l W hb l0 l1 => sz_cellS_c x.c v3 l W (KI.S_ext (w := w) hb h3) l0 l1)
  have hk1 := h1
  have hk2 := h2
  have hk3 := h3
  obtain ⟨A1, c1, rfl, -, -, -⟩ := hk1
  obtain ⟨A2, c2, rfl, -, -, -⟩ := hk2
  obtain ⟨A3, c3, rfl, -, -, -⟩ := hk3
  clear h1 h2 h3
  have HB0 := Lib.hid (show Below w.heap.size w (w.alloc (.cells #[.int .i64 x.k, .slice A1 x.a.length c1, .slice A2 x.b.length c2, .slice A3 x.c.length c3] 211)) from bel_alloc (Below.refl _ _) _)
  have HN := Lib.hid (Bx.new w 211 #[.int .i64 x.k, .slice A1 x.a.length c1, .slice A2 x.b.length c2, .slice A3 x.c.length c3])
  go_enter Tryz.func155, Tryz.ntmps155
  go_wp2_with (first | (go_at_call 11; (with_reducible refine (HX0.out _ _ HB0.out l0 l1).mono ?_); rintro e w1 ⟨r1, rfl, hr1, hb1⟩; have HR1 := Lib.hid hr1; have HB1 := Lib.hid (bel_trans HB0.out hb1); have HL1 := Lib.hid (Int.le_trans hr1.2.1 l1); have HN1 := Lib.hid (Bx.below HN.out hb1); have q1_0 : w1.cell? ⟨w.heap.size, 0, none⟩ = some (.int .i64 x.k) := Bx.cell HN1.out 0; have q1_1 : w1.cell? ⟨w.heap.size, 1, none⟩ = some (.slice A1 x.a.length c1) := Bx.cell HN1.out 1; have q1_2 : w1.cell? ⟨w.heap.size, 2, none⟩ = some (.slice A2 x.b.length c2) := Bx.cell HN1.out 2; have q1_3 : w1.cell? ⟨w.heap.size, 3, none⟩ = some (.slice A3 x.c.length c3) := Bx.cell HN1.out 3; clear hr1 hb1) | (go_at_call 11; (with_reducible refine (HX1.out _ _ HB1.out HR1.out.1 (Int.le_trans HR1.out.2.1 l1)).mono ?_); rintro e w2 ⟨r2, rfl, hr2, hb2⟩; have HR2 := Lib.hid hr2; have HB2 := Lib.hid (bel_trans HB1.out hb2); have HL2 := Lib.hid (Int.le_trans hr2.2.1 HL1.out); have HN2 := Lib.hid (Bx.below HN1.out hb2); have q2_0 : w2.cell? ⟨w.heap.size, 0, none⟩ = some (.int .i64 x.k) := Bx.cell HN2.out 0; have q2_1 : w2.cell? ⟨w.heap.size, 1, none⟩ = some (.slice A1 x.a.length c1) := Bx.cell HN2.out 1; have q2_2 : w2.cell? ⟨w.heap.size, 2, none⟩ = some (.slice A2 x.b.length c2) := Bx.cell HN2.out 2; have q2_3 : w2.cell? ⟨w.heap.size, 3, none⟩ = some (.slice A3 x.c.length c3) := Bx.cell HN2.out 3; clear hr2 hb2) | (go_at_call 11; (with_reducible refine (HX2.out _ _ HB2.out HR2.out.1 (Int.le_trans HR2.out.2.1 HL1.out)).mono ?_); rintro e w3 ⟨r3, rfl, hr3, hb3⟩; have HR3 := Lib.hid hr3; have HB3 := Lib.hid (bel_trans HB2.out hb3); have HL3 := Lib.hid (Int.le_trans hr3.2.1 HL2.out); clear hr3 hb3))
  all_goals go_ret
  all_goals first
    | exact ⟨r3, rfl, by have q1 := HR1.out; have q2 := HR2.out; have q3 := HR3.out; unfold Left at q1 q2 q3; unfold Left mz_goal; omega, HB3.out⟩
    | exact ⟨-1, rfl, by unfold Left; omega, HB3.out⟩
    | exact ⟨-1, rfl, by unfold Left; omega, HB2.out⟩
    | exact ⟨-1, rfl, by unfold Left; omega, HB1.out⟩
theorem sz_goalS_c (D : List Goal) (v : Value) (l : Int) (w : World) (hS : KI.goal.S w v D) (l0 : -1 ≤ l) (l1 : l ≤ 1048576) :
    Calls Tryz.prog 116 #[v, .int .i64 l] w fun e w' => ∃ r, e = .returned (.int .i64 r) ∧ Left r l (szL mz_goal D) ∧ Below w.heap.size w w' := by
  have HS := Lib.hid hS
  obtain ⟨A, c, rfl, a1, a2, -⟩ := hS
  have hm : maxLen = 9223372036854775807 := rfl
  have H0 := Lib.hid (Below.refl w.heap.size w)
  by_cases hlt : l - (D.length : Int) < 0
  · have e1 : decide (l - (D.length : Int) < 0) = true := decide_eq_true hlt
    go_enter Tryz.func116, Tryz.ntmps116
    go_wp2
    go_ret
    exact ⟨_, rfl, by unfold Left; omega, H0.out⟩
  · have e1 : decide (l - (D.length : Int) < 0) = false := decide_eq_false hlt
    have HJ := Lib.hid (show -1 ≤ l - (D.length : Int) ∧ l - (D.length : Int) ≤ 1048576 ∧ l - (D.length : Int) + (szD mz_goal D 0 : Int) ≤ l ∧ l - (D.length : Int) ≤ l by rw [szD_zero]; omega)
    clear hlt
    go_enter Tryz.func116, Tryz.ntmps116
    go_wp2
    go_loopw [1, 5] (fun v1 v5 wr => ∃ (k : Nat) (x : Int), v1 = .int .i64 x ∧ v5 = .int .i64 k ∧ k ≤ D.length ∧ -1 ≤ x ∧ x ≤ 1048576 ∧ Hid (x + (szD mz_goal D k : Int) ≤ l ∧ x ≤ l) ∧ Hid (Below w.heap.size w wr)) (fun _ v5 _ => D.length - (intOf v5).toNat)
    case atStart => exact ⟨0, _, rfl, rfl, Nat.zero_le _, HJ.out.1, HJ.out.2.1, Lib.hid HJ.out.2.2, H0⟩
    case round =>
      obtain ⟨k, x, rfl, rfl, hk, hx0, hx1, HRr, HBr⟩ := hrel
      by_cases hlt : k < D.length
      · obtain ⟨cc, hc⟩ : ∃ cc, D[k]? = some cc := ⟨_, List.getElem?_eq_getElem hlt⟩
        obtain ⟨A', c', ev, _, _, hC⟩ := KI.S_ext HBr.out HS.out
        injection ev with u1 u2 u3
        obtain ⟨ad, v1, v2, v3, had, x0, x1, x2, x3, h1, h2, h3⟩ := kgoal_at hC hc
        have had2 := u1.trans had
        have HX := Lib.hid (fun l0 l1 => sz_goal_c cc v1 v2 v3 x wr h1 h2 h3  l0 l1)
        have HSs := Lib.hid (szD_succ mz_goal hc)
        have hk1 := h1
        obtain ⟨B1, d1, rfl, -, -, -⟩ := hk1
        have hk2 := h2
        obtain ⟨B2, d2, rfl, -, -, -⟩ := hk2
        have hk3 := h3
        obtain ⟨B3, d3, rfl, -, -, -⟩ := hk3
        clear u1 u2 u3 had hC hc h1 h2 h3
        subst had2
        go_wp2_with (go_at_call 155; (with_reducible refine (HX.out hx0 hx1).mono ?_); rintro e w2 ⟨r, rfl, hr, hb2⟩; have HR := Lib.hid hr; have HB2 := Lib.hid (bel_trans HBr.out hb2); clear hr hb2)
        all_goals first
          | (go_ret; exact ⟨-1, rfl, by unfold Left; omega, HB2.out⟩)
          | exact ⟨⟨k + 1, r, rfl, by go_num, hlt, HR.out.1, Int.le_trans HR.out.2.1 hx1, Lib.hid (by have h1 := HRr.out; have h2 := HR.out; have h3 := HSs.out; unfold Left at h2; rw [h3]; omega), HB2⟩, by simp [intOf]; omega⟩
      · have HV := Lib.hid (szD_end mz_goal (xs := D) (k := k) (by omega))
        go_wp2
        go_ret
        exact ⟨x, rfl, by have := HRr.out; rw [HV.out] at this; unfold Left; omega, HBr.out⟩
theorem sz_clause_c (x : Clause) (v1 v2 : Value) (l : Int) (w : World) (h1 : KI.cell.S w v1 x.head) (h2 : KI.goal.S w v2 x.body)  (l0 : -1 ≤ l) (l1 : l ≤ 1048576) :
    Calls Tryz.prog 75 #[.agg #[v1, v2], .int .i64 l] w fun e w' => ∃ r, e = .returned (.int .i64 r) ∧ Left r l (mz_clause x) ∧ Below w.heap.size w w' := by
  have HX0 := Lib.hid (fun l W hb l0 l1 => sz_cellS_c x.head v1 l W (KI.S_ext (w := w) hb h1) l0 l1)
  have HX1 := Lib.hid (fun l W hb l0 l1 => sz_goalS_c x.body v2 l W (KI.S_ext (w := w) hb h2) l0 l1)
  have hk1 := h1
  have hk2 := h2
  obtain ⟨A1, c1, rfl, -, -, -⟩ := hk1
  obtain ⟨A2, c2, rfl, -, -, -⟩ := hk2
  clear h1 h2
  have HB0 := Lib.hid (show Below w.heap.size w (w.alloc (.cells #[.slice A1 x.head.length c1, .slice A2 x.body.length c2] 130)) from bel_alloc (Below.refl _ _) _)
  have HN := Lib.hid (Bx.new w 130 #[.slice A1 x.head.length c1, .slice A2 x.body.length c2])
  go_enter Tryz.func75, Tryz.ntmps75
  go_wp2_with (first | (go_at_call 11; (with_reducible refine (HX0.out _ _ HB0.out l0 l1).mono ?_); rintro e w1 ⟨r1, rfl, hr1, hb1⟩; have HR1 := Lib.hid hr1; have HB1 := Lib.hid (bel_trans HB0.out hb1); have HL1 := Lib.hid (Int.le_trans hr1.2.1 l1); have HN1 := Lib.hid (Bx.below HN.out hb1); have q1_0 : w1.cell? ⟨w.heap.size, 0, none⟩ = some (.slice A1 x.head.length c1) := Bx.cell HN1.out 0; have q1_1 : w1.cell? ⟨w.heap.size, 1, none⟩ = some (.slice A2 x.body.length c2) := Bx.cell HN1.out 1; clear hr1 hb1) | (go_at_call 116; (with_reducible refine (HX1.out _ _ HB1.out HR1.out.1 (Int.le_trans HR1.out.2.1 l1)).mono ?_); rintro e w2 ⟨r2, rfl, hr2, hb2⟩; have HR2 := Lib.hid hr2; have HB2 := Lib.hid (bel_trans HB1.out hb2); have HL2 := Lib.hid (Int.le_trans hr2.2.1 HL1.out); clear hr2 hb2))
  all_goals go_ret
  all_goals first
    | exact ⟨r2, rfl, by have q1 := HR1.out; have q2 := HR2.out; unfold Left at q1 q2; unfold Left mz_clause; omega, HB2.out⟩
    | exact ⟨-1, rfl, by unfold Left; omega, HB2.out⟩
    | exact ⟨-1, rfl, by unfold Left; omega, HB1.out⟩
theorem sz_clauseS_c (D : List Clause) (v : Value) (l : Int) (w : World) (hS : KI.clause.S w v D) (l0 : -1 ≤ l) (l1 : l ≤ 1048576) :
    Calls Tryz.prog 36 #[v, .int .i64 l] w fun e w' => ∃ r, e = .returned (.int .i64 r) ∧ Left r l (szL mz_clause D) ∧ Below w.heap.size w w' := by
  have HS := Lib.hid hS
  obtain ⟨A, c, rfl, a1, a2, -⟩ := hS
  have hm : maxLen = 9223372036854775807 := rfl
  have H0 := Lib.hid (Below.refl w.heap.size w)
  by_cases hlt : l - (D.length : Int) < 0
  · have e1 : decide (l - (D.length : Int) < 0) = true := decide_eq_true hlt
    go_enter Tryz.func36, Tryz.ntmps36
    go_wp2
    go_ret
    exact ⟨_, rfl, by unfold Left; omega, H0.out⟩
  · have e1 : decide (l - (D.length : Int) < 0) = false := decide_eq_false hlt
    have HJ := Lib.hid (show -1 ≤ l - (D.length : Int) ∧ l - (D.length : Int) ≤ 1048576 ∧ l - (D.length : Int) + (szD mz_clause D 0 : Int) ≤ l ∧ l - (D.length : Int) ≤ l by rw [szD_zero]; omega)
    clear hlt
    go_enter Tryz.func36, Tryz.ntmps36
    go_wp2
    go_loopw [1, 5] (fun v1 v5 wr => ∃ (k : Nat) (x : Int), v1 = .int .i64 x ∧ v5 = .int .i64 k ∧ k ≤ D.length ∧ -1 ≤ x ∧ x ≤ 1048576 ∧ Hid (x + (szD mz_clause D k : Int) ≤ l ∧ x ≤ l) ∧ Hid (Below w.heap.size w wr)) (fun _ v5 _ => D.length - (intOf v5).toNat)
    case atStart => exact ⟨0, _, rfl, rfl, Nat.zero_le _, HJ.out.1, HJ.out.2.1, Lib.hid HJ.out.2.2, H0⟩
    case round =>
      obtain ⟨k, x, rfl, rfl, hk, hx0, hx1, HRr, HBr⟩ := hrel
      by_cases hlt : k < D.length
      · obtain ⟨cc, hc⟩ : ∃ cc, D[k]? = some cc := ⟨_, List.getElem?_eq_getElem hlt⟩
        obtain ⟨A', c', ev, _, _, hC⟩ := KI.S_ext HBr.out HS.out
        injection ev with u1 u2 u3
        obtain ⟨ad, v1, v2, had, x0, x1, h1, h2⟩ := kclause_at hC hc
        have had2 := u1.trans had
        have HX := Lib.hid (fun l0 l1 => sz_clause_c cc v1 v2 x wr h1 h2  l0 l1)
        have HSs := Lib.hid (szD_succ mz_clause hc)
        have hk1 := h1
        obtain ⟨B1, d1, rfl, -, -, -⟩ := hk1
        have hk2 := h2
        obtain ⟨B2, d2, rfl, -, -, -⟩ := hk2
        clear u1 u2 u3 had hC hc h1 h2
        subst had2
        go_wp2_with (go_at_call 75; (with_reducible refine (HX.out hx0 hx1).mono ?_); rintro e w2 ⟨r, rfl, hr, hb2⟩; have HR := Lib.hid hr; have HB2 := Lib.hid (bel_trans HBr.out hb2); clear hr hb2)
        all_goals first
          | (go_ret; exact ⟨-1, rfl, by unfold Left; omega, HB2.out⟩)
          | exact ⟨⟨k + 1, r, rfl, by go_num, hlt, HR.out.1, Int.le_trans HR.out.2.1 hx1, Lib.hid (by have h1 := HRr.out; have h2 := HR.out; have h3 := HSs.out; unfold Left at h2; rw [h3]; omega), HB2⟩, by simp [intOf]; omega⟩
      · have HV := Lib.hid (szD_end mz_clause (xs := D) (k := k) (by omega))
        go_wp2
        go_ret
        exact ⟨x, rfl, by have := HRr.out; rw [HV.out] at this; unfold Left; omega, HBr.out⟩
theorem sz_place_c (x : Place)  (l : Int) (w : World)  (hz0 : x.name.size ≤ maxLen) (l0 : -1 ≤ l) (l1 : l ≤ 1048576) :
    Calls Tryz.prog 76 #[.agg #[.string x.name, .int .i64 x.n, .int .i64 x.node], .int .i64 l] w fun e w' => ∃ r, e = .returned (.int .i64 r) ∧ Left r l (mz_place x) ∧ Below w.heap.size w w' := by
  have hm : maxLen = 9223372036854775807 := rfl
  have HB := Lib.hid (show Below w.heap.size w (w.alloc (.cells #[.string x.name, .int .i64 x.n, .int .i64 x.node] 132)) from bel_alloc (Below.refl _ _) _)
  by_cases hlt : l - (x.name.size : Int) < 0
  · have e1 : decide (l - (x.name.size : Int) < 0) = true := decide_eq_true hlt
    go_enter Tryz.func76, Tryz.ntmps76
    go_wp2
    go_ret
    exact ⟨_, rfl, by unfold Left mz_place; omega, HB.out⟩
  · have e1 : decide (l - (x.name.size : Int) < 0) = false := decide_eq_false hlt
    go_enter Tryz.func76, Tryz.ntmps76
    go_wp2
    go_ret
    exact ⟨_, rfl, by unfold Left mz_place; omega, HB.out⟩
theorem sz_placeS_c (D : List Place) (v : Value) (l : Int) (w : World) (hS : KI.place.S w v D) (l0 : -1 ≤ l) (l1 : l ≤ 1048576) :
    Calls Tryz.prog 37 #[v, .int .i64 l] w fun e w' => ∃ r, e = .returned (.int .i64 r) ∧ Left r l (szL mz_place D) ∧ Below w.heap.size w w' := by
  have HS := Lib.hid hS
  obtain ⟨A, c, rfl, a1, a2, -⟩ := hS
  have hm : maxLen = 9223372036854775807 := rfl
  have H0 := Lib.hid (Below.refl w.heap.size w)
  by_cases hlt : l - (D.length : Int) < 0
  · have e1 : decide (l - (D.length : Int) < 0) = true := decide_eq_true hlt
    go_enter Tryz.func37, Tryz.ntmps37
    go_wp2
    go_ret
    exact ⟨_, rfl, by unfold Left; omega, H0.out⟩
  · have e1 : decide (l - (D.length : Int) < 0) = false := decide_eq_false hlt
    have HJ := Lib.hid (show -1 ≤ l - (D.length : Int) ∧ l - (D.length : Int) ≤ 1048576 ∧ l - (D.length : Int) + (szD mz_place D 0 : Int) ≤ l ∧ l - (D.length : Int) ≤ l by rw [szD_zero]; omega)
    clear hlt
    go_enter Tryz.func37, Tryz.ntmps37
    go_wp2
    go_loopw [1, 5] (fun v1 v5 wr => ∃ (k : Nat) (x : Int), v1 = .int .i64 x ∧ v5 = .int .i64 k ∧ k ≤ D.length ∧ -1 ≤ x ∧ x ≤ 1048576 ∧ Hid (x + (szD mz_place D k : Int) ≤ l ∧ x ≤ l) ∧ Hid (Below w.heap.size w wr)) (fun _ v5 _ => D.length - (intOf v5).toNat)
    case atStart => exact ⟨0, _, rfl, rfl, Nat.zero_le _, HJ.out.1, HJ.out.2.1, Lib.hid HJ.out.2.2, H0⟩
    case round =>
      obtain ⟨k, x, rfl, rfl, hk, hx0, hx1, HRr, HBr⟩ := hrel
      by_cases hlt : k < D.length
      · obtain ⟨cc, hc⟩ : ∃ cc, D[k]? = some cc := ⟨_, List.getElem?_eq_getElem hlt⟩
        obtain ⟨A', c', ev, _, _, hC⟩ := KI.S_ext HBr.out HS.out
        injection ev with u1 u2 u3
        obtain ⟨ad, had, x0, x1, x2, z1⟩ := kplace_at hC hc
        have had2 := u1.trans had
        have HX := Lib.hid (fun l0 l1 => sz_place_c cc  x wr  z1 l0 l1)
        have HSs := Lib.hid (szD_succ mz_place hc)
        clear u1 u2 u3 had hC hc 
        subst had2
        go_wp2_with (go_at_call 76; (with_reducible refine (HX.out hx0 hx1).mono ?_); rintro e w2 ⟨r, rfl, hr, hb2⟩; have HR := Lib.hid hr; have HB2 := Lib.hid (bel_trans HBr.out hb2); clear hr hb2)
        all_goals first
          | (go_ret; exact ⟨-1, rfl, by unfold Left; omega, HB2.out⟩)
          | exact ⟨⟨k + 1, r, rfl, by go_num, hlt, HR.out.1, Int.le_trans HR.out.2.1 hx1, Lib.hid (by have h1 := HRr.out; have h2 := HR.out; have h3 := HSs.out; unfold Left at h2; rw [h3]; omega), HB2⟩, by simp [intOf]; omega⟩
      · have HV := Lib.hid (szD_end mz_place (xs := D) (k := k) (by omega))
        go_wp2
        go_ret
        exact ⟨x, rfl, by have := HRr.out; rw [HV.out] at this; unfold Left; omega, HBr.out⟩
theorem sz_prog_c (x : Prog) (v1 v2 : Value) (l : Int) (w : World) (h1 : KI.clause.S w v1 x.cl) (h2 : KI.place.S w v2 x.pl)  (l0 : -1 ≤ l) (l1 : l ≤ 1048576) :
    Calls Tryz.prog 9 #[.agg #[v1, v2], .int .i64 l] w fun e w' => ∃ r, e = .returned (.int .i64 r) ∧ Left r l (mz_prog x) ∧ Below w.heap.size w w' := by
  have HX0 := Lib.hid (fun l W hb l0 l1 => sz_clauseS_c x.cl v1 l W (KI.S_ext (w := w) hb h1) l0 l1)
  have HX1 := Lib.hid (fun l W hb l0 l1 => sz_placeS_c x.pl v2 l W (KI.S_ext (w := w) hb h2) l0 l1)
  have hk1 := h1
  have hk2 := h2
  obtain ⟨A1, c1, rfl, -, -, -⟩ := hk1
  obtain ⟨A2, c2, rfl, -, -, -⟩ := hk2
  clear h1 h2
  have HB0 := Lib.hid (show Below w.heap.size w (w.alloc (.cells #[.slice A1 x.cl.length c1, .slice A2 x.pl.length c2] 25)) from bel_alloc (Below.refl _ _) _)
  have HN := Lib.hid (Bx.new w 25 #[.slice A1 x.cl.length c1, .slice A2 x.pl.length c2])
  go_enter Tryz.func9, Tryz.ntmps9
  go_wp2_with (first | (go_at_call 36; (with_reducible refine (HX0.out _ _ HB0.out l0 l1).mono ?_); rintro e w1 ⟨r1, rfl, hr1, hb1⟩; have HR1 := Lib.hid hr1; have HB1 := Lib.hid (bel_trans HB0.out hb1); have HL1 := Lib.hid (Int.le_trans hr1.2.1 l1); have HN1 := Lib.hid (Bx.below HN.out hb1); have q1_0 : w1.cell? ⟨w.heap.size, 0, none⟩ = some (.slice A1 x.cl.length c1) := Bx.cell HN1.out 0; have q1_1 : w1.cell? ⟨w.heap.size, 1, none⟩ = some (.slice A2 x.pl.length c2) := Bx.cell HN1.out 1; clear hr1 hb1) | (go_at_call 37; (with_reducible refine (HX1.out _ _ HB1.out HR1.out.1 (Int.le_trans HR1.out.2.1 l1)).mono ?_); rintro e w2 ⟨r2, rfl, hr2, hb2⟩; have HR2 := Lib.hid hr2; have HB2 := Lib.hid (bel_trans HB1.out hb2); have HL2 := Lib.hid (Int.le_trans hr2.2.1 HL1.out); clear hr2 hb2))
  all_goals go_ret
  all_goals first
    | exact ⟨r2, rfl, by have q1 := HR1.out; have q2 := HR2.out; unfold Left at q1 q2; unfold Left mz_prog; omega, HB2.out⟩
    | exact ⟨-1, rfl, by unfold Left; omega, HB2.out⟩
    | exact ⟨-1, rfl, by unfold Left; omega, HB1.out⟩
theorem sz_sgoal_c (x : SGoal) (v1 v2 v3 : Value) (l : Int) (w : World) (h1 : KI.cell.S w v1 x.g.a) (h2 : KI.cell.S w v2 x.g.b) (h3 : KI.cell.S w v3 x.g.c)  (l0 : -1 ≤ l) (l1 : l ≤ 1048576) :
    Calls Tryz.prog 199 #[.agg #[.int .i64 x.g.k, v1, v2, v3, .int .i64 x.cut], .int .i64 l] w fun e w' => ∃ r, e = .returned (.int .i64 r) ∧ Left r l (mz_sgoal x) ∧ Below w.heap.size w w' := by
  have HX0 := Lib.hid (fun l W (hb : Below w.heap.size w W) l0 l1 => sz_goal_c x.g v1 v2 v3 l W (KI.S_ext hb h1) (KI.S_ext hb h2) (KI.S_ext hb h3) l0 l1)
  have hk1 := h1
  have hk2 := h2
  have hk3 := h3
  obtain ⟨A1, c1, rfl, -, -, -⟩ := hk1
  obtain ⟨A2, c2, rfl, -, -, -⟩ := hk2
  obtain ⟨A3, c3, rfl, -, -, -⟩ := hk3
  clear h1 h2 h3
  have HB0 := Lib.hid (show Below w.heap.size w (w.alloc (.cells #[.int .i64 x.g.k, .slice A1 x.g.a.length c1, .slice A2 x.g.b.length c2, .slice A3 x.g.c.length c3, .int .i64 x.cut] 260)) from bel_alloc (Below.refl _ _) _)
  have HN := Lib.hid (Bx.new w 260 #[.int .i64 x.g.k, .slice A1 x.g.a.length c1, .slice A2 x.g.b.length c2, .slice A3 x.g.c.length c3, .int .i64 x.cut])
  go_enter Tryz.func199, Tryz.ntmps199
  go_wp2_with (first | (go_at_call 155; (with_reducible refine (HX0.out _ _ HB0.out l0 l1).mono ?_); rintro e w1 ⟨r1, rfl, hr1, hb1⟩; have HR1 := Lib.hid hr1; have HB1 := Lib.hid (bel_trans HB0.out hb1); have HL1 := Lib.hid (Int.le_trans hr1.2.1 l1); clear hr1 hb1))
  all_goals go_ret
  all_goals first
    | exact ⟨r1, rfl, by have q1 := HR1.out; unfold Left at q1; unfold Left mz_sgoal; omega, HB1.out⟩
    | exact ⟨-1, rfl, by unfold Left; omega, HB1.out⟩
theorem sz_sgoalS_c (D : List SGoal) (v : Value) (l : Int) (w : World) (hS : KI.sgoal.S w v D) (l0 : -1 ≤ l) (l1 : l ≤ 1048576) :
    Calls Tryz.prog 184 #[v, .int .i64 l] w fun e w' => ∃ r, e = .returned (.int .i64 r) ∧ Left r l (szL mz_sgoal D) ∧ Below w.heap.size w w' := by
  have HS := Lib.hid hS
  obtain ⟨A, c, rfl, a1, a2, -⟩ := hS
  have hm : maxLen = 9223372036854775807 := rfl
  have H0 := Lib.hid (Below.refl w.heap.size w)
  by_cases hlt : l - (D.length : Int) < 0
  · have e1 : decide (l - (D.length : Int) < 0) = true := decide_eq_true hlt
    go_enter Tryz.func184, Tryz.ntmps184
    go_wp2
    go_ret
    exact ⟨_, rfl, by unfold Left; omega, H0.out⟩
  · have e1 : decide (l - (D.length : Int) < 0) = false := decide_eq_false hlt
    have HJ := Lib.hid (show -1 ≤ l - (D.length : Int) ∧ l - (D.length : Int) ≤ 1048576 ∧ l - (D.length : Int) + (szD mz_sgoal D 0 : Int) ≤ l ∧ l - (D.length : Int) ≤ l by rw [szD_zero]; omega)
    clear hlt
    go_enter Tryz.func184, Tryz.ntmps184
    go_wp2
    go_loopw [1, 5] (fun v1 v5 wr => ∃ (k : Nat) (x : Int), v1 = .int .i64 x ∧ v5 = .int .i64 k ∧ k ≤ D.length ∧ -1 ≤ x ∧ x ≤ 1048576 ∧ Hid (x + (szD mz_sgoal D k : Int) ≤ l ∧ x ≤ l) ∧ Hid (Below w.heap.size w wr)) (fun _ v5 _ => D.length - (intOf v5).toNat)
    case atStart => exact ⟨0, _, rfl, rfl, Nat.zero_le _, HJ.out.1, HJ.out.2.1, Lib.hid HJ.out.2.2, H0⟩
    case round =>
      obtain ⟨k, x, rfl, rfl, hk, hx0, hx1, HRr, HBr⟩ := hrel
      by_cases hlt : k < D.length
      · obtain ⟨cc, hc⟩ : ∃ cc, D[k]? = some cc := ⟨_, List.getElem?_eq_getElem hlt⟩
        obtain ⟨A', c', ev, _, _, hC⟩ := KI.S_ext HBr.out HS.out
        injection ev with u1 u2 u3
        obtain ⟨ad, v1, v2, v3, had, x0, x1, x2, x3, x4, h1, h2, h3⟩ := ksgoal_at hC hc
        have had2 := u1.trans had
        have HX := Lib.hid (fun l0 l1 => sz_sgoal_c cc v1 v2 v3 x wr h1 h2 h3  l0 l1)
        have HSs := Lib.hid (szD_succ mz_sgoal hc)
        have hk1 := h1
        obtain ⟨B1, d1, rfl, -, -, -⟩ := hk1
        have hk2 := h2
        obtain ⟨B2, d2, rfl, -, -, -⟩ := hk2
        have hk3 := h3
        obtain ⟨B3, d3, rfl, -, -, -⟩ := hk3
        clear u1 u2 u3 had hC hc h1 h2 h3
        subst had2
        go_wp2_with (go_at_call 199; (with_reducible refine (HX.out hx0 hx1).mono ?_); rintro e w2 ⟨r, rfl, hr, hb2⟩; have HR := Lib.hid hr; have HB2 := Lib.hid (bel_trans HBr.out hb2); clear hr hb2)
        all_goals first
          | (go_ret; exact ⟨-1, rfl, by unfold Left; omega, HB2.out⟩)
          | exact ⟨⟨k + 1, r, rfl, by go_num, hlt, HR.out.1, Int.le_trans HR.out.2.1 hx1, Lib.hid (by have h1 := HRr.out; have h2 := HR.out; have h3 := HSs.out; unfold Left at h2; rw [h3]; omega), HB2⟩, by simp [intOf]; omega⟩
      · have HV := Lib.hid (szD_end mz_sgoal (xs := D) (k := k) (by omega))
        go_wp2
        go_ret
        exact ⟨x, rfl, by have := HRr.out; rw [HV.out] at this; unfold Left; omega, HBr.out⟩
theorem sz_bind_c (x : (Int × Trm)) (v1 : Value) (l : Int) (w : World) (h1 : KI.cell.S w v1 x.2)  (l0 : -1 ≤ l) (l1 : l ≤ 1048576) :
    Calls Tryz.prog 200 #[.agg #[.int .i64 x.1, v1], .int .i64 l] w fun e w' => ∃ r, e = .returned (.int .i64 r) ∧ Left r l (mz_bind x) ∧ Below w.heap.size w w' := by
  have HX0 := Lib.hid (fun l W hb l0 l1 => sz_cellS_c x.2 v1 l W (KI.S_ext (w := w) hb h1) l0 l1)
  have hk1 := h1
  obtain ⟨A1, c1, rfl, -, -, -⟩ := hk1
  clear h1
  have HB0 := Lib.hid (show Below w.heap.size w (w.alloc (.cells #[.int .i64 x.1, .slice A1 x.2.length c1] 263)) from bel_alloc (Below.refl _ _) _)
  have HN := Lib.hid (Bx.new w 263 #[.int .i64 x.1, .slice A1 x.2.length c1])
  go_enter Tryz.func200, Tryz.ntmps200
  go_wp2_with (first | (go_at_call 11; (with_reducible refine (HX0.out _ _ HB0.out l0 l1).mono ?_); rintro e w1 ⟨r1, rfl, hr1, hb1⟩; have HR1 := Lib.hid hr1; have HB1 := Lib.hid (bel_trans HB0.out hb1); have HL1 := Lib.hid (Int.le_trans hr1.2.1 l1); clear hr1 hb1))
  all_goals go_ret
  all_goals first
    | exact ⟨r1, rfl, by have q1 := HR1.out; unfold Left at q1; unfold Left mz_bind; omega, HB1.out⟩
    | exact ⟨-1, rfl, by unfold Left; omega, HB1.out⟩
theorem sz_bindS_c (D : List (Int × Trm)) (v : Value) (l : Int) (w : World) (hS : KI.bind.S w v D) (l0 : -1 ≤ l) (l1 : l ≤ 1048576) :
    Calls Tryz.prog 185 #[v, .int .i64 l] w fun e w' => ∃ r, e = .returned (.int .i64 r) ∧ Left r l (szL mz_bind D) ∧ Below w.heap.size w w' := by
  have HS := Lib.hid hS
  obtain ⟨A, c, rfl, a1, a2, -⟩ := hS
  have hm : maxLen = 9223372036854775807 := rfl
  have H0 := Lib.hid (Below.refl w.heap.size w)
  by_cases hlt : l - (D.length : Int) < 0
  · have e1 : decide (l - (D.length : Int) < 0) = true := decide_eq_true hlt
    go_enter Tryz.func185, Tryz.ntmps185
    go_wp2
    go_ret
    exact ⟨_, rfl, by unfold Left; omega, H0.out⟩
  · have e1 : decide (l - (D.length : Int) < 0) = false := decide_eq_false hlt
    have HJ := Lib.hid (show -1 ≤ l - (D.length : Int) ∧ l - (D.length : Int) ≤ 1048576 ∧ l - (D.length : Int) + (szD mz_bind D 0 : Int) ≤ l ∧ l - (D.length : Int) ≤ l by rw [szD_zero]; omega)
    clear hlt
    go_enter Tryz.func185, Tryz.ntmps185
    go_wp2
    go_loopw [1, 5] (fun v1 v5 wr => ∃ (k : Nat) (x : Int), v1 = .int .i64 x ∧ v5 = .int .i64 k ∧ k ≤ D.length ∧ -1 ≤ x ∧ x ≤ 1048576 ∧ Hid (x + (szD mz_bind D k : Int) ≤ l ∧ x ≤ l) ∧ Hid (Below w.heap.size w wr)) (fun _ v5 _ => D.length - (intOf v5).toNat)
    case atStart => exact ⟨0, _, rfl, rfl, Nat.zero_le _, HJ.out.1, HJ.out.2.1, Lib.hid HJ.out.2.2, H0⟩
    case round =>
      obtain ⟨k, x, rfl, rfl, hk, hx0, hx1, HRr, HBr⟩ := hrel
      by_cases hlt : k < D.length
      · obtain ⟨cc, hc⟩ : ∃ cc, D[k]? = some cc := ⟨_, List.getElem?_eq_getElem hlt⟩
        obtain ⟨A', c', ev, _, _, hC⟩ := KI.S_ext HBr.out HS.out
        injection ev with u1 u2 u3
        obtain ⟨ad, v1, had, x0, x1, h1⟩ := kbind_at hC hc
        have had2 := u1.trans had
        have HX := Lib.hid (fun l0 l1 => sz_bind_c cc v1 x wr h1  l0 l1)
        have HSs := Lib.hid (szD_succ mz_bind hc)
        have hk1 := h1
        obtain ⟨B1, d1, rfl, -, -, -⟩ := hk1
        clear u1 u2 u3 had hC hc h1
        subst had2
        go_wp2_with (go_at_call 200; (with_reducible refine (HX.out hx0 hx1).mono ?_); rintro e w2 ⟨r, rfl, hr, hb2⟩; have HR := Lib.hid hr; have HB2 := Lib.hid (bel_trans HBr.out hb2); clear hr hb2)
        all_goals first
          | (go_ret; exact ⟨-1, rfl, by unfold Left; omega, HB2.out⟩)
          | exact ⟨⟨k + 1, r, rfl, by go_num, hlt, HR.out.1, Int.le_trans HR.out.2.1 hx1, Lib.hid (by have h1 := HRr.out; have h2 := HR.out; have h3 := HSs.out; unfold Left at h2; rw [h3]; omega), HB2⟩, by simp [intOf]; omega⟩
      · have HV := Lib.hid (szD_end mz_bind (xs := D) (k := k) (by omega))
        go_wp2
        go_ret
        exact ⟨x, rfl, by have := HRr.out; rw [HV.out] at this; unfold Left; omega, HBr.out⟩
theorem sz_tch_c (x : TCh) (v1 v2 : Value) (l : Int) (w : World) (h1 : KI.sgoal.S w v1 x.goals) (h2 : KI.cell.S w v2 x.call)  (l0 : -1 ≤ l) (l1 : l ≤ 1048576) :
    Calls Tryz.prog 201 #[.agg #[v1, .int .i64 x.mark, .int .i64 x.vars, v2, .int .i64 x.next, .int .i64 x.far], .int .i64 l] w fun e w' => ∃ r, e = .returned (.int .i64 r) ∧ Left r l (mz_tch x) ∧ Below w.heap.size w w' := by
  have HX0 := Lib.hid (fun l W hb l0 l1 => sz_sgoalS_c x.goals v1 l W (KI.S_ext (w := w) hb h1) l0 l1)
  have HX1 := Lib.hid (fun l W hb l0 l1 => sz_cellS_c x.call v2 l W (KI.S_ext (w := w) hb h2) l0 l1)
  have hk1 := h1
  have hk2 := h2
  obtain ⟨A1, c1, rfl, -, -, -⟩ := hk1
  obtain ⟨A2, c2, rfl, -, -, -⟩ := hk2
  clear h1 h2
  have HB0 := Lib.hid (show Below w.heap.size w (w.alloc (.cells #[.slice A1 x.goals.length c1, .int .i64 x.mark, .int .i64 x.vars, .slice A2 x.call.length c2, .int .i64 x.next, .int .i64 x.far] 266)) from bel_alloc (Below.refl _ _) _)
  have HN := Lib.hid (Bx.new w 266 #[.slice A1 x.goals.length c1, .int .i64 x.mark, .int .i64 x.vars, .slice A2 x.call.length c2, .int .i64 x.next, .int .i64 x.far])
  go_enter Tryz.func201, Tryz.ntmps201
  go_wp2_with (first | (go_at_call 184; (with_reducible refine (HX0.out _ _ HB0.out l0 l1).mono ?_); rintro e w1 ⟨r1, rfl, hr1, hb1⟩; have HR1 := Lib.hid hr1; have HB1 := Lib.hid (bel_trans HB0.out hb1); have HL1 := Lib.hid (Int.le_trans hr1.2.1 l1); have HN1 := Lib.hid (Bx.below HN.out hb1); have q1_0 : w1.cell? ⟨w.heap.size, 0, none⟩ = some (.slice A1 x.goals.length c1) := Bx.cell HN1.out 0; have q1_1 : w1.cell? ⟨w.heap.size, 1, none⟩ = some (.int .i64 x.mark) := Bx.cell HN1.out 1; have q1_2 : w1.cell? ⟨w.heap.size, 2, none⟩ = some (.int .i64 x.vars) := Bx.cell HN1.out 2; have q1_3 : w1.cell? ⟨w.heap.size, 3, none⟩ = some (.slice A2 x.call.length c2) := Bx.cell HN1.out 3; have q1_4 : w1.cell? ⟨w.heap.size, 4, none⟩ = some (.int .i64 x.next) := Bx.cell HN1.out 4; have q1_5 : w1.cell? ⟨w.heap.size, 5, none⟩ = some (.int .i64 x.far) := Bx.cell HN1.out 5; clear hr1 hb1) | (go_at_call 11; (with_reducible refine (HX1.out _ _ HB1.out HR1.out.1 (Int.le_trans HR1.out.2.1 l1)).mono ?_); rintro e w2 ⟨r2, rfl, hr2, hb2⟩; have HR2 := Lib.hid hr2; have HB2 := Lib.hid (bel_trans HB1.out hb2); have HL2 := Lib.hid (Int.le_trans hr2.2.1 HL1.out); clear hr2 hb2))
  all_goals go_ret
  all_goals first
    | exact ⟨r2, rfl, by have q1 := HR1.out; have q2 := HR2.out; unfold Left at q1 q2; unfold Left mz_tch; omega, HB2.out⟩
    | exact ⟨-1, rfl, by unfold Left; omega, HB2.out⟩
    | exact ⟨-1, rfl, by unfold Left; omega, HB1.out⟩
theorem sz_tchS_c (D : List TCh) (v : Value) (l : Int) (w : World) (hS : KI.tch.S w v D) (l0 : -1 ≤ l) (l1 : l ≤ 1048576) :
    Calls Tryz.prog 186 #[v, .int .i64 l] w fun e w' => ∃ r, e = .returned (.int .i64 r) ∧ Left r l (szL mz_tch D) ∧ Below w.heap.size w w' := by
  have HS := Lib.hid hS
  obtain ⟨A, c, rfl, a1, a2, -⟩ := hS
  have hm : maxLen = 9223372036854775807 := rfl
  have H0 := Lib.hid (Below.refl w.heap.size w)
  by_cases hlt : l - (D.length : Int) < 0
  · have e1 : decide (l - (D.length : Int) < 0) = true := decide_eq_true hlt
    go_enter Tryz.func186, Tryz.ntmps186
    go_wp2
    go_ret
    exact ⟨_, rfl, by unfold Left; omega, H0.out⟩
  · have e1 : decide (l - (D.length : Int) < 0) = false := decide_eq_false hlt
    have HJ := Lib.hid (show -1 ≤ l - (D.length : Int) ∧ l - (D.length : Int) ≤ 1048576 ∧ l - (D.length : Int) + (szD mz_tch D 0 : Int) ≤ l ∧ l - (D.length : Int) ≤ l by rw [szD_zero]; omega)
    clear hlt
    go_enter Tryz.func186, Tryz.ntmps186
    go_wp2
    go_loopw [1, 5] (fun v1 v5 wr => ∃ (k : Nat) (x : Int), v1 = .int .i64 x ∧ v5 = .int .i64 k ∧ k ≤ D.length ∧ -1 ≤ x ∧ x ≤ 1048576 ∧ Hid (x + (szD mz_tch D k : Int) ≤ l ∧ x ≤ l) ∧ Hid (Below w.heap.size w wr)) (fun _ v5 _ => D.length - (intOf v5).toNat)
    case atStart => exact ⟨0, _, rfl, rfl, Nat.zero_le _, HJ.out.1, HJ.out.2.1, Lib.hid HJ.out.2.2, H0⟩
    case round =>
      obtain ⟨k, x, rfl, rfl, hk, hx0, hx1, HRr, HBr⟩ := hrel
      by_cases hlt : k < D.length
      · obtain ⟨cc, hc⟩ : ∃ cc, D[k]? = some cc := ⟨_, List.getElem?_eq_getElem hlt⟩
        obtain ⟨A', c', ev, _, _, hC⟩ := KI.S_ext HBr.out HS.out
        injection ev with u1 u2 u3
        obtain ⟨ad, v1, v2, had, x0, x1, x2, x3, x4, x5, h1, h2⟩ := ktch_at hC hc
        have had2 := u1.trans had
        have HX := Lib.hid (fun l0 l1 => sz_tch_c cc v1 v2 x wr h1 h2  l0 l1)
        have HSs := Lib.hid (szD_succ mz_tch hc)
        have hk1 := h1
        obtain ⟨B1, d1, rfl, -, -, -⟩ := hk1
        have hk2 := h2
        obtain ⟨B2, d2, rfl, -, -, -⟩ := hk2
        clear u1 u2 u3 had hC hc h1 h2
        subst had2
        go_wp2_with (go_at_call 201; (with_reducible refine (HX.out hx0 hx1).mono ?_); rintro e w2 ⟨r, rfl, hr, hb2⟩; have HR := Lib.hid hr; have HB2 := Lib.hid (bel_trans HBr.out hb2); clear hr hb2)
        all_goals first
          | (go_ret; exact ⟨-1, rfl, by unfold Left; omega, HB2.out⟩)
          | exact ⟨⟨k + 1, r, rfl, by go_num, hlt, HR.out.1, Int.le_trans HR.out.2.1 hx1, Lib.hid (by have h1 := HRr.out; have h2 := HR.out; have h3 := HSs.out; unfold Left at h2; rw [h3]; omega), HB2⟩, by simp [intOf]; omega⟩
      · have HV := Lib.hid (szD_end mz_tch (xs := D) (k := k) (by omega))
        go_wp2
        go_ret
        exact ⟨x, rfl, by have := HRr.out; rw [HV.out] at this; unfold Left; omega, HBr.out⟩
theorem sz_tst_c (x : TSt) (v1 v2 v3 v4 v5 : Value) (l : Int) (w : World) (h1 : KI.sgoal.S w v1 x.goals) (h2 : KI.bind.S w v2 x.binds) (h3 : KI.tch.S w v3 x.ch) (h4 : KI.cell.S w v4 x.top) (h5 : KI.cell.S w v5 x.out)  (l0 : -1 ≤ l) (l1 : l ≤ 1048576) :
    Calls Tryz.prog 156 #[.agg #[.int .i64 x.st, v1, v2, .int .i64 x.vars, v3, v4, v5], .int .i64 l] w fun e w' => ∃ r, e = .returned (.int .i64 r) ∧ Left r l (mz_tst x) ∧ Below w.heap.size w w' := by
  have HX0 := Lib.hid (fun l W hb l0 l1 => sz_sgoalS_c x.goals v1 l W (KI.S_ext (w := w) hb h1) l0 l1)
  have HX1 := Lib.hid (fun l W hb l0 l1 => sz_bindS_c x.binds v2 l W (KI.S_ext (w := w) hb h2) l0 l1)
  have HX2 := Lib.hid (fun l W hb l0 l1 => sz_tchS_c x.ch v3 l W (KI.S_ext (w := w) hb h3) l0 l1)
  have HX3 := Lib.hid (fun l W hb l0 l1 => sz_cellS_c x.top v4 l W (KI.S_ext (w := w) hb h4) l0 l1)
  have HX4 := Lib.hid (fun l W hb l0 l1 => sz_cellS_c x.out v5 l W (KI.S_ext (w := w) hb h5) l0 l1)
  have hk1 := h1
  have hk2 := h2
  have hk3 := h3
  have hk4 := h4
  have hk5 := h5
  obtain ⟨A1, c1, rfl, -, -, -⟩ := hk1
  obtain ⟨A2, c2, rfl, -, -, -⟩ := hk2
  obtain ⟨A3, c3, rfl, -, -, -⟩ := hk3
  obtain ⟨A4, c4, rfl, -, -, -⟩ := hk4
  obtain ⟨A5, c5, rfl, -, -, -⟩ := hk5
  clear h1 h2 h3 h4 h5
  have HB0 := Lib.hid (show Below w.heap.size w (w.alloc (.cells #[.int .i64 x.st, .slice A1 x.goals.length c1, .slice A2 x.binds.length c2, .int .i64 x.vars, .slice A3 x.ch.length c3, .slice A4 x.top.length c4, .slice A5 x.out.length c5] 172)) from bel_alloc (Below.refl _ _) _)
  have HN := Lib.hid (Bx.new w 172 #[.int .i64 x.st, .slice A1 x.goals.length c1, .slice A2 x.binds.length c2, .int .i64 x.vars, .slice A3 x.ch.length c3, .slice A4 x.top.length c4, .slice A5 x.out.length c5])
  go_enter Tryz.func156, Tryz.ntmps156
  go_wp2_with (first | (go_at_call 184; (with_reducible refine (HX0.out _ _ HB0.out l0 l1).mono ?_); rintro e w1 ⟨r1, rfl, hr1, hb1⟩; have HR1 := Lib.hid hr1; have HB1 := Lib.hid (bel_trans HB0.out hb1); have HL1 := Lib.hid (Int.le_trans hr1.2.1 l1); have HN1 := Lib.hid (Bx.below HN.out hb1); have q1_0 : w1.cell? ⟨w.heap.size, 0, none⟩ = some (.int .i64 x.st) := Bx.cell HN1.out 0; have q1_1 : w1.cell? ⟨w.heap.size, 1, none⟩ = some (.slice A1 x.goals.length c1) := Bx.cell HN1.out 1; have q1_2 : w1.cell? ⟨w.heap.size, 2, none⟩ = some (.slice A2 x.binds.length c2) := Bx.cell HN1.out 2; have q1_3 : w1.cell? ⟨w.heap.size, 3, none⟩ = some (.int .i64 x.vars) := Bx.cell HN1.out 3; have q1_4 : w1.cell? ⟨w.heap.size, 4, none⟩ = some (.slice A3 x.ch.length c3) := Bx.cell HN1.out 4; have q1_5 : w1.cell? ⟨w.heap.size, 5, none⟩ = some (.slice A4 x.top.length c4) := Bx.cell HN1.out 5; have q1_6 : w1.cell? ⟨w.heap.size, 6, none⟩ = some (.slice A5 x.out.length c5) := Bx.cell HN1.out 6; clear hr1 hb1) | (go_at_call 185; (with_reducible refine (HX1.out _ _ HB1.out HR1.out.1 (Int.le_trans HR1.out.2.1 l1)).mono ?_); rintro e w2 ⟨r2, rfl, hr2, hb2⟩; have HR2 := Lib.hid hr2; have HB2 := Lib.hid (bel_trans HB1.out hb2); have HL2 := Lib.hid (Int.le_trans hr2.2.1 HL1.out); have HN2 := Lib.hid (Bx.below HN1.out hb2); have q2_0 : w2.cell? ⟨w.heap.size, 0, none⟩ = some (.int .i64 x.st) := Bx.cell HN2.out 0; have q2_1 : w2.cell? ⟨w.heap.size, 1, none⟩ = some (.slice A1 x.goals.length c1) := Bx.cell HN2.out 1; have q2_2 : w2.cell? ⟨w.heap.size, 2, none⟩ = some (.slice A2 x.binds.length c2) := Bx.cell HN2.out 2; have q2_3 : w2.cell? ⟨w.heap.size, 3, none⟩ = some (.int .i64 x.vars) := Bx.cell HN2.out 3; have q2_4 : w2.cell? ⟨w.heap.size, 4, none⟩ = some (.slice A3 x.ch.length c3) := Bx.cell HN2.out 4; have q2_5 : w2.cell? ⟨w.heap.size, 5, none⟩ = some (.slice A4 x.top.length c4) := Bx.cell HN2.out 5; have q2_6 : w2.cell? ⟨w.heap.size, 6, none⟩ = some (.slice A5 x.out.length c5) := Bx.cell HN2.out 6; clear hr2 hb2) | (go_at_call 186; (with_reducible refine (HX2.out _ _ HB2.out HR2.out.1 (Int.le_trans HR2.out.2.1 HL1.out)).mono ?_); rintro e w3 ⟨r3, rfl, hr3, hb3⟩; have HR3 := Lib.hid hr3; have HB3 := Lib.hid (bel_trans HB2.out hb3); have HL3 := Lib.hid (Int.le_trans hr3.2.1 HL2.out); have HN3 := Lib.hid (Bx.below HN2.out hb3); have q3_0 : w3.cell? ⟨w.heap.size, 0, none⟩ = some (.int .i64 x.st) := Bx.cell HN3.out 0; have q3_1 : w3.cell? ⟨w.heap.size, 1, none⟩ = some (.slice A1 x.goals.length c1) := Bx.cell HN3.out 1; have q3_2 : w3.cell? ⟨w.heap.size, 2, none⟩ = some (.slice A2 x.binds.length c2) := Bx.cell HN3.out 2; have q3_3 : w3.cell? ⟨w.heap.size, 3, none⟩ = some (.int .i64 x.vars) := Bx.cell HN3.out 3; have q3_4 : w3.cell? ⟨w.heap.size, 4, none⟩ = some (.slice A3 x.ch.length c3) := Bx.cell HN3.out 4; have q3_5 : w3.cell? ⟨w.heap.size, 5, none⟩ = some (.slice A4 x.top.length c4) := Bx.cell HN3.out 5; have q3_6 : w3.cell? ⟨w.heap.size, 6, none⟩ = some (.slice A5 x.out.length c5) := Bx.cell HN3.out 6; clear hr3 hb3) | (go_at_call 11; (with_reducible refine (HX3.out _ _ HB3.out HR3.out.1 (Int.le_trans HR3.out.2.1 HL2.out)).mono ?_); rintro e w4 ⟨r4, rfl, hr4, hb4⟩; have HR4 := Lib.hid hr4; have HB4 := Lib.hid (bel_trans HB3.out hb4); have HL4 := Lib.hid (Int.le_trans hr4.2.1 HL3.out); have HN4 := Lib.hid (Bx.below HN3.out hb4); have q4_0 : w4.cell? ⟨w.heap.size, 0, none⟩ = some (.int .i64 x.st) := Bx.cell HN4.out 0; have q4_1 : w4.cell? ⟨w.heap.size, 1, none⟩ = some (.slice A1 x.goals.length c1) := Bx.cell HN4.out 1; have q4_2 : w4.cell? ⟨w.heap.size, 2, none⟩ = some (.slice A2 x.binds.length c2) := Bx.cell HN4.out 2; have q4_3 : w4.cell? ⟨w.heap.size, 3, none⟩ = some (.int .i64 x.vars) := Bx.cell HN4.out 3; have q4_4 : w4.cell? ⟨w.heap.size, 4, none⟩ = some (.slice A3 x.ch.length c3) := Bx.cell HN4.out 4; have q4_5 : w4.cell? ⟨w.heap.size, 5, none⟩ = some (.slice A4 x.top.length c4) := Bx.cell HN4.out 5; have q4_6 : w4.cell? ⟨w.heap.size, 6, none⟩ = some (.slice A5 x.out.length c5) := Bx.cell HN4.out 6; clear hr4 hb4) | (go_at_call 11; (with_reducible refine (HX4.out _ _ HB4.out HR4.out.1 (Int.le_trans HR4.out.2.1 HL3.out)).mono ?_); rintro e w5 ⟨r5, rfl, hr5, hb5⟩; have HR5 := Lib.hid hr5; have HB5 := Lib.hid (bel_trans HB4.out hb5); have HL5 := Lib.hid (Int.le_trans hr5.2.1 HL4.out); clear hr5 hb5))
  all_goals go_ret
  all_goals first
    | exact ⟨r5, rfl, by have q1 := HR1.out; have q2 := HR2.out; have q3 := HR3.out; have q4 := HR4.out; have q5 := HR5.out; unfold Left at q1 q2 q3 q4 q5; unfold Left mz_tst; omega, HB5.out⟩
    | exact ⟨-1, rfl, by unfold Left; omega, HB5.out⟩
    | exact ⟨-1, rfl, by unfold Left; omega, HB4.out⟩
    | exact ⟨-1, rfl, by unfold Left; omega, HB3.out⟩
    | exact ⟨-1, rfl, by unfold Left; omega, HB2.out⟩
    | exact ⟨-1, rfl, by unfold Left; omega, HB1.out⟩
theorem sz_sout_c (x : (Int × Trm)) (v1 : Value) (l : Int) (w : World) (h1 : KI.cell.S w v1 x.2)  (l0 : -1 ≤ l) (l1 : l ≤ 1048576) :
    Calls Tryz.prog 40 #[.agg #[.int .i64 x.1, v1], .int .i64 l] w fun e w' => ∃ r, e = .returned (.int .i64 r) ∧ Left r l (mz_sout x) ∧ Below w.heap.size w w' := by
  have HX0 := Lib.hid (fun l W hb l0 l1 => sz_cellS_c x.2 v1 l W (KI.S_ext (w := w) hb h1) l0 l1)
  have hk1 := h1
  obtain ⟨A1, c1, rfl, -, -, -⟩ := hk1
  clear h1
  have HB0 := Lib.hid (show Below w.heap.size w (w.alloc (.cells #[.int .i64 x.1, .slice A1 x.2.length c1] 86)) from bel_alloc (Below.refl _ _) _)
  have HN := Lib.hid (Bx.new w 86 #[.int .i64 x.1, .slice A1 x.2.length c1])
  go_enter Tryz.func40, Tryz.ntmps40
  go_wp2_with (first | (go_at_call 11; (with_reducible refine (HX0.out _ _ HB0.out l0 l1).mono ?_); rintro e w1 ⟨r1, rfl, hr1, hb1⟩; have HR1 := Lib.hid hr1; have HB1 := Lib.hid (bel_trans HB0.out hb1); have HL1 := Lib.hid (Int.le_trans hr1.2.1 l1); clear hr1 hb1))
  all_goals go_ret
  all_goals first
    | exact ⟨r1, rfl, by have q1 := HR1.out; unfold Left at q1; unfold Left mz_sout; omega, HB1.out⟩
    | exact ⟨-1, rfl, by unfold Left; omega, HB1.out⟩
theorem sz_soutS_c (D : List (Int × Trm)) (v : Value) (l : Int) (w : World) (hS : KI.sout.S w v D) (l0 : -1 ≤ l) (l1 : l ≤ 1048576) :
    Calls Tryz.prog 12 #[v, .int .i64 l] w fun e w' => ∃ r, e = .returned (.int .i64 r) ∧ Left r l (szL mz_sout D) ∧ Below w.heap.size w w' := by
  have HS := Lib.hid hS
  obtain ⟨A, c, rfl, a1, a2, -⟩ := hS
  have hm : maxLen = 9223372036854775807 := rfl
  have H0 := Lib.hid (Below.refl w.heap.size w)
  by_cases hlt : l - (D.length : Int) < 0
  · have e1 : decide (l - (D.length : Int) < 0) = true := decide_eq_true hlt
    go_enter Tryz.func12, Tryz.ntmps12
    go_wp2
    go_ret
    exact ⟨_, rfl, by unfold Left; omega, H0.out⟩
  · have e1 : decide (l - (D.length : Int) < 0) = false := decide_eq_false hlt
    have HJ := Lib.hid (show -1 ≤ l - (D.length : Int) ∧ l - (D.length : Int) ≤ 1048576 ∧ l - (D.length : Int) + (szD mz_sout D 0 : Int) ≤ l ∧ l - (D.length : Int) ≤ l by rw [szD_zero]; omega)
    clear hlt
    go_enter Tryz.func12, Tryz.ntmps12
    go_wp2
    go_loopw [1, 5] (fun v1 v5 wr => ∃ (k : Nat) (x : Int), v1 = .int .i64 x ∧ v5 = .int .i64 k ∧ k ≤ D.length ∧ -1 ≤ x ∧ x ≤ 1048576 ∧ Hid (x + (szD mz_sout D k : Int) ≤ l ∧ x ≤ l) ∧ Hid (Below w.heap.size w wr)) (fun _ v5 _ => D.length - (intOf v5).toNat)
    case atStart => exact ⟨0, _, rfl, rfl, Nat.zero_le _, HJ.out.1, HJ.out.2.1, Lib.hid HJ.out.2.2, H0⟩
    case round =>
      obtain ⟨k, x, rfl, rfl, hk, hx0, hx1, HRr, HBr⟩ := hrel
      by_cases hlt : k < D.length
      · obtain ⟨cc, hc⟩ : ∃ cc, D[k]? = some cc := ⟨_, List.getElem?_eq_getElem hlt⟩
        obtain ⟨A', c', ev, _, _, hC⟩ := KI.S_ext HBr.out HS.out
        injection ev with u1 u2 u3
        obtain ⟨ad, v1, had, x0, x1, h1⟩ := ksout_at hC hc
        have had2 := u1.trans had
        have HX := Lib.hid (fun l0 l1 => sz_sout_c cc v1 x wr h1  l0 l1)
        have HSs := Lib.hid (szD_succ mz_sout hc)
        have hk1 := h1
        obtain ⟨B1, d1, rfl, -, -, -⟩ := hk1
        clear u1 u2 u3 had hC hc h1
        subst had2
        go_wp2_with (go_at_call 40; (with_reducible refine (HX.out hx0 hx1).mono ?_); rintro e w2 ⟨r, rfl, hr, hb2⟩; have HR := Lib.hid hr; have HB2 := Lib.hid (bel_trans HBr.out hb2); clear hr hb2)
        all_goals first
          | (go_ret; exact ⟨-1, rfl, by unfold Left; omega, HB2.out⟩)
          | exact ⟨⟨k + 1, r, rfl, by go_num, hlt, HR.out.1, Int.le_trans HR.out.2.1 hx1, Lib.hid (by have h1 := HRr.out; have h2 := HR.out; have h3 := HSs.out; unfold Left at h2; rw [h3]; omega), HB2⟩, by simp [intOf]; omega⟩
      · have HV := Lib.hid (szD_end mz_sout (xs := D) (k := k) (by omega))
        go_wp2
        go_ret
        exact ⟨x, rfl, by have := HRr.out; rw [HV.out] at this; unfold Left; omega, HBr.out⟩
theorem sz_work_c (x : Work) (v1 v2 v3 v4 v5 v6 : Value) (l : Int) (w : World) (h1 : KI.sout.S w v1 x.outs) (h2 : KI.sgoal.S w v2 x.slv.goals) (h3 : KI.bind.S w v3 x.slv.binds) (h4 : KI.tch.S w v4 x.slv.ch) (h5 : KI.cell.S w v5 x.slv.top) (h6 : KI.cell.S w v6 x.slv.out)  (l0 : -1 ≤ l) (l1 : l ≤ 1048576) :
    Calls Tryz.prog 117 #[.agg #[v1, .int .i64 x.want, .bool x.asked, .int .i64 x.slv.st, v2, v3, .int .i64 x.slv.vars, v4, v5, v6], .int .i64 l] w fun e w' => ∃ r, e = .returned (.int .i64 r) ∧ Left r l (mz_work x) ∧ Below w.heap.size w w' := by
  have HX0 := Lib.hid (fun l W hb l0 l1 => sz_soutS_c x.outs v1 l W (KI.S_ext (w := w) hb h1) l0 l1)
  have HX1 := Lib.hid (fun l W (hb : Below w.heap.size w W) l0 l1 => sz_tst_c x.slv v2 v3 v4 v5 v6 l W (KI.S_ext hb h2) (KI.S_ext hb h3) (KI.S_ext hb h4) (KI.S_ext hb h5) (KI.S_ext hb h6) l0 l1)
  have hk1 := h1
  have hk2 := h2
  have hk3 := h3
  have hk4 := h4
  have hk5 := h5
  have hk6 := h6
  obtain ⟨A1, c1, rfl, -, -, -⟩ := hk1
  obtain ⟨A2, c2, rfl, -, -, -⟩ := hk2
  obtain ⟨A3, c3, rfl, -, -, -⟩ := hk3
  obtain ⟨A4, c4, rfl, -, -, -⟩ := hk4
  obtain ⟨A5, c5, rfl, -, -, -⟩ := hk5
  obtain ⟨A6, c6, rfl, -, -, -⟩ := hk6
  clear h1 h2 h3 h4 h5 h6
  have HB0 := Lib.hid (show Below w.heap.size w (w.alloc (.cells #[.slice A1 x.outs.length c1, .int .i64 x.want, .bool x.asked, .int .i64 x.slv.st, .slice A2 x.slv.goals.length c2, .slice A3 x.slv.binds.length c3, .int .i64 x.slv.vars, .slice A4 x.slv.ch.length c4, .slice A5 x.slv.top.length c5, .slice A6 x.slv.out.length c6] 174)) from bel_alloc (Below.refl _ _) _)
  have HN := Lib.hid (Bx.new w 174 #[.slice A1 x.outs.length c1, .int .i64 x.want, .bool x.asked, .int .i64 x.slv.st, .slice A2 x.slv.goals.length c2, .slice A3 x.slv.binds.length c3, .int .i64 x.slv.vars, .slice A4 x.slv.ch.length c4, .slice A5 x.slv.top.length c5, .slice A6 x.slv.out.length c6])
  go_enter Tryz.func117, Tryz.ntmps117
  go_wp2_with (first | (go_at_call 12; (with_reducible refine (HX0.out _ _ HB0.out l0 l1).mono ?_); rintro e w1 ⟨r1, rfl, hr1, hb1⟩; have HR1 := Lib.hid hr1; have HB1 := Lib.hid (bel_trans HB0.out hb1); have HL1 := Lib.hid (Int.le_trans hr1.2.1 l1); have HN1 := Lib.hid (Bx.below HN.out hb1); have q1_0 : w1.cell? ⟨w.heap.size, 0, none⟩ = some (.slice A1 x.outs.length c1) := Bx.cell HN1.out 0; have q1_1 : w1.cell? ⟨w.heap.size, 1, none⟩ = some (.int .i64 x.want) := Bx.cell HN1.out 1; have q1_2 : w1.cell? ⟨w.heap.size, 2, none⟩ = some (.bool x.asked) := Bx.cell HN1.out 2; have q1_3 : w1.cell? ⟨w.heap.size, 3, none⟩ = some (.int .i64 x.slv.st) := Bx.cell HN1.out 3; have q1_4 : w1.cell? ⟨w.heap.size, 4, none⟩ = some (.slice A2 x.slv.goals.length c2) := Bx.cell HN1.out 4; have q1_5 : w1.cell? ⟨w.heap.size, 5, none⟩ = some (.slice A3 x.slv.binds.length c3) := Bx.cell HN1.out 5; have q1_6 : w1.cell? ⟨w.heap.size, 6, none⟩ = some (.int .i64 x.slv.vars) := Bx.cell HN1.out 6; have q1_7 : w1.cell? ⟨w.heap.size, 7, none⟩ = some (.slice A4 x.slv.ch.length c4) := Bx.cell HN1.out 7; have q1_8 : w1.cell? ⟨w.heap.size, 8, none⟩ = some (.slice A5 x.slv.top.length c5) := Bx.cell HN1.out 8; have q1_9 : w1.cell? ⟨w.heap.size, 9, none⟩ = some (.slice A6 x.slv.out.length c6) := Bx.cell HN1.out 9; clear hr1 hb1) | (go_at_call 156; (with_reducible refine (HX1.out _ _ HB1.out HR1.out.1 (Int.le_trans HR1.out.2.1 l1)).mono ?_); rintro e w2 ⟨r2, rfl, hr2, hb2⟩; have HR2 := Lib.hid hr2; have HB2 := Lib.hid (bel_trans HB1.out hb2); have HL2 := Lib.hid (Int.le_trans hr2.2.1 HL1.out); clear hr2 hb2))
  all_goals go_ret
  all_goals first
    | exact ⟨r2, rfl, by have q1 := HR1.out; have q2 := HR2.out; unfold Left at q1 q2; unfold Left mz_work; omega, HB2.out⟩
    | exact ⟨-1, rfl, by unfold Left; omega, HB2.out⟩
    | exact ⟨-1, rfl, by unfold Left; omega, HB1.out⟩
theorem sz_workS_c (D : List Work) (v : Value) (l : Int) (w : World) (hS : KI.work.S w v D) (l0 : -1 ≤ l) (l1 : l ≤ 1048576) :
    Calls Tryz.prog 77 #[v, .int .i64 l] w fun e w' => ∃ r, e = .returned (.int .i64 r) ∧ Left r l (szL mz_work D) ∧ Below w.heap.size w w' := by
  have HS := Lib.hid hS
  obtain ⟨A, c, rfl, a1, a2, -⟩ := hS
  have hm : maxLen = 9223372036854775807 := rfl
  have H0 := Lib.hid (Below.refl w.heap.size w)
  by_cases hlt : l - (D.length : Int) < 0
  · have e1 : decide (l - (D.length : Int) < 0) = true := decide_eq_true hlt
    go_enter Tryz.func77, Tryz.ntmps77
    go_wp2
    go_ret
    exact ⟨_, rfl, by unfold Left; omega, H0.out⟩
  · have e1 : decide (l - (D.length : Int) < 0) = false := decide_eq_false hlt
    have HJ := Lib.hid (show -1 ≤ l - (D.length : Int) ∧ l - (D.length : Int) ≤ 1048576 ∧ l - (D.length : Int) + (szD mz_work D 0 : Int) ≤ l ∧ l - (D.length : Int) ≤ l by rw [szD_zero]; omega)
    clear hlt
    go_enter Tryz.func77, Tryz.ntmps77
    go_wp2
    go_loopw [1, 5] (fun v1 v5 wr => ∃ (k : Nat) (x : Int), v1 = .int .i64 x ∧ v5 = .int .i64 k ∧ k ≤ D.length ∧ -1 ≤ x ∧ x ≤ 1048576 ∧ Hid (x + (szD mz_work D k : Int) ≤ l ∧ x ≤ l) ∧ Hid (Below w.heap.size w wr)) (fun _ v5 _ => D.length - (intOf v5).toNat)
    case atStart => exact ⟨0, _, rfl, rfl, Nat.zero_le _, HJ.out.1, HJ.out.2.1, Lib.hid HJ.out.2.2, H0⟩
    case round =>
      obtain ⟨k, x, rfl, rfl, hk, hx0, hx1, HRr, HBr⟩ := hrel
      by_cases hlt : k < D.length
      · obtain ⟨cc, hc⟩ : ∃ cc, D[k]? = some cc := ⟨_, List.getElem?_eq_getElem hlt⟩
        obtain ⟨A', c', ev, _, _, hC⟩ := KI.S_ext HBr.out HS.out
        injection ev with u1 u2 u3
        obtain ⟨ad, v1, v2, v3, v4, v5, v6, had, x0, x1, x2, x3, x4, x5, x6, x7, x8, x9, h1, h2, h3, h4, h5, h6⟩ := kwork_at hC hc
        have had2 := u1.trans had
        have HX := Lib.hid (fun l0 l1 => sz_work_c cc v1 v2 v3 v4 v5 v6 x wr h1 h2 h3 h4 h5 h6  l0 l1)
        have HSs := Lib.hid (szD_succ mz_work hc)
        have hk1 := h1
        obtain ⟨B1, d1, rfl, -, -, -⟩ := hk1
        have hk2 := h2
        obtain ⟨B2, d2, rfl, -, -, -⟩ := hk2
        have hk3 := h3
        obtain ⟨B3, d3, rfl, -, -, -⟩ := hk3
        have hk4 := h4
        obtain ⟨B4, d4, rfl, -, -, -⟩ := hk4
        have hk5 := h5
        obtain ⟨B5, d5, rfl, -, -, -⟩ := hk5
        have hk6 := h6
        obtain ⟨B6, d6, rfl, -, -, -⟩ := hk6
        clear u1 u2 u3 had hC hc h1 h2 h3 h4 h5 h6
        subst had2
        go_wp2_with (go_at_call 117; (with_reducible refine (HX.out hx0 hx1).mono ?_); rintro e w2 ⟨r, rfl, hr, hb2⟩; have HR := Lib.hid hr; have HB2 := Lib.hid (bel_trans HBr.out hb2); clear hr hb2)
        all_goals first
          | (go_ret; exact ⟨-1, rfl, by unfold Left; omega, HB2.out⟩)
          | exact ⟨⟨k + 1, r, rfl, by go_num, hlt, HR.out.1, Int.le_trans HR.out.2.1 hx1, Lib.hid (by have h1 := HRr.out; have h2 := HR.out; have h3 := HSs.out; unfold Left at h2; rw [h3]; omega), HB2⟩, by simp [intOf]; omega⟩
      · have HV := Lib.hid (szD_end mz_work (xs := D) (k := k) (by omega))
        go_wp2
        go_ret
        exact ⟨x, rfl, by have := HRr.out; rw [HV.out] at this; unfold Left; omega, HBr.out⟩
theorem sz_node_c (x : Nod) (v1 : Value) (l : Int) (w : World) (h1 : KI.work.S w v1 x.works)  (l0 : -1 ≤ l) (l1 : l ≤ 1048576) :
    Calls Tryz.prog 38 #[.agg #[.bool x.up, v1], .int .i64 l] w fun e w' => ∃ r, e = .returned (.int .i64 r) ∧ Left r l (mz_node x) ∧ Below w.heap.size w w' := by
  have HX0 := Lib.hid (fun l W hb l0 l1 => sz_workS_c x.works v1 l W (KI.S_ext (w := w) hb h1) l0 l1)
  have hk1 := h1
  obtain ⟨A1, c1, rfl, -, -, -⟩ := hk1
  clear h1
  have HB0 := Lib.hid (show Below w.heap.size w (w.alloc (.cells #[.bool x.up, .slice A1 x.works.length c1] 80)) from bel_alloc (Below.refl _ _) _)
  have HN := Lib.hid (Bx.new w 80 #[.bool x.up, .slice A1 x.works.length c1])
  go_enter Tryz.func38, Tryz.ntmps38
  go_wp2_with (first | (go_at_call 77; (with_reducible refine (HX0.out _ _ HB0.out l0 l1).mono ?_); rintro e w1 ⟨r1, rfl, hr1, hb1⟩; have HR1 := Lib.hid hr1; have HB1 := Lib.hid (bel_trans HB0.out hb1); have HL1 := Lib.hid (Int.le_trans hr1.2.1 l1); clear hr1 hb1))
  all_goals go_ret
  all_goals first
    | exact ⟨r1, rfl, by have q1 := HR1.out; unfold Left at q1; unfold Left mz_node; omega, HB1.out⟩
    | exact ⟨-1, rfl, by unfold Left; omega, HB1.out⟩
theorem sz_nodeS_c (D : List Nod) (v : Value) (l : Int) (w : World) (hS : KI.node.S w v D) (l0 : -1 ≤ l) (l1 : l ≤ 1048576) :
    Calls Tryz.prog 10 #[v, .int .i64 l] w fun e w' => ∃ r, e = .returned (.int .i64 r) ∧ Left r l (szL mz_node D) ∧ Below w.heap.size w w' := by
  have HS := Lib.hid hS
  obtain ⟨A, c, rfl, a1, a2, -⟩ := hS
  have hm : maxLen = 9223372036854775807 := rfl
  have H0 := Lib.hid (Below.refl w.heap.size w)
  by_cases hlt : l - (D.length : Int) < 0
  · have e1 : decide (l - (D.length : Int) < 0) = true := decide_eq_true hlt
    go_enter Tryz.func10, Tryz.ntmps10
    go_wp2
    go_ret
    exact ⟨_, rfl, by unfold Left; omega, H0.out⟩
  · have e1 : decide (l - (D.length : Int) < 0) = false := decide_eq_false hlt
    have HJ := Lib.hid (show -1 ≤ l - (D.length : Int) ∧ l - (D.length : Int) ≤ 1048576 ∧ l - (D.length : Int) + (szD mz_node D 0 : Int) ≤ l ∧ l - (D.length : Int) ≤ l by rw [szD_zero]; omega)
    clear hlt
    go_enter Tryz.func10, Tryz.ntmps10
    go_wp2
    go_loopw [1, 5] (fun v1 v5 wr => ∃ (k : Nat) (x : Int), v1 = .int .i64 x ∧ v5 = .int .i64 k ∧ k ≤ D.length ∧ -1 ≤ x ∧ x ≤ 1048576 ∧ Hid (x + (szD mz_node D k : Int) ≤ l ∧ x ≤ l) ∧ Hid (Below w.heap.size w wr)) (fun _ v5 _ => D.length - (intOf v5).toNat)
    case atStart => exact ⟨0, _, rfl, rfl, Nat.zero_le _, HJ.out.1, HJ.out.2.1, Lib.hid HJ.out.2.2, H0⟩
    case round =>
      obtain ⟨k, x, rfl, rfl, hk, hx0, hx1, HRr, HBr⟩ := hrel
      by_cases hlt : k < D.length
      · obtain ⟨cc, hc⟩ : ∃ cc, D[k]? = some cc := ⟨_, List.getElem?_eq_getElem hlt⟩
        obtain ⟨A', c', ev, _, _, hC⟩ := KI.S_ext HBr.out HS.out
        injection ev with u1 u2 u3
        obtain ⟨ad, v1, had, x0, x1, h1⟩ := knode_at hC hc
        have had2 := u1.trans had
        have HX := Lib.hid (fun l0 l1 => sz_node_c cc v1 x wr h1  l0 l1)
        have HSs := Lib.hid (szD_succ mz_node hc)
        have hk1 := h1
        obtain ⟨B1, d1, rfl, -, -, -⟩ := hk1
        clear u1 u2 u3 had hC hc h1
        subst had2
        go_wp2_with (go_at_call 38; (with_reducible refine (HX.out hx0 hx1).mono ?_); rintro e w2 ⟨r, rfl, hr, hb2⟩; have HR := Lib.hid hr; have HB2 := Lib.hid (bel_trans HBr.out hb2); clear hr hb2)
        all_goals first
          | (go_ret; exact ⟨-1, rfl, by unfold Left; omega, HB2.out⟩)
          | exact ⟨⟨k + 1, r, rfl, by go_num, hlt, HR.out.1, Int.le_trans HR.out.2.1 hx1, Lib.hid (by have h1 := HRr.out; have h2 := HR.out; have h3 := HSs.out; unfold Left at h2; rw [h3]; omega), HB2⟩, by simp [intOf]; omega⟩
      · have HV := Lib.hid (szD_end mz_node (xs := D) (k := k) (by omega))
        go_wp2
        go_ret
        exact ⟨x, rfl, by have := HRr.out; rw [HV.out] at this; unfold Left; omega, HBr.out⟩
theorem sz_byteS_c (D : List Int) (v : Value) (l : Int) (w : World) (hS : KI.byte.S w v D) (l0 : -1 ≤ l) (l1 : l ≤ 1048576) :
    Calls Tryz.prog 78 #[v, .int .i64 l] w fun e w' => ∃ r, e = .returned (.int .i64 r) ∧ Left r l (D.length) ∧ Below w.heap.size w w' := by
  have HS := Lib.hid hS
  obtain ⟨A, c, rfl, a1, a2, -⟩ := hS
  have hm : maxLen = 9223372036854775807 := rfl
  have H0 := Lib.hid (Below.refl w.heap.size w)
  by_cases hlt : l - (D.length : Int) < 0
  · have e1 : decide (l - (D.length : Int) < 0) = true := decide_eq_true hlt
    go_enter Tryz.func78, Tryz.ntmps78
    go_wp2
    go_ret
    exact ⟨_, rfl, by unfold Left; omega, H0.out⟩
  · have e1 : decide (l - (D.length : Int) < 0) = false := decide_eq_false hlt
    go_enter Tryz.func78, Tryz.ntmps78
    go_wp2
    go_ret
    exact ⟨_, rfl, by unfold Left; omega, H0.out⟩
theorem sz_nmsg_c (x : NMsg) (v1 : Value) (l : Int) (w : World) (h1 : KI.byte.S w v1 x.bytes)  (l0 : -1 ≤ l) (l1 : l ≤ 1048576) :
    Calls Tryz.prog 41 #[.agg #[.int .i64 x.dst, .bool x.bent, v1], .int .i64 l] w fun e w' => ∃ r, e = .returned (.int .i64 r) ∧ Left r l (mz_nmsg x) ∧ Below w.heap.size w w' := by
  have HX0 := Lib.hid (fun l W hb l0 l1 => sz_byteS_c x.bytes v1 l W (KI.S_ext (w := w) hb h1) l0 l1)
  have hk1 := h1
  obtain ⟨A1, c1, rfl, -, -, -⟩ := hk1
  clear h1
  have HB0 := Lib.hid (show Below w.heap.size w (w.alloc (.cells #[.int .i64 x.dst, .bool x.bent, .slice A1 x.bytes.length c1] 88)) from bel_alloc (Below.refl _ _) _)
  have HN := Lib.hid (Bx.new w 88 #[.int .i64 x.dst, .bool x.bent, .slice A1 x.bytes.length c1])
  go_enter Tryz.func41, Tryz.ntmps41
  go_wp2_with (first | (go_at_call 78; (with_reducible refine (HX0.out _ _ HB0.out l0 l1).mono ?_); rintro e w1 ⟨r1, rfl, hr1, hb1⟩; have HR1 := Lib.hid hr1; have HB1 := Lib.hid (bel_trans HB0.out hb1); have HL1 := Lib.hid (Int.le_trans hr1.2.1 l1); clear hr1 hb1))
  all_goals go_ret
  all_goals first
    | exact ⟨r1, rfl, by have q1 := HR1.out; unfold Left at q1; unfold Left mz_nmsg; omega, HB1.out⟩
    | exact ⟨-1, rfl, by unfold Left; omega, HB1.out⟩
theorem sz_nmsgS_c (D : List NMsg) (v : Value) (l : Int) (w : World) (hS : KI.nmsg.S w v D) (l0 : -1 ≤ l) (l1 : l ≤ 1048576) :
    Calls Tryz.prog 13 #[v, .int .i64 l] w fun e w' => ∃ r, e = .returned (.int .i64 r) ∧ Left r l (szL mz_nmsg D) ∧ Below w.heap.size w w' := by
  have HS := Lib.hid hS
  obtain ⟨A, c, rfl, a1, a2, -⟩ := hS
  have hm : maxLen = 9223372036854775807 := rfl
  have H0 := Lib.hid (Below.refl w.heap.size w)
  by_cases hlt : l - (D.length : Int) < 0
  · have e1 : decide (l - (D.length : Int) < 0) = true := decide_eq_true hlt
    go_enter Tryz.func13, Tryz.ntmps13
    go_wp2
    go_ret
    exact ⟨_, rfl, by unfold Left; omega, H0.out⟩
  · have e1 : decide (l - (D.length : Int) < 0) = false := decide_eq_false hlt
    have HJ := Lib.hid (show -1 ≤ l - (D.length : Int) ∧ l - (D.length : Int) ≤ 1048576 ∧ l - (D.length : Int) + (szD mz_nmsg D 0 : Int) ≤ l ∧ l - (D.length : Int) ≤ l by rw [szD_zero]; omega)
    clear hlt
    go_enter Tryz.func13, Tryz.ntmps13
    go_wp2
    go_loopw [1, 5] (fun v1 v5 wr => ∃ (k : Nat) (x : Int), v1 = .int .i64 x ∧ v5 = .int .i64 k ∧ k ≤ D.length ∧ -1 ≤ x ∧ x ≤ 1048576 ∧ Hid (x + (szD mz_nmsg D k : Int) ≤ l ∧ x ≤ l) ∧ Hid (Below w.heap.size w wr)) (fun _ v5 _ => D.length - (intOf v5).toNat)
    case atStart => exact ⟨0, _, rfl, rfl, Nat.zero_le _, HJ.out.1, HJ.out.2.1, Lib.hid HJ.out.2.2, H0⟩
    case round =>
      obtain ⟨k, x, rfl, rfl, hk, hx0, hx1, HRr, HBr⟩ := hrel
      by_cases hlt : k < D.length
      · obtain ⟨cc, hc⟩ : ∃ cc, D[k]? = some cc := ⟨_, List.getElem?_eq_getElem hlt⟩
        obtain ⟨A', c', ev, _, _, hC⟩ := KI.S_ext HBr.out HS.out
        injection ev with u1 u2 u3
        obtain ⟨ad, v1, had, x0, x1, x2, h1⟩ := knmsg_at hC hc
        have had2 := u1.trans had
        have HX := Lib.hid (fun l0 l1 => sz_nmsg_c cc v1 x wr h1  l0 l1)
        have HSs := Lib.hid (szD_succ mz_nmsg hc)
        have hk1 := h1
        obtain ⟨B1, d1, rfl, -, -, -⟩ := hk1
        clear u1 u2 u3 had hC hc h1
        subst had2
        go_wp2_with (go_at_call 41; (with_reducible refine (HX.out hx0 hx1).mono ?_); rintro e w2 ⟨r, rfl, hr, hb2⟩; have HR := Lib.hid hr; have HB2 := Lib.hid (bel_trans HBr.out hb2); clear hr hb2)
        all_goals first
          | (go_ret; exact ⟨-1, rfl, by unfold Left; omega, HB2.out⟩)
          | exact ⟨⟨k + 1, r, rfl, by go_num, hlt, HR.out.1, Int.le_trans HR.out.2.1 hx1, Lib.hid (by have h1 := HRr.out; have h2 := HR.out; have h3 := HSs.out; unfold Left at h2; rw [h3]; omega), HB2⟩, by simp [intOf]; omega⟩
      · have HV := Lib.hid (szD_end mz_nmsg (xs := D) (k := k) (by omega))
        go_wp2
        go_ret
        exact ⟨x, rfl, by have := HRr.out; rw [HV.out] at this; unfold Left; omega, HBr.out⟩
theorem sz_wld_c (x : Wld) (v1 v2 v3 v4 v5 v6 : Value) (l : Int) (w : World) (h1 : KI.clause.S w v1 x.prog.cl) (h2 : KI.place.S w v2 x.prog.pl) (h3 : KI.node.S w v3 x.nodes) (h4 : KI.cell.S w v4 x.top) (h5 : KI.sout.S w v5 x.outs) (h6 : KI.nmsg.S w v6 x.net)  (l0 : -1 ≤ l) (l1 : l ≤ 1048576) :
    Calls Tryz.prog 4 #[.agg #[v1, v2, v3, v4, v5, v6], .int .i64 l] w fun e w' => ∃ r, e = .returned (.int .i64 r) ∧ Left r l (mz_wld x) ∧ Below w.heap.size w w' := by
  have HX0 := Lib.hid (fun l W (hb : Below w.heap.size w W) l0 l1 => sz_prog_c x.prog v1 v2 l W (KI.S_ext hb h1) (KI.S_ext hb h2) l0 l1)
  have HX1 := Lib.hid (fun l W hb l0 l1 => sz_nodeS_c x.nodes v3 l W (KI.S_ext (w := w) hb h3) l0 l1)
  have HX2 := Lib.hid (fun l W hb l0 l1 => sz_cellS_c x.top v4 l W (KI.S_ext (w := w) hb h4) l0 l1)
  have HX3 := Lib.hid (fun l W hb l0 l1 => sz_soutS_c x.outs v5 l W (KI.S_ext (w := w) hb h5) l0 l1)
  have HX4 := Lib.hid (fun l W hb l0 l1 => sz_nmsgS_c x.net v6 l W (KI.S_ext (w := w) hb h6) l0 l1)
  have hk1 := h1
  have hk2 := h2
  have hk3 := h3
  have hk4 := h4
  have hk5 := h5
  have hk6 := h6
  obtain ⟨A1, c1, rfl, -, -, -⟩ := hk1
  obtain ⟨A2, c2, rfl, -, -, -⟩ := hk2
  obtain ⟨A3, c3, rfl, -, -, -⟩ := hk3
  obtain ⟨A4, c4, rfl, -, -, -⟩ := hk4
  obtain ⟨A5, c5, rfl, -, -, -⟩ := hk5
  obtain ⟨A6, c6, rfl, -, -, -⟩ := hk6
  clear h1 h2 h3 h4 h5 h6
  have HB0 := Lib.hid (show Below w.heap.size w (w.alloc (.cells #[.slice A1 x.prog.cl.length c1, .slice A2 x.prog.pl.length c2, .slice A3 x.nodes.length c3, .slice A4 x.top.length c4, .slice A5 x.outs.length c5, .slice A6 x.net.length c6] 31)) from bel_alloc (Below.refl _ _) _)
  have HN := Lib.hid (Bx.new w 31 #[.slice A1 x.prog.cl.length c1, .slice A2 x.prog.pl.length c2, .slice A3 x.nodes.length c3, .slice A4 x.top.length c4, .slice A5 x.outs.length c5, .slice A6 x.net.length c6])
  go_enter Tryz.func4, Tryz.ntmps4
  go_wp2_with (first | (go_at_call 9; (with_reducible refine (HX0.out _ _ HB0.out l0 l1).mono ?_); rintro e w1 ⟨r1, rfl, hr1, hb1⟩; have HR1 := Lib.hid hr1; have HB1 := Lib.hid (bel_trans HB0.out hb1); have HL1 := Lib.hid (Int.le_trans hr1.2.1 l1); have HN1 := Lib.hid (Bx.below HN.out hb1); have q1_0 : w1.cell? ⟨w.heap.size, 0, none⟩ = some (.slice A1 x.prog.cl.length c1) := Bx.cell HN1.out 0; have q1_1 : w1.cell? ⟨w.heap.size, 1, none⟩ = some (.slice A2 x.prog.pl.length c2) := Bx.cell HN1.out 1; have q1_2 : w1.cell? ⟨w.heap.size, 2, none⟩ = some (.slice A3 x.nodes.length c3) := Bx.cell HN1.out 2; have q1_3 : w1.cell? ⟨w.heap.size, 3, none⟩ = some (.slice A4 x.top.length c4) := Bx.cell HN1.out 3; have q1_4 : w1.cell? ⟨w.heap.size, 4, none⟩ = some (.slice A5 x.outs.length c5) := Bx.cell HN1.out 4; have q1_5 : w1.cell? ⟨w.heap.size, 5, none⟩ = some (.slice A6 x.net.length c6) := Bx.cell HN1.out 5; clear hr1 hb1) | (go_at_call 10; (with_reducible refine (HX1.out _ _ HB1.out HR1.out.1 (Int.le_trans HR1.out.2.1 l1)).mono ?_); rintro e w2 ⟨r2, rfl, hr2, hb2⟩; have HR2 := Lib.hid hr2; have HB2 := Lib.hid (bel_trans HB1.out hb2); have HL2 := Lib.hid (Int.le_trans hr2.2.1 HL1.out); have HN2 := Lib.hid (Bx.below HN1.out hb2); have q2_0 : w2.cell? ⟨w.heap.size, 0, none⟩ = some (.slice A1 x.prog.cl.length c1) := Bx.cell HN2.out 0; have q2_1 : w2.cell? ⟨w.heap.size, 1, none⟩ = some (.slice A2 x.prog.pl.length c2) := Bx.cell HN2.out 1; have q2_2 : w2.cell? ⟨w.heap.size, 2, none⟩ = some (.slice A3 x.nodes.length c3) := Bx.cell HN2.out 2; have q2_3 : w2.cell? ⟨w.heap.size, 3, none⟩ = some (.slice A4 x.top.length c4) := Bx.cell HN2.out 3; have q2_4 : w2.cell? ⟨w.heap.size, 4, none⟩ = some (.slice A5 x.outs.length c5) := Bx.cell HN2.out 4; have q2_5 : w2.cell? ⟨w.heap.size, 5, none⟩ = some (.slice A6 x.net.length c6) := Bx.cell HN2.out 5; clear hr2 hb2) | (go_at_call 11; (with_reducible refine (HX2.out _ _ HB2.out HR2.out.1 (Int.le_trans HR2.out.2.1 HL1.out)).mono ?_); rintro e w3 ⟨r3, rfl, hr3, hb3⟩; have HR3 := Lib.hid hr3; have HB3 := Lib.hid (bel_trans HB2.out hb3); have HL3 := Lib.hid (Int.le_trans hr3.2.1 HL2.out); have HN3 := Lib.hid (Bx.below HN2.out hb3); have q3_0 : w3.cell? ⟨w.heap.size, 0, none⟩ = some (.slice A1 x.prog.cl.length c1) := Bx.cell HN3.out 0; have q3_1 : w3.cell? ⟨w.heap.size, 1, none⟩ = some (.slice A2 x.prog.pl.length c2) := Bx.cell HN3.out 1; have q3_2 : w3.cell? ⟨w.heap.size, 2, none⟩ = some (.slice A3 x.nodes.length c3) := Bx.cell HN3.out 2; have q3_3 : w3.cell? ⟨w.heap.size, 3, none⟩ = some (.slice A4 x.top.length c4) := Bx.cell HN3.out 3; have q3_4 : w3.cell? ⟨w.heap.size, 4, none⟩ = some (.slice A5 x.outs.length c5) := Bx.cell HN3.out 4; have q3_5 : w3.cell? ⟨w.heap.size, 5, none⟩ = some (.slice A6 x.net.length c6) := Bx.cell HN3.out 5; clear hr3 hb3) | (go_at_call 12; (with_reducible refine (HX3.out _ _ HB3.out HR3.out.1 (Int.le_trans HR3.out.2.1 HL2.out)).mono ?_); rintro e w4 ⟨r4, rfl, hr4, hb4⟩; have HR4 := Lib.hid hr4; have HB4 := Lib.hid (bel_trans HB3.out hb4); have HL4 := Lib.hid (Int.le_trans hr4.2.1 HL3.out); have HN4 := Lib.hid (Bx.below HN3.out hb4); have q4_0 : w4.cell? ⟨w.heap.size, 0, none⟩ = some (.slice A1 x.prog.cl.length c1) := Bx.cell HN4.out 0; have q4_1 : w4.cell? ⟨w.heap.size, 1, none⟩ = some (.slice A2 x.prog.pl.length c2) := Bx.cell HN4.out 1; have q4_2 : w4.cell? ⟨w.heap.size, 2, none⟩ = some (.slice A3 x.nodes.length c3) := Bx.cell HN4.out 2; have q4_3 : w4.cell? ⟨w.heap.size, 3, none⟩ = some (.slice A4 x.top.length c4) := Bx.cell HN4.out 3; have q4_4 : w4.cell? ⟨w.heap.size, 4, none⟩ = some (.slice A5 x.outs.length c5) := Bx.cell HN4.out 4; have q4_5 : w4.cell? ⟨w.heap.size, 5, none⟩ = some (.slice A6 x.net.length c6) := Bx.cell HN4.out 5; clear hr4 hb4) | (go_at_call 13; (with_reducible refine (HX4.out _ _ HB4.out HR4.out.1 (Int.le_trans HR4.out.2.1 HL3.out)).mono ?_); rintro e w5 ⟨r5, rfl, hr5, hb5⟩; have HR5 := Lib.hid hr5; have HB5 := Lib.hid (bel_trans HB4.out hb5); have HL5 := Lib.hid (Int.le_trans hr5.2.1 HL4.out); clear hr5 hb5))
  all_goals go_ret
  all_goals first
    | exact ⟨r5, rfl, by have q1 := HR1.out; have q2 := HR2.out; have q3 := HR3.out; have q4 := HR4.out; have q5 := HR5.out; unfold Left at q1 q2 q3 q4 q5; unfold Left mz_wld; omega, HB5.out⟩
    | exact ⟨-1, rfl, by unfold Left; omega, HB5.out⟩
    | exact ⟨-1, rfl, by unfold Left; omega, HB4.out⟩
    | exact ⟨-1, rfl, by unfold Left; omega, HB3.out⟩
    | exact ⟨-1, rfl, by unfold Left; omega, HB2.out⟩
    | exact ⟨-1, rfl, by unfold Left; omega, HB1.out⟩
end Go.Proofs.YtdoggcfdfkkedaaGreatDoor
