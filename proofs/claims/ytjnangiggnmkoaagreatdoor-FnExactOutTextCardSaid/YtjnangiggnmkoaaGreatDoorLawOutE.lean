/- FnExactOutText: the law's walk. Condition: what the library's table holds. -/
import Derived.Test.YtjnangiggnmkoaaGreatDoorLawOut2
namespace Go.Proofs.YtjnangiggnmkoaaGreatDoor
open Go.RowKit
set_option maxRecDepth 100000
set_option maxHeartbeats 4000000
set_option linter.unusedVariables false
theorem lbox_at (w : World) (st : Int) (ov : Value) {w1 : World} (hb : Below (w.alloc (.cells #[.int .i64 st, ov] 24)).heap.size (w.alloc (.cells #[.int .i64 st, ov] 24)) w1) :
    w1.cell? ⟨w.heap.size, 0, none⟩ = some (.int .i64 st) ∧ w1.cell? ⟨w.heap.size, 1, none⟩ = some ov := by
  have h := heap_alloc_new w (.cells #[.int .i64 st, ov] 24)
  exact ⟨cell_keep hb (Lib.cell_of_heap h 0), cell_keep hb (Lib.cell_of_heap h 1)⟩
theorem lawOut_c {q0 q1 : Nat} (D0 D1 : Trm) (st : Int) (v0 v1 : Value) (W : World) (h0 : Kd.cell.S q0 W v0 D0) (h1 : Kd.cell.S q1 W v1 D1) (hz0 : sized D0) (hz1 : sized D1) (hT : Tab W) :
    Calls Tryz.prog 3 #[v0, .agg #[.int .i64 st, v1]] W fun e w' => e = .returned (.bool true) ∧ Below W.heap.size W w' := by
  have hA0 := Lib.hid (fun o => Kd.S_alloc o h0)
  have hA1 := Lib.hid (fun o => Kd.S_alloc o h1)
  have hAT := Lib.hid (fun o => hT.ext (bel_alloc (Below.refl _ W) o))
  have HZ0 := Lib.hid (fun w' hs => szCells_c (q := q0) D0 v0 1048576 w' hs hz0 (by omega) (by omega))
  have HZ1 := Lib.hid (fun l w' hl0 hl1 hs => szOut_c (q := q1) D1 v1 st l w' hs hz1 hl0 hl1)
  have HBx := Lib.hid (fun w1 => lbox_at W st v1 (w1 := w1))
  have HWa := Lib.hid (fun o => bel_alloc (Below.refl _ W) o)
  have HC0 := Lib.hid (fun w' hs hl => toCells_c (q := q0) D0 v0 w' hs hl)
  have HC1 := Lib.hid (fun w' hs hl => toOut_c (q := q1) D1 v1 st w' hs hl)
  have HSp := Lib.hid (fun a b w' ha hb hl0 hl1 => outTxtS_c D0 a st D1 b w' ha hb hl0 hl1)
  have HIm := Lib.hid (fun a b w' ha hb hl0 hl1 ht => outTxtI_c D0 a st D1 b w' ha hb hl0 hl1 hz0 hz1 ht)
  have HE0 := Lib.hid (fun a b w' ha hb hl => eqCells_c D0 a b w' ha hb hl)
  have HE1 := Lib.hid (fun a b w' ha hb hl => eqOut_c D1 a b st w' ha hb hl)
  have hle0 := szL_le (D := D0) (l := 1048576)
  obtain ⟨l0, hl0⟩ : ∃ l0, szL D0 1048576 = l0 := ⟨_, rfl⟩
  rw [hl0] at HZ0 hle0
  obtain ⟨A0, c0, rfl, a1, a2, -⟩ := h0
  obtain ⟨A1, c1, rfl, b1, b2, -⟩ := h1
  clear hT hz0 hz1 hl0
  by_cases hn0 : l0 < 0
  · have e1 : decide (l0 < 0) = true := decide_eq_true hn0
    go_enter Tryz.func3, Tryz.ntmps3
    go_wp2_with (go_at_call 5; (with_reducible refine (HZ0.out _ (hA0.out _)).mono ?_); rintro e w1 ⟨rfl, hb1⟩)
    go_ret
    exact ⟨rfl, bel_trans (HWa.out _) hb1⟩
  · have e1 : decide (l0 < 0) = false := decide_eq_false hn0
    obtain ⟨hl01, hD0⟩ := hle0 (by omega)
    have hle1 := szL_le (D := D1) (l := l0)
    have HZ1 := Lib.hid (fun w' hs => HZ1.out l0 w' (by omega) hl01 hs)
    obtain ⟨l1, hl1⟩ : ∃ l1, szL D1 l0 = l1 := ⟨_, rfl⟩
    rw [hl1] at HZ1 hle1
    clear hl1 hle0
    by_cases hn1 : l1 < 0
    · rw [if_pos hn1] at HZ1
      clear hle1 hn1
      go_enter Tryz.func3, Tryz.ntmps3
      go_wp2_with (first | (go_at_call 5; (with_reducible refine (HZ0.out _ (hA0.out _)).mono ?_); rintro e w1 ⟨rfl, hb1⟩; obtain ⟨z0, z1⟩ := HBx.out _ hb1; have HB1 := Lib.hid hb1; clear hb1)
                         | (go_at_call 6; (with_reducible refine (HZ1.out _ (Kd.S_ext HB1.out (hA1.out _))).mono ?_); rintro e w2 ⟨rfl, hb2⟩))
      go_ret
      exact ⟨rfl, bel_trans (HWa.out _) (bel_trans HB1.out hb2)⟩
    · rw [if_neg hn1] at HZ1
      have e2 : decide (l1 < 0) = false := decide_eq_false hn1
      obtain ⟨hl11, hD1⟩ := hle1 (by omega)
      have hd0 : D0.length ≤ 1048576 := by omega
      have hd1 : D1.length ≤ 1048576 := by omega
      have he0 : D0.length ≤ 1000000000 := by omega
      have he1 : D1.length ≤ 1000000000 := by omega
      obtain ⟨X, hX⟩ : ∃ X, outTxt D0 st D1 = X := ⟨_, rfl⟩
      rw [hX] at HSp HIm
      clear hle1 hX
      go_enter Tryz.func3, Tryz.ntmps3
      go_wp2_with (first | (go_at_call 5; (with_reducible refine (HZ0.out _ (hA0.out _)).mono ?_); rintro e w1 ⟨rfl, hb1⟩; obtain ⟨z0, z1⟩ := HBx.out _ hb1; have HB1 := Lib.hid hb1; clear hb1)
                         | (go_at_call 6; (with_reducible refine (HZ1.out _ (Kd.S_ext HB1.out (hA1.out _))).mono ?_); rintro e w2 ⟨rfl, hb2⟩; have HB2 := Lib.hid (bel_trans HB1.out hb2); obtain ⟨z2, z3⟩ := HBx.out _ HB2.out; clear hb2))
      have hst : ∀ W1 W2, Below W1.heap.size W1 W2 → (W1.cell? ⟨W.heap.size, 0, none⟩ = some (.int .i64 st) ∧ W1.cell? ⟨W.heap.size, 1, none⟩ = some (.slice A1 D1.length c1) ∧ Hid (Below (W.alloc (.cells #[.int .i64 st, .slice A1 D1.length c1] 24)).heap.size (W.alloc (.cells #[.int .i64 st, .slice A1 D1.length c1] 24)) W1)) → (W2.cell? ⟨W.heap.size, 0, none⟩ = some (.int .i64 st) ∧ W2.cell? ⟨W.heap.size, 1, none⟩ = some (.slice A1 D1.length c1) ∧ Hid (Below (W.alloc (.cells #[.int .i64 st, .slice A1 D1.length c1] 24)).heap.size (W.alloc (.cells #[.int .i64 st, .slice A1 D1.length c1] 24)) W2)) := fun W1 W2 hb h => ⟨cell_keep hb h.1, cell_keep hb h.2.1, Lib.hid (bel_trans h.2.2.out hb)⟩
      have HC0' := Lib.hid (fun w' (hs : w'.cell? ⟨W.heap.size, 0, none⟩ = some (.int .i64 st) ∧ w'.cell? ⟨W.heap.size, 1, none⟩ = some (.slice A1 D1.length c1) ∧ Hid (Below (W.alloc (.cells #[.int .i64 st, .slice A1 D1.length c1] 24)).heap.size (W.alloc (.cells #[.int .i64 st, .slice A1 D1.length c1] 24)) w')) => HC0.out w' (Kd.S_ext hs.2.2.out (hA0.out _)) hd0)
      have HC1' := Lib.hid (fun w' (hs : w'.cell? ⟨W.heap.size, 0, none⟩ = some (.int .i64 st) ∧ w'.cell? ⟨W.heap.size, 1, none⟩ = some (.slice A1 D1.length c1) ∧ Hid (Below (W.alloc (.cells #[.int .i64 st, .slice A1 D1.length c1] 24)).heap.size (W.alloc (.cells #[.int .i64 st, .slice A1 D1.length c1] 24)) w')) => HC1.out w' (Kd.S_ext hs.2.2.out (hA1.out _)) hd1)
      have hS0 := hst w2 w2.drew (bel_drew (Below.refl _ _)) ⟨z2, z3, HB2⟩
      go_region_held3 (fun W' => W'.cell? ⟨W.heap.size, 0, none⟩ = some (.int .i64 st) ∧ W'.cell? ⟨W.heap.size, 1, none⟩ = some (.slice A1 D1.length c1) ∧ Hid (Below (W.alloc (.cells #[.int .i64 st, .slice A1 D1.length c1] 24)).heap.size (W.alloc (.cells #[.int .i64 st, .slice A1 D1.length c1] 24)) W')) (assumption) (first | (go_at_call 8; refine (HC0'.out _ (by assumption)).mono ?_; rintro e w3 ⟨v3, rfl, hv3, hb3⟩; have hS3 := hst _ _ hb3 (by assumption); have HV3 := Lib.hid (fun W' hb' => Kd.S_ext (w' := W') hb' (Kd.O_read hv3)); clear hb3 hv3) | (go_at_call 9; refine (HC1'.out _ (by assumption)).mono ?_; rintro e w4 ⟨v4, rfl, hv4, hb4⟩; have hS4 := hst _ _ hb4 (by assumption); have HV4 := Lib.hid (Kd.O_read hv4); have HB4 := Lib.hid hb4; clear hb4 hv4) | (go_at_call 7; refine (HSp.out _ _ _ (HV3.out _ HB4.out) HV4.out he0 he1).mono ?_; rintro e w5 ⟨rfl, hb5⟩; have hS5 := hst _ _ hb5 (by assumption); clear hb5))
      all_goals
        have HS5 := Lib.hid hS5
        clear hS0 hS3 hS4 hS5 z0 z1 z2 z3 HV3 HV4 HB4 HB1 HB2
        obtain ⟨z0, z1, HB5⟩ := HS5.out
        go_upto_region 11 with (first | (go_at_call 8; (with_reducible refine (HC0'.out _ HS5.out).mono ?_); rintro e w6 ⟨v6, rfl, hv6, hb6⟩; have HS6 := Lib.hid (hst _ _ hb6 HS5.out); obtain ⟨z2, z3, -⟩ := HS6.out; have HV6 := Lib.hid (Kd.O_read hv6); clear hb6 hv6) | (go_at_call 9; (with_reducible refine (HC1'.out _ HS6.out).mono ?_); rintro e w7 ⟨v7, rfl, hv7, hb7⟩; have HS7 := Lib.hid (hst _ _ hb7 HS6.out); obtain ⟨z4, z5, -⟩ := HS7.out; have HB67 := Lib.hid hb7; have HV7 := Lib.hid (Kd.O_read hv7); obtain ⟨XB, xc, rfl, q1, q2, -⟩ := HV7.out; clear hb7 hv7))
        have HBa := Lib.hid (bel_alloc (Below.refl w7.heap.size w7) (.cells #[.int .i64 st, .slice XB D1.length xc] 31))
        have hb7 := heap_alloc_new w7 (.cells #[.int .i64 st, .slice XB D1.length xc] 31)
        have hst2 : ∀ W1 W2, Below W1.heap.size W1 W2 → (W1.cell? ⟨W.heap.size, 0, none⟩ = some (.int .i64 st) ∧ W1.cell? ⟨W.heap.size, 1, none⟩ = some (.slice A1 D1.length c1) ∧ W1.cell? ⟨w7.heap.size, 0, none⟩ = some (.int .i64 st) ∧ W1.cell? ⟨w7.heap.size, 1, none⟩ = some (.slice XB D1.length xc) ∧ Hid (Below (w7.alloc (.cells #[.int .i64 st, .slice XB D1.length xc] 31)).heap.size (w7.alloc (.cells #[.int .i64 st, .slice XB D1.length xc] 31)) W1)) → (W2.cell? ⟨W.heap.size, 0, none⟩ = some (.int .i64 st) ∧ W2.cell? ⟨W.heap.size, 1, none⟩ = some (.slice A1 D1.length c1) ∧ W2.cell? ⟨w7.heap.size, 0, none⟩ = some (.int .i64 st) ∧ W2.cell? ⟨w7.heap.size, 1, none⟩ = some (.slice XB D1.length xc) ∧ Hid (Below (w7.alloc (.cells #[.int .i64 st, .slice XB D1.length xc] 31)).heap.size (w7.alloc (.cells #[.int .i64 st, .slice XB D1.length xc] 31)) W2)) := fun W1 W2 hb h => ⟨cell_keep hb h.1, cell_keep hb h.2.1, cell_keep hb h.2.2.1, cell_keep hb h.2.2.2.1, Lib.hid (bel_trans h.2.2.2.2.out hb)⟩
        have HS7a := Lib.hid (show (w7.alloc (.cells #[.int .i64 st, .slice XB D1.length xc] 31)).cell? ⟨W.heap.size, 0, none⟩ = some (.int .i64 st) ∧ (w7.alloc (.cells #[.int .i64 st, .slice XB D1.length xc] 31)).cell? ⟨W.heap.size, 1, none⟩ = some (.slice A1 D1.length c1) ∧ (w7.alloc (.cells #[.int .i64 st, .slice XB D1.length xc] 31)).cell? ⟨w7.heap.size, 0, none⟩ = some (.int .i64 st) ∧ (w7.alloc (.cells #[.int .i64 st, .slice XB D1.length xc] 31)).cell? ⟨w7.heap.size, 1, none⟩ = some (.slice XB D1.length xc) ∧ Hid (Below (w7.alloc (.cells #[.int .i64 st, .slice XB D1.length xc] 31)).heap.size (w7.alloc (.cells #[.int .i64 st, .slice XB D1.length xc] 31)) (w7.alloc (.cells #[.int .i64 st, .slice XB D1.length xc] 31))) from ⟨cell_keep HBa.out z4, cell_keep HBa.out z5, Lib.cell_of_heap hb7 0, Lib.cell_of_heap hb7 1, Lib.hid (Below.refl _ _)⟩)
        clear hb7
        have HX0 := Lib.hid (fun w' (hb : Below (w7.alloc (.cells #[.int .i64 st, .slice XB D1.length xc] 31)).heap.size (w7.alloc (.cells #[.int .i64 st, .slice XB D1.length xc] 31)) w') => Kd.S_ext hb (Kd.S_ext (bel_trans HB67.out HBa.out) HV6.out))
        have HX1 := Lib.hid (fun w' (hb : Below (w7.alloc (.cells #[.int .i64 st, .slice XB D1.length xc] 31)).heap.size (w7.alloc (.cells #[.int .i64 st, .slice XB D1.length xc] 31)) w') => Kd.S_ext hb (Kd.S_ext HBa.out HV7.out))
        have HTb := Lib.hid ((hAT.out _).ext (bel_trans HS7.out.2.2.out HBa.out))
        have HLS := Lib.hid (fun w' (hb : Below (w7.alloc (.cells #[.int .i64 st, .slice XB D1.length xc] 31)).heap.size (w7.alloc (.cells #[.int .i64 st, .slice XB D1.length xc] 31)) w') => bel_trans (bel_trans HS7.out.2.2.out HBa.out) hb)
        go_upto_region 16 with (first | (go_at_call 10; (with_reducible refine (HIm.out _ _ _ (HX0.out _ (Below.refl _ _)) (HX1.out _ (Below.refl _ _)) he0 he1 HTb.out).mono ?_); rintro e w8 ⟨rfl, hb8⟩; have HS8 := Lib.hid (hst2 _ _ hb8 HS7a.out); clear hb8) | (go_at_call 8; (with_reducible refine (HC0.out _ (Kd.S_ext (HLS.out _ HS8.out.2.2.2.2.out) (hA0.out _)) hd0).mono ?_); rintro e w9 ⟨v9, rfl, hv9, hb9⟩; have HS9 := Lib.hid (hst2 _ _ hb9 HS8.out); have HV9 := Lib.hid (Kd.O_read hv9); clear hb9 hv9) | (go_at_call 11; (with_reducible refine (HE0.out _ _ _ (HX0.out _ HS9.out.2.2.2.2.out) HV9.out hd0).mono ?_); rintro e w10 ⟨rfl, hb10⟩; have HS10 := Lib.hid (hst2 _ _ hb10 HS9.out); obtain ⟨z6, z7, z8, z9, -⟩ := HS10.out; clear hb10))
        have HC1b := Lib.hid (fun w' (hs : w'.cell? ⟨W.heap.size, 0, none⟩ = some (.int .i64 st) ∧ w'.cell? ⟨W.heap.size, 1, none⟩ = some (.slice A1 D1.length c1) ∧ w'.cell? ⟨w7.heap.size, 0, none⟩ = some (.int .i64 st) ∧ w'.cell? ⟨w7.heap.size, 1, none⟩ = some (.slice XB D1.length xc) ∧ Hid (Below (w7.alloc (.cells #[.int .i64 st, .slice XB D1.length xc] 31)).heap.size (w7.alloc (.cells #[.int .i64 st, .slice XB D1.length xc] 31)) w')) => HC1.out w' (Kd.S_ext (HLS.out _ hs.2.2.2.2.out) (hA1.out _)) hd1)
        have hS0 := hst2 w10 w10.drew (bel_drew (Below.refl _ _)) HS10.out
        clear HS10
        go_region_held3 (fun W' => W'.cell? ⟨W.heap.size, 0, none⟩ = some (.int .i64 st) ∧ W'.cell? ⟨W.heap.size, 1, none⟩ = some (.slice A1 D1.length c1) ∧ W'.cell? ⟨w7.heap.size, 0, none⟩ = some (.int .i64 st) ∧ W'.cell? ⟨w7.heap.size, 1, none⟩ = some (.slice XB D1.length xc) ∧ Hid (Below (w7.alloc (.cells #[.int .i64 st, .slice XB D1.length xc] 31)).heap.size (w7.alloc (.cells #[.int .i64 st, .slice XB D1.length xc] 31)) W')) (assumption) (first | (go_at_call 9; refine (HC1b.out _ (by assumption)).mono ?_; rintro e w11 ⟨v11, rfl, hv11, hb11⟩; have hS11 := hst2 _ _ hb11 (by assumption); have HV11 := Lib.hid (Kd.O_read hv11); clear hb11 hv11) | (go_at_call 12; refine (HE1.out _ _ _ (HX1.out _ hS11.2.2.2.2.out) HV11.out hd1).mono ?_; rintro e w12 ⟨rfl, hb12⟩; have hS12 := hst2 _ _ hb12 (by assumption); clear hb12))
        all_goals
          have HBf := Lib.hid (bel_trans (HWa.out _) (HLS.out _ hS12.2.2.2.2.out))
          clear hS0 hst2 hst
          go_wp2
          go_ret
          exact ⟨rfl, HBf.out⟩
end Go.Proofs.YtjnangiggnmkoaaGreatDoor
