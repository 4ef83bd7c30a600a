/- Contract: the program's OutOk. -/
import Derived.Test.YtjnangiggnmkoaaGreatDoorImQ2
import Derived.Test.YtjnangiggnmkoaaGreatDoorCOutS
namespace Go.Proofs.YtjnangiggnmkoaaGreatDoor
open Go.RowKit
set_option maxRecDepth 100000
set_option maxHeartbeats 2000000
set_option linter.unusedVariables false
theorem outOkI_c (top : Trm) (tv : Value) (st : Int) (t : Trm) (ov : Value) (w : World) (h : Kd.cell.S 47 w tv top) (h' : Kd.cell.S 47 w ov t) (hl : top.length ≤ 1000000000) (hl' : t.length ≤ 1000000000) (hz : sized top) (hz' : sized t) :
    Calls Tryz.prog 21 #[tv, .agg #[.int .i64 st, ov]] w fun e w' => e = .returned (.bool (outOk top st t)) ∧ Below w.heap.size w w' := by
  have H := Lib.hid h
  have H' := Lib.hid h'
  obtain ⟨B, k, rfl, b1, b2, -⟩ := h'
  have HT := Lib.hid (fun W hb => isQI_c top tv W (Kd.S_ext (w' := W) hb H.out) hl hz)
  clear h
  cases hq : isQ top with
  | false =>
    have HV := Lib.hid (show outOk top st t = false by unfold outOk; rw [if_pos hq])
    rw [hq] at HT
    clear hq
    go_enter Tryz.func21, Tryz.ntmps21
    go_wp2_with (go_at_call 36; (with_reducible refine (HT.out _ (bel_alloc (Below.refl _ _) _)).mono ?_); rintro e w1 ⟨rfl, hb⟩)
    go_ret
    exact ⟨ret_bool HV.out.symm, bel_trans (bel_alloc (Below.refl _ _) _) hb⟩
  | true =>
    rw [hq] at HT
    have HQ := Lib.hid hq
    clear hq
    have hbx : ∀ w1, Below (w.alloc (.cells #[.int .i64 st, .slice B t.length k] 31)).heap.size (w.alloc (.cells #[.int .i64 st, .slice B t.length k] 31)) w1 →
        w1.cell? ⟨w.heap.size, 0, none⟩ = some (.int .i64 st) ∧ w1.cell? ⟨w.heap.size, 1, none⟩ = some (.slice B t.length k) ∧ Below w.heap.size w w1 := fun w1 hb => ⟨cell_keep hb (box_cell _ _ _ 0), cell_keep hb (box_cell _ _ _ 1), bel_trans (bel_alloc (Below.refl _ _) _) hb⟩
    have HBX := Lib.hid hbx
    clear hbx
    by_cases h2 : st = 2
    · subst h2
      have HI2 : Hid (∀ W, Calls Tryz.prog 37 #[.int .i64 2, .int .i64 3, .int .i64 5] W fun e w' => e = .returned (.bool false) ∧ W = w') := Lib.hid (fun W => imIn_c 2 3 5 W)
      have HO := Lib.hid (fun W hb => imOkS_c t _ W (Kd.S_ext (w' := W) hb H'.out) hl' hz')
      have HV0 := Lib.hid (show outOk top 2 t = (trmOk t && (decide (canon t = t) && (uni [] [(t, shift top t.length)]).isSome)) by
        unfold outOk
        rw [if_neg (by rw [HQ.out]; simp), if_neg (by omega), if_neg (by omega)]
        cases trmOk t with
        | false => rfl
        | true =>
          rw [if_neg (by simp), Bool.true_and]
          by_cases hc : canon t = t
          · rw [if_neg (by simpa using hc), decide_eq_true hc, Bool.true_and]
          · rw [if_pos hc, decide_eq_false hc, Bool.false_and])
      have hst : ∀ W W' : World, Below W.heap.size W W' → (W.cell? ⟨w.heap.size, 0, none⟩ = some (.int .i64 2) ∧ W.cell? ⟨w.heap.size, 1, none⟩ = some (.slice B t.length k) ∧ Hid (Below w.heap.size w W)) → (W'.cell? ⟨w.heap.size, 0, none⟩ = some (.int .i64 2) ∧ W'.cell? ⟨w.heap.size, 1, none⟩ = some (.slice B t.length k) ∧ Hid (Below w.heap.size w W')) := fun W W' hb h => ⟨cell_keep hb h.1, cell_keep hb h.2.1, Lib.hid (bel_trans h.2.2.out hb)⟩
      cases ho : trmOk t with
      | false =>
        rw [ho] at HO
        have HV := Lib.hid (show outOk top 2 t = false by rw [HV0.out, ho]; rfl)
        clear ho
        have HO2 := Lib.hid (fun W (h : W.cell? ⟨w.heap.size, 0, none⟩ = some (.int .i64 2) ∧ W.cell? ⟨w.heap.size, 1, none⟩ = some (.slice B t.length k) ∧ Hid (Below w.heap.size w W)) => HO.out W h.2.2.out)
        go_enter Tryz.func21, Tryz.ntmps21
        go_upto_region 5 with (first | (go_at_call 36; (with_reducible refine (HT.out _ (bel_alloc (Below.refl _ _) _)).mono ?_); rintro e w1 ⟨rfl, hb⟩; obtain ⟨c0, c1, hb1⟩ := HBX.out _ hb; have HB1 := Lib.hid hb1; clear hb hb1) | (go_at_call 37; (with_reducible refine (HI2.out _).mono ?_); rintro e w9 ⟨rfl, rfl⟩))
        have hS0 := hst w1 w1.drew (bel_drew (Below.refl _ _)) ⟨c0, c1, HB1⟩
        obtain ⟨C, hC⟩ : ∃ C : World → Prop, ∀ W, C W ↔ (W.cell? ⟨w.heap.size, 0, none⟩ = some (.int .i64 2) ∧ W.cell? ⟨w.heap.size, 1, none⟩ = some (.slice B t.length k) ∧ Hid (Below w.heap.size w W)) := ⟨_, fun W => Iff.rfl⟩
        have HCi := Lib.hid hC
        have hC0 := (hC _).2 hS0
        clear hC hS0
        refine wp_region_class (C := C) (by kernel_rfl) (by kernel_rfl) hC0 ?_; (repeat (first | go_big_quiet_skip | (go_big_quiet_want; first | (go_big_quiet_op; first | go_big_quiet_on | (refine ⟨_, fun _ _ => rfl, ?_⟩; go_big_quiet_on)) | (refine quiet_cell rfl rfl (fun W v hv => (by go_simp)) (fun W hW => ((HCi.out W).1 hW).1) ?_; go_big_quiet_on; simp only [Act.put, List.setIfInBounds_toArray, List.set_cons_zero, List.set_cons_succ]) | (refine quiet_cell rfl rfl (fun W v hv => (by go_simp)) (fun W hW => ((HCi.out W).1 hW).2.1) ?_; go_big_quiet_on; simp only [Act.put, List.setIfInBounds_toArray, List.set_cons_zero, List.set_cons_succ]) | (go_big_quiet_op; refine ⟨_, fun W hW => ((HO2.out W ((HCi.out W).1 hW)).mono (fun e w' hh => ⟨hh.1, (HCi.out _).2 (hst _ _ hh.2 ((HCi.out W).1 hW))⟩)), ?_⟩; go_big_quiet_on)))); refine wpQuiet_nil ?_; intro w2 hw2
        have HB := ((HCi.out w2).1 hw2).2.2
        clear hw2 hC0
        go_wp2
        go_ret
        exact ⟨ret_bool HV.out.symm, HB.out⟩
      | true =>
        rw [ho] at HO
        have hcan : Hid (∀ W, (W.cell? ⟨w.heap.size, 0, none⟩ = some (.int .i64 2) ∧ W.cell? ⟨w.heap.size, 1, none⟩ = some (.slice B t.length k) ∧ Hid (Below w.heap.size w W)) → Calls Tryz.prog 39 #[.slice B t.length k] W fun e w' => ∃ v, e = .returned v ∧ Kd.cell.S 47 w' v (canon t) ∧ Below W.heap.size W w') := Lib.hid (fun W h => (canonI_c t _ W (Kd.S_ext h.2.2.out H'.out) hl').mono (fun e w' hh => by obtain ⟨v, h1, h2, h3⟩ := hh; exact ⟨v, h1, Kd.O_read h2, h3⟩))
        have hsam : Hid (∀ W v, (W.cell? ⟨w.heap.size, 0, none⟩ = some (.int .i64 2) ∧ W.cell? ⟨w.heap.size, 1, none⟩ = some (.slice B t.length k) ∧ Hid (Below w.heap.size w W)) → Kd.cell.S 47 W v (canon t) → Calls Tryz.prog 38 #[.slice B t.length k, v] W fun e w' => e = .returned (.bool (decide (canon t = t))) ∧ Below W.heap.size W w') := Lib.hid (fun W v h hv => by rw [show decide (canon t = t) = decide (t = canon t) from decide_eq_decide.2 ⟨Eq.symm, Eq.symm⟩]; exact sameI_c t (canon t) _ v W (Kd.S_ext h.2.2.out H'.out) hv hl' (by rw [canon_len]; exact hl'))
        have HO2 := Lib.hid (fun W (h : W.cell? ⟨w.heap.size, 0, none⟩ = some (.int .i64 2) ∧ W.cell? ⟨w.heap.size, 1, none⟩ = some (.slice B t.length k) ∧ Hid (Below w.heap.size w W)) => HO.out W h.2.2.out)
        cases hc : decide (canon t = t) with
        | false =>
          have HV := Lib.hid (show outOk top 2 t = false by rw [HV0.out, ho, hc]; rfl)
          rw [hc] at hsam
          clear ho hc
          go_enter Tryz.func21, Tryz.ntmps21
          go_upto_region 5 with (first | (go_at_call 36; (with_reducible refine (HT.out _ (bel_alloc (Below.refl _ _) _)).mono ?_); rintro e w1 ⟨rfl, hb⟩; obtain ⟨c0, c1, hb1⟩ := HBX.out _ hb; have HB1 := Lib.hid hb1; clear hb hb1) | (go_at_call 37; (with_reducible refine (HI2.out _).mono ?_); rintro e w9 ⟨rfl, rfl⟩))
          have hS0 := hst w1 w1.drew (bel_drew (Below.refl _ _)) ⟨c0, c1, HB1⟩
          go_region_held3 (fun W => W.cell? ⟨w.heap.size, 0, none⟩ = some (.int .i64 2) ∧ W.cell? ⟨w.heap.size, 1, none⟩ = some (.slice B t.length k) ∧ Hid (Below w.heap.size w W)) (assumption) (first | (go_at_call 31; refine (HO2.out _ (by assumption)).mono ?_; rintro e w2 ⟨rfl, hb2⟩; have hS1 := hst _ _ hb2 (by assumption); clear hb2) | (go_at_call 39; refine (hcan.out _ (by assumption)).mono ?_; rintro e w3 ⟨v3, rfl, hv3, hb3⟩; have hS3 := hst _ _ hb3 (by assumption); have HV3 := Lib.hid (fun W' hb' => Kd.S_ext (w' := W') hb' hv3); clear hb3 hv3) | (go_at_call 38; refine (hsam.out _ _ (by assumption) (HV3.out _ (by first | exact Below.refl _ _ | exact bel_drew (Below.refl _ _)))).mono ?_; rintro e w4 ⟨rfl, hb4⟩; have hS4 := hst _ _ hb4 (by assumption); clear hb4))
          all_goals
            have HB := hS4.2.2
            clear hS0 hst
            go_wp2
            go_ret
            exact ⟨ret_bool HV.out.symm, HB.out⟩
        | true =>
          rw [hc] at hsam
          have ht40 := (trmOk_iff.1 ho).2.1
          have hsq := shiftQ_ok HQ.out ht40
          have hI : Uinv (vars (shift top t.length) ++ vars t) [] [(t, shift top t.length)] := .start (.nil _) ho hsq (fun v hv => List.mem_append_right _ hv) (fun v hv => List.mem_append_left _ hv)
          have hVr : ∀ x ∈ vars (shift top t.length) ++ vars t, 0 ≤ x ∧ x ≤ 1000000000 := fun x hx => by
            rcases List.mem_append.1 hx with hx | hx
            · have := vars_ok hsq x hx; omega
            · have := vars_ok ho x hx; omega
          obtain ⟨n, hU⟩ := uni_U hI
          have hVl : (vars (shift top t.length) ++ vars t).length ≤ 1000000 := by
            have h1 := vars_len (shift top t.length)
            have h2 := vars_len t
            have h3 := (trmOk_iff.1 hsq).2.1
            rw [List.length_append]; omega
          have HV := Lib.hid (show outOk top 2 t = (uni [] [(t, shift top t.length)]).isSome by rw [HV0.out, ho, hc]; rfl)
          have HSh := Lib.hid (fun W (h : W.cell? ⟨w.heap.size, 0, none⟩ = some (.int .i64 2) ∧ W.cell? ⟨w.heap.size, 1, none⟩ = some (.slice B t.length k) ∧ Hid (Below w.heap.size w W)) => shiftedI_c top tv t.length W (Kd.S_ext h.2.2.out H.out) hl (by omega) (by omega) (n_small (isQ_ok HQ.out).1))
          obtain ⟨r, hr⟩ : ∃ r, uni [] [(t, shift top t.length)] = r := ⟨_, rfl⟩
          rw [hr] at HV hU
          have HUn := Lib.hid (fun W av h1 (h : W.cell? ⟨w.heap.size, 0, none⟩ = some (.int .i64 2) ∧ W.cell? ⟨w.heap.size, 1, none⟩ = some (.slice B t.length k) ∧ Hid (Below w.heap.size w W)) hb => unifyI_c _ (w.heap.size + 1) hVl hVr (n + 1) n [] (.slice none 0 0) (.slice B t.length k) av t (shift top t.length) r W (Nat.lt_succ_self _) hU hI.b (hI.p _ List.mem_cons_self) (Kd.F_nil _ _ _ _) (Kd.S_ext h.2.2.out H'.out) h1 hb)
          have hst2 : ∀ W W' : World, Wrote (w.heap.size + 1) 115 W W' → (W.cell? ⟨w.heap.size, 0, none⟩ = some (.int .i64 2) ∧ W.cell? ⟨w.heap.size, 1, none⟩ = some (.slice B t.length k) ∧ Hid (Below w.heap.size w W)) → (W'.cell? ⟨w.heap.size, 0, none⟩ = some (.int .i64 2) ∧ W'.cell? ⟨w.heap.size, 1, none⟩ = some (.slice B t.length k) ∧ Hid (Below w.heap.size w W')) := fun W W' hb h => ⟨(hb.bel.cell (p := ⟨w.heap.size, 0, none⟩) (Nat.lt_succ_self _)).trans h.1, (hb.bel.cell (p := ⟨w.heap.size, 1, none⟩) (Nat.lt_succ_self _)).trans h.2.1, Lib.hid (h.2.2.out.trans (hb.bel.mono (Nat.le_succ _)))⟩
          have hsz : ∀ W : World, (W.cell? ⟨w.heap.size, 0, none⟩ = some (.int .i64 2) ∧ W.cell? ⟨w.heap.size, 1, none⟩ = some (.slice B t.length k) ∧ Hid (Below w.heap.size w W)) → w.heap.size + 1 ≤ W.heap.size := fun W h => World.block_lt_of_cell? W _ h.1
          have Hsz := Lib.hid hsz
          clear ho hc hsq hI hU hVl hVr hr ht40 hsz
          cases r with
          | none =>
            go_enter Tryz.func21, Tryz.ntmps21
            go_upto_region 5 with (first | (go_at_call 36; (with_reducible refine (HT.out _ (bel_alloc (Below.refl _ _) _)).mono ?_); rintro e w1 ⟨rfl, hb⟩; obtain ⟨c0, c1, hb1⟩ := HBX.out _ hb; have HB1 := Lib.hid hb1; clear hb hb1) | (go_at_call 37; (with_reducible refine (HI2.out _).mono ?_); rintro e w9 ⟨rfl, rfl⟩))
            have hS0 := hst w1 w1.drew (bel_drew (Below.refl _ _)) ⟨c0, c1, HB1⟩
            go_region_held3 (fun W => W.cell? ⟨w.heap.size, 0, none⟩ = some (.int .i64 2) ∧ W.cell? ⟨w.heap.size, 1, none⟩ = some (.slice B t.length k) ∧ Hid (Below w.heap.size w W)) (assumption) (first | (go_at_call 31; refine (HO2.out _ (by assumption)).mono ?_; rintro e w2 ⟨rfl, hb2⟩; have hS1 := hst _ _ hb2 (by assumption); clear hb2) | (go_at_call 39; refine (hcan.out _ (by assumption)).mono ?_; rintro e w3 ⟨v3, rfl, hv3, hb3⟩; have hS3 := hst _ _ hb3 (by assumption); have HV3 := Lib.hid (fun W' hb' => Kd.S_ext (w' := W') hb' hv3); clear hb3 hv3) | (go_at_call 38; refine (hsam.out _ _ (by assumption) (HV3.out _ (by first | exact Below.refl _ _ | exact bel_drew (Below.refl _ _)))).mono ?_; rintro e w4 ⟨rfl, hb4⟩; have hS4 := hst _ _ hb4 (by assumption); clear hb4))
            clear hS0 hS1 hS3
            go_upto_region 7 with fail
            have hS0 := hst _ _ (bel_drew (Below.refl w4.heap.size w4)) hS4
            go_region_held3 (fun W => W.cell? ⟨w.heap.size, 0, none⟩ = some (.int .i64 2) ∧ W.cell? ⟨w.heap.size, 1, none⟩ = some (.slice B t.length k) ∧ Hid (Below w.heap.size w W)) (first | assumption | (exact hst _ _ (bel_alloc (Below.refl _ _) _) (by assumption))) (first | (go_at_call 41; refine (HSh.out _ (by assumption)).mono ?_; rintro e w5 ⟨v5, rfl, ho5, hb5⟩; have hv5 := Kd.O_read ho5; have hS5 := hst _ _ hb5 (by assumption); have HV5 := Lib.hid (fun W' hb' => Kd.S_ext (w' := W') hb' hv5); have HB5 := Lib.hid hb5; clear hb5 hv5 ho5) | (go_at_call 40; refine (HUn.out _ _ (HV5.out _ (by first | exact Below.refl _ _ | exact bel_alloc (Below.refl _ _) _)) (by assumption) (Hsz.out _ (by assumption))).mono ?_; rintro e w6 ⟨rv, rfl, hw6⟩; have hS6 := hst2 _ _ hw6 (by assumption); clear hw6))
            all_goals
              have HB := hS6.2.2
              clear hS0 hst
              go_wp2
              go_ret
              exact ⟨ret_bool HV.out.symm, HB.out⟩
          | some s' =>
            go_enter Tryz.func21, Tryz.ntmps21
            go_upto_region 5 with (first | (go_at_call 36; (with_reducible refine (HT.out _ (bel_alloc (Below.refl _ _) _)).mono ?_); rintro e w1 ⟨rfl, hb⟩; obtain ⟨c0, c1, hb1⟩ := HBX.out _ hb; have HB1 := Lib.hid hb1; clear hb hb1) | (go_at_call 37; (with_reducible refine (HI2.out _).mono ?_); rintro e w9 ⟨rfl, rfl⟩))
            have hS0 := hst w1 w1.drew (bel_drew (Below.refl _ _)) ⟨c0, c1, HB1⟩
            go_region_held3 (fun W => W.cell? ⟨w.heap.size, 0, none⟩ = some (.int .i64 2) ∧ W.cell? ⟨w.heap.size, 1, none⟩ = some (.slice B t.length k) ∧ Hid (Below w.heap.size w W)) (assumption) (first | (go_at_call 31; refine (HO2.out _ (by assumption)).mono ?_; rintro e w2 ⟨rfl, hb2⟩; have hS1 := hst _ _ hb2 (by assumption); clear hb2) | (go_at_call 39; refine (hcan.out _ (by assumption)).mono ?_; rintro e w3 ⟨v3, rfl, hv3, hb3⟩; have hS3 := hst _ _ hb3 (by assumption); have HV3 := Lib.hid (fun W' hb' => Kd.S_ext (w' := W') hb' hv3); clear hb3 hv3) | (go_at_call 38; refine (hsam.out _ _ (by assumption) (HV3.out _ (by first | exact Below.refl _ _ | exact bel_drew (Below.refl _ _)))).mono ?_; rintro e w4 ⟨rfl, hb4⟩; have hS4 := hst _ _ hb4 (by assumption); clear hb4))
            clear hS0 hS1 hS3
            go_upto_region 7 with fail
            have hS0 := hst _ _ (bel_drew (Below.refl w4.heap.size w4)) hS4
            go_region_held3 (fun W => W.cell? ⟨w.heap.size, 0, none⟩ = some (.int .i64 2) ∧ W.cell? ⟨w.heap.size, 1, none⟩ = some (.slice B t.length k) ∧ Hid (Below w.heap.size w W)) (first | assumption | (exact hst _ _ (bel_alloc (Below.refl _ _) _) (by assumption))) (first | (go_at_call 41; refine (HSh.out _ (by assumption)).mono ?_; rintro e w5 ⟨v5, rfl, ho5, hb5⟩; have hv5 := Kd.O_read ho5; have hS5 := hst _ _ hb5 (by assumption); have HV5 := Lib.hid (fun W' hb' => Kd.S_ext (w' := W') hb' hv5); have HB5 := Lib.hid hb5; clear hb5 hv5 ho5) | (go_at_call 40; refine (HUn.out _ _ (HV5.out _ (by first | exact Below.refl _ _ | exact bel_alloc (Below.refl _ _) _)) (by assumption) (Hsz.out _ (by assumption))).mono ?_; rintro e w6 ⟨rv, ⟨rfl, -⟩, hw6⟩; have hS6 := hst2 _ _ hw6 (by assumption); clear hw6))
            all_goals
              have HB := hS6.2.2
              clear hS0 hst
              go_wp2
              go_ret
              exact ⟨ret_bool HV.out.symm, HB.out⟩
    · have e2 : (st != 2) = true := bne_iff_ne.2 h2
      have HI := Lib.hid (fun W => imIn_c st 3 5 W)
      by_cases h35 : 3 ≤ st ∧ st ≤ 5
      · have HV := Lib.hid (show outOk top st t = t.isEmpty by unfold outOk; rw [if_neg (by rw [HQ.out]; simp), if_pos h35])
        have hI : (decide (3 ≤ st) && decide (st ≤ 5)) = true := by rw [decide_eq_true h35.1, decide_eq_true h35.2]; rfl
        rw [hI] at HI
        have HE := Lib.hid (show (((t.length : Nat) : Int) == 0) = t.isEmpty by cases t <;> simp <;> try omega)
        obtain ⟨m, hm⟩ : ∃ m, t.length = m := ⟨_, rfl⟩
        have HM := Lib.hid hm
        rw [hm] at HBX HE ⊢
        clear hI h35 h2 hm
        go_enter Tryz.func21, Tryz.ntmps21
        go_wp2_with (first | (go_at_call 36; (with_reducible refine (HT.out _ (bel_alloc (Below.refl _ _) _)).mono ?_); rintro e w1 ⟨rfl, hb⟩; obtain ⟨c0, c1, hb1⟩ := HBX.out _ hb; have HB1 := Lib.hid hb1; clear hb hb1) | (go_at_call 37; (with_reducible refine (HI.out _).mono ?_); rintro e w2 ⟨rfl, rfl⟩))
        go_ret
        exact ⟨ret_bool (by rw [HV.out, ← HE.out]), HB1.out⟩
      · have HV := Lib.hid (show outOk top st t = false by unfold outOk; rw [if_neg (by rw [HQ.out]; simp), if_neg h35, if_pos h2])
        have hI : (decide (3 ≤ st) && decide (st ≤ 5)) = false := by
          cases hd : (decide (3 ≤ st) && decide (st ≤ 5)) with
          | false => rfl
          | true => simp at hd; exact absurd hd h35
        rw [hI] at HI
        clear hI h35 h2
        go_enter Tryz.func21, Tryz.ntmps21
        go_upto_region 5 with (first | (go_at_call 36; (with_reducible refine (HT.out _ (bel_alloc (Below.refl _ _) _)).mono ?_); rintro e w1 ⟨rfl, hb⟩; obtain ⟨c0, c1, hb1⟩ := HBX.out _ hb; have HB1 := Lib.hid hb1; clear hb hb1) | (go_at_call 37; (with_reducible refine (HI.out _).mono ?_); rintro e w2 ⟨rfl, rfl⟩))
        go_quiet (fail)
        go_wp2
        go_ret
        exact ⟨ret_bool HV.out.symm, bel_drewN HB1.out _⟩
end Go.Proofs.YtjnangiggnmkoaaGreatDoor
