/- Contract: the reference's OutOk. -/
import Derived.Test.YtjnangiggnmkoaaGreatDoorCUnify
import Derived.Test.YtjnangiggnmkoaaGreatDoorBase3
import Derived.Deep.RegionHeld3
import Derived.Deep.RegionWith
namespace Go.Proofs.YtjnangiggnmkoaaGreatDoor
open Go.RowKit
set_option maxRecDepth 100000
set_option maxHeartbeats 2000000
set_option linter.unusedVariables false
theorem trmOkS_c (t : Trm) (tv : Value) (w : World) (h : Kd.cell.S 47 w tv t) (hl : t.length ≤ 1000000000) :
    Calls Tryz.prog 26 #[tv] w fun e w' => e = .returned (.bool (trmOk t)) ∧ Below w.heap.size w w' := by
  obtain ⟨A, c, rfl, _, _, hC⟩ := h
  exact trmOk_c t A c w hC hl
theorem canonS_c (t : Trm) (tv : Value) (w : World) (h : Kd.cell.S 47 w tv t) (hl : t.length ≤ 1000000000) :
    Calls Tryz.prog 28 #[tv] w fun e w' => ∃ v, e = .returned v ∧ Kd.cell.S 47 w' v (canon t) ∧ Below w.heap.size w w' := by
  obtain ⟨A, c, rfl, _, _, hC⟩ := h
  exact canon_c t A c w hC hl
theorem sameS_c (t u : Trm) (tv uv : Value) (w : World) (h : Kd.cell.S 47 w tv t) (h' : Kd.cell.S 47 w uv u) (hl : t.length ≤ 1000000000) (hl' : u.length ≤ 1000000000) :
    Calls Tryz.prog 27 #[tv, uv] w fun e w' => e = .returned (.bool (decide (t = u))) ∧ Below w.heap.size w w' := by
  obtain ⟨A, c, rfl, _, _, hC⟩ := h
  obtain ⟨B, d, rfl, _, _, hC'⟩ := h'
  exact same_c t u A B c d w hC hC' hl hl'
theorem topS_c (t : Trm) (tv : Value) (w : World) (h : Kd.cell.S 47 w tv t) (hl : t.length ≤ 1000000000) :
    Calls Tryz.prog 24 #[tv] w fun e w' => e = .returned (.bool (isQ t)) ∧ Below w.heap.size w w' := by
  obtain ⟨A, c, rfl, _, _, hC⟩ := h
  exact top_c t A c w hC hl
theorem shiftS_c (t : Trm) (tv : Value) (n : Int) (w : World) (h : Kd.cell.S 47 w tv t) (hl : t.length ≤ 1000000000) (hn0 : -1000000000 ≤ n) (hn1 : n ≤ 1000000000) (hc0 : ∀ x ∈ t, -1000000000 ≤ x.n ∧ x.n ≤ 1000000000) :
    Calls Tryz.prog 30 #[tv, .int .i64 n] w fun e w' => ∃ v, e = .returned v ∧ Kd.cell.S 47 w' v (shift t n) ∧ Below w.heap.size w w' := by
  obtain ⟨A, c, rfl, _, _, hC⟩ := h
  exact shift_c t A c n w hC hl hn0 hn1 hc0
theorem n_small {t : Trm} (h : trmOk t = true) : ∀ x ∈ t, -1000000000 ≤ x.n ∧ x.n ≤ 1000000000 := fun x hx => by
  have := cellOk_n (List.all_eq_true.1 (trmOk_iff.1 h).2.2 x hx)
  omega
theorem outOkS_c (top : Trm) (tv : Value) (st : Int) (t : Trm) (ov : Value) (w : World) (h : Kd.cell.S 47 w tv top) (h' : Kd.cell.S 47 w ov t) (hl : top.length ≤ 1000000000) (hl' : t.length ≤ 1000000000) :
    Calls Tryz.prog 14 #[tv, .agg #[.int .i64 st, ov]] w fun e w' => e = .returned (.bool (outOk top st t)) ∧ Below w.heap.size w w' := by
  have H := Lib.hid h
  have H' := Lib.hid h'
  obtain ⟨B, k, rfl, b1, b2, -⟩ := h'
  have HT := Lib.hid (fun W hb => topS_c top tv W (Kd.S_ext (w' := W) hb H.out) hl)
  clear h
  cases hq : isQ top with
  | false =>
    have HV := Lib.hid (show outOk top st t = false by unfold outOk; rw [if_pos hq])
    rw [hq] at HT
    clear hq
    go_enter Tryz.func14, Tryz.ntmps14
    go_wp2_with (go_at_call 24; (with_reducible refine (HT.out _ (bel_alloc (Below.refl _ _) _)).mono ?_); rintro e w1 ⟨rfl, hb⟩)
    go_ret
    exact ⟨ret_bool HV.out.symm, bel_trans (bel_alloc (Below.refl _ _) _) hb⟩
  | true =>
    rw [hq] at HT
    have HQ := Lib.hid hq
    clear hq
    have hbx : ∀ w1, Below (w.alloc (.cells #[.int .i64 st, .slice B t.length k] 31)).heap.size (w.alloc (.cells #[.int .i64 st, .slice B t.length k] 31)) w1 →
        w1.cell? ⟨w.heap.size, 0, none⟩ = some (.int .i64 st) ∧ w1.cell? ⟨w.heap.size, 1, none⟩ = some (.slice B t.length k) ∧ Below w.heap.size w w1 := fun w1 hb => ⟨cell_keep hb (box_cell _ _ _ 0), cell_keep hb (box_cell _ _ _ 1), bel_trans (bel_alloc (Below.refl _ _) _) hb⟩
    have HBX := Lib.hid hbx
    clear hbx
    by_cases h2 : st = 2
    · subst h2
      have HO := Lib.hid (fun W hb => trmOkS_c t _ W (Kd.S_ext (w' := W) hb H'.out) hl')
      have HV0 := Lib.hid (show outOk top 2 t = (trmOk t && (decide (canon t = t) && (uni [] [(t, shift top t.length)]).isSome)) by
        unfold outOk
        rw [if_neg (by rw [HQ.out]; simp), if_neg (by omega), if_neg (by omega)]
        cases trmOk t with
        | false => rfl
        | true =>
          rw [if_neg (by simp), Bool.true_and]
          by_cases hc : canon t = t
          · rw [if_neg (by simpa using hc), decide_eq_true hc, Bool.true_and]
          · rw [if_pos hc, decide_eq_false hc, Bool.false_and])
      have hst : ∀ W W' : World, Below W.heap.size W W' → (W.cell? ⟨w.heap.size, 1, none⟩ = some (.slice B t.length k) ∧ Hid (Below w.heap.size w W)) → (W'.cell? ⟨w.heap.size, 1, none⟩ = some (.slice B t.length k) ∧ Hid (Below w.heap.size w W')) := fun W W' hb h => ⟨cell_keep hb h.1, Lib.hid (bel_trans h.2.out hb)⟩
      cases ho : trmOk t with
      | false =>
        rw [ho] at HO
        have HV := Lib.hid (show outOk top 2 t = false by rw [HV0.out, ho]; rfl)
        clear ho
        have HO2 := Lib.hid (fun W (h : W.cell? ⟨w.heap.size, 1, none⟩ = some (.slice B t.length k) ∧ Hid (Below w.heap.size w W)) => HO.out W h.2.out)
        go_enter Tryz.func14, Tryz.ntmps14
        go_upto_region 5 with (go_at_call 24; (with_reducible refine (HT.out _ (bel_alloc (Below.refl _ _) _)).mono ?_); rintro e w1 ⟨rfl, hb⟩; obtain ⟨c0, c1, hb1⟩ := HBX.out _ hb; have HB1 := Lib.hid hb1; clear hb hb1)
        have hS0 := hst w1 w1.drew (bel_drew (Below.refl _ _)) ⟨c1, HB1⟩
        obtain ⟨C, hC⟩ : ∃ C : World → Prop, ∀ W, C W ↔ (W.cell? ⟨w.heap.size, 1, none⟩ = some (.slice B t.length k) ∧ Hid (Below w.heap.size w W)) := ⟨_, fun W => Iff.rfl⟩
        have HCi := Lib.hid hC
        have hC0 := (hC _).2 hS0
        clear hC hS0
        refine wp_region_class (C := C) (by kernel_rfl) (by kernel_rfl) hC0 ?_; (repeat (first | go_big_quiet_skip | (go_big_quiet_want; first | (go_big_quiet_op; first | go_big_quiet_on | (refine ⟨_, fun _ _ => rfl, ?_⟩; go_big_quiet_on)) | (refine quiet_cell rfl rfl (fun W v hv => (by go_simp)) (fun W hW => ((HCi.out W).1 hW).1) ?_; go_big_quiet_on; simp only [Act.put, List.setIfInBounds_toArray, List.set_cons_zero, List.set_cons_succ]) | (go_big_quiet_op; refine ⟨_, fun W hW => ((HO2.out W ((HCi.out W).1 hW)).mono (fun e w' hh => ⟨hh.1, (HCi.out _).2 (hst _ _ hh.2 ((HCi.out W).1 hW))⟩)), ?_⟩; go_big_quiet_on)))); refine wpQuiet_nil ?_; intro w2 hw2
        have HB := ((HCi.out w2).1 hw2).2
        clear hw2 hC0
        go_wp2
        go_ret
        exact ⟨ret_bool HV.out.symm, HB.out⟩
      | true =>
        rw [ho] at HO
        have hcan : Hid (∀ W, (W.cell? ⟨w.heap.size, 1, none⟩ = some (.slice B t.length k) ∧ Hid (Below w.heap.size w W)) → Calls Tryz.prog 28 #[.slice B t.length k] W fun e w' => ∃ v, e = .returned v ∧ Kd.cell.S 47 w' v (canon t) ∧ Below W.heap.size W w') := Lib.hid (fun W h => canonS_c t _ W (Kd.S_ext h.2.out H'.out) hl')
        have hsam : Hid (∀ W v, (W.cell? ⟨w.heap.size, 1, none⟩ = some (.slice B t.length k) ∧ Hid (Below w.heap.size w W)) → Kd.cell.S 47 W v (canon t) → Calls Tryz.prog 27 #[v, .slice B t.length k] W fun e w' => e = .returned (.bool (decide (canon t = t))) ∧ Below W.heap.size W w') := Lib.hid (fun W v h hv => sameS_c (canon t) t v _ W hv (Kd.S_ext h.2.out H'.out) (by rw [canon_len]; exact hl') hl')
        have HO2 := Lib.hid (fun W (h : W.cell? ⟨w.heap.size, 1, none⟩ = some (.slice B t.length k) ∧ Hid (Below w.heap.size w W)) => HO.out W h.2.out)
        cases hc : decide (canon t = t) with
        | false =>
          have HV := Lib.hid (show outOk top 2 t = false by rw [HV0.out, ho, hc]; rfl)
          rw [hc] at hsam
          clear ho hc
          go_enter Tryz.func14, Tryz.ntmps14
          go_upto_region 5 with (go_at_call 24; (with_reducible refine (HT.out _ (bel_alloc (Below.refl _ _) _)).mono ?_); rintro e w1 ⟨rfl, hb⟩; obtain ⟨c0, c1, hb1⟩ := HBX.out _ hb; have HB1 := Lib.hid hb1; clear hb hb1)
          have hS0 := hst w1 w1.drew (bel_drew (Below.refl _ _)) ⟨c1, HB1⟩
          go_region_held3 (fun W => W.cell? ⟨w.heap.size, 1, none⟩ = some (.slice B t.length k) ∧ Hid (Below w.heap.size w W)) (assumption) (first | (go_at_call 26; refine (HO2.out _ (by assumption)).mono ?_; rintro e w2 ⟨rfl, hb2⟩; have hS1 := hst _ _ hb2 (by assumption); clear hb2) | (go_at_call 28; refine (hcan.out _ (by assumption)).mono ?_; rintro e w3 ⟨v3, rfl, hv3, hb3⟩; have hS3 := hst _ _ hb3 (by assumption); have HV3 := Lib.hid (fun W' hb' => Kd.S_ext (w' := W') hb' hv3); clear hb3 hv3) | (go_at_call 27; refine (hsam.out _ _ (by assumption) (HV3.out _ (by first | exact Below.refl _ _ | exact bel_drew (Below.refl _ _)))).mono ?_; rintro e w4 ⟨rfl, hb4⟩; have hS4 := hst _ _ hb4 (by assumption); clear hb4))
          all_goals
            have HB := hS4.2
            clear hS0 hst
            go_wp2
            go_ret
            exact ⟨ret_bool HV.out.symm, HB.out⟩
        | true =>
          rw [hc] at hsam
          have ht40 := (trmOk_iff.1 ho).2.1
          have hsq := shiftQ_ok HQ.out ht40
          have hI : Uinv (vars (shift top t.length) ++ vars t) [] [(shift top t.length, t)] := .start (.nil _) hsq ho (fun v hv => List.mem_append_left _ hv) (fun v hv => List.mem_append_right _ hv)
          obtain ⟨n, hU⟩ := uni_U hI
          have hVl : (vars (shift top t.length) ++ vars t).length ≤ 1000000 := by
            have h1 := vars_len (shift top t.length)
            have h2 := vars_len t
            have h3 := (trmOk_iff.1 hsq).2.1
            rw [List.length_append]; omega
          have hsw := uni_swap hsq ho
          have HV := Lib.hid (show outOk top 2 t = (uni [] [(shift top t.length, t)]).isSome by rw [HV0.out, ho, hc, hsw]; rfl)
          have HSh := Lib.hid (fun W (h : W.cell? ⟨w.heap.size, 1, none⟩ = some (.slice B t.length k) ∧ Hid (Below w.heap.size w W)) => shiftS_c top tv t.length W (Kd.S_ext h.2.out H.out) hl (by omega) (by omega) (n_small (isQ_ok HQ.out).1))
          obtain ⟨r, hr⟩ : ∃ r, uni [] [(shift top t.length, t)] = r := ⟨_, rfl⟩
          rw [hr] at HV hU
          have HUn := Lib.hid (fun W sv av hs h1 (h : W.cell? ⟨w.heap.size, 1, none⟩ = some (.slice B t.length k) ∧ Hid (Below w.heap.size w W)) hb => unify_c _ n (w.heap.size + 1) [] sv av (.slice B t.length k) (shift top t.length) t r W hU hI hVl hs h1 (Kd.S_ext h.2.out H'.out) hb)
          have hst2 : ∀ W W' : World, Wrote (w.heap.size + 1) 115 W W' → (W.cell? ⟨w.heap.size, 1, none⟩ = some (.slice B t.length k) ∧ Hid (Below w.heap.size w W)) → (W'.cell? ⟨w.heap.size, 1, none⟩ = some (.slice B t.length k) ∧ Hid (Below w.heap.size w W')) := fun W W' hb h => ⟨(hb.bel.cell (p := ⟨w.heap.size, 1, none⟩) (Nat.lt_succ_self _)).trans h.1, Lib.hid (h.2.out.trans (hb.bel.mono (Nat.le_succ _)))⟩
          have hsz : ∀ W : World, (W.cell? ⟨w.heap.size, 1, none⟩ = some (.slice B t.length k) ∧ Hid (Below w.heap.size w W)) → w.heap.size + 1 ≤ W.heap.size := fun W h => World.block_lt_of_cell? W _ h.1
          have Hsz := Lib.hid hsz
          clear ho hc hsq hI hU hVl hsw hr ht40 hsz
          cases r with
          | none =>
            go_enter Tryz.func14, Tryz.ntmps14
            go_upto_region 5 with (go_at_call 24; (with_reducible refine (HT.out _ (bel_alloc (Below.refl _ _) _)).mono ?_); rintro e w1 ⟨rfl, hb⟩; obtain ⟨c0, c1, hb1⟩ := HBX.out _ hb; have HB1 := Lib.hid hb1; clear hb hb1)
            have hS0 := hst w1 w1.drew (bel_drew (Below.refl _ _)) ⟨c1, HB1⟩
            go_region_held3 (fun W => W.cell? ⟨w.heap.size, 1, none⟩ = some (.slice B t.length k) ∧ Hid (Below w.heap.size w W)) (assumption) (first | (go_at_call 26; refine (HO2.out _ (by assumption)).mono ?_; rintro e w2 ⟨rfl, hb2⟩; have hS1 := hst _ _ hb2 (by assumption); clear hb2) | (go_at_call 28; refine (hcan.out _ (by assumption)).mono ?_; rintro e w3 ⟨v3, rfl, hv3, hb3⟩; have hS3 := hst _ _ hb3 (by assumption); have HV3 := Lib.hid (fun W' hb' => Kd.S_ext (w' := W') hb' hv3); clear hb3 hv3) | (go_at_call 27; refine (hsam.out _ _ (by assumption) (HV3.out _ (by first | exact Below.refl _ _ | exact bel_drew (Below.refl _ _)))).mono ?_; rintro e w4 ⟨rfl, hb4⟩; have hS4 := hst _ _ hb4 (by assumption); clear hb4))
            clear hS0 hS1 hS3
            go_upto_region 7 with fail
            have hS0 := hst _ _ (bel_drew (Below.refl w4.heap.size w4)) hS4
            go_region_held3 (fun W => W.cell? ⟨w.heap.size, 1, none⟩ = some (.slice B t.length k) ∧ Hid (Below w.heap.size w W)) (first | assumption | (exact hst _ _ (bel_alloc (Below.refl _ _) _) (by assumption))) (first | (go_at_call 30; refine (HSh.out _ (by assumption)).mono ?_; rintro e w5 ⟨v5, rfl, hv5, hb5⟩; have hS5 := hst _ _ hb5 (by assumption); have HV5 := Lib.hid (fun W' hb' => Kd.S_ext (w' := W') hb' hv5); have HB5 := Lib.hid hb5; clear hb5 hv5) | (go_at_call 29; refine (HUn.out _ _ _ (by first | exact Kd.O_ext HB5.out (Kd.O_empty Kd.bind _ _ (Hsz.out _ (by assumption))) | exact Kd.O_empty Kd.bind _ _ (Hsz.out _ (by assumption))) (HV5.out _ (by first | exact Below.refl _ _ | exact bel_alloc (Below.refl _ _) _)) (by assumption) (Hsz.out _ (by assumption))).mono ?_; rintro e w6 ⟨rv, rfl, hw6⟩; have hS6 := hst2 _ _ hw6 (by assumption); clear hw6))
            all_goals
              have HB := hS6.2
              clear hS0 hst
              go_wp2
              go_ret
              exact ⟨ret_bool HV.out.symm, HB.out⟩
          | some s' =>
            go_enter Tryz.func14, Tryz.ntmps14
            go_upto_region 5 with (go_at_call 24; (with_reducible refine (HT.out _ (bel_alloc (Below.refl _ _) _)).mono ?_); rintro e w1 ⟨rfl, hb⟩; obtain ⟨c0, c1, hb1⟩ := HBX.out _ hb; have HB1 := Lib.hid hb1; clear hb hb1)
            have hS0 := hst w1 w1.drew (bel_drew (Below.refl _ _)) ⟨c1, HB1⟩
            go_region_held3 (fun W => W.cell? ⟨w.heap.size, 1, none⟩ = some (.slice B t.length k) ∧ Hid (Below w.heap.size w W)) (assumption) (first | (go_at_call 26; refine (HO2.out _ (by assumption)).mono ?_; rintro e w2 ⟨rfl, hb2⟩; have hS1 := hst _ _ hb2 (by assumption); clear hb2) | (go_at_call 28; refine (hcan.out _ (by assumption)).mono ?_; rintro e w3 ⟨v3, rfl, hv3, hb3⟩; have hS3 := hst _ _ hb3 (by assumption); have HV3 := Lib.hid (fun W' hb' => Kd.S_ext (w' := W') hb' hv3); clear hb3 hv3) | (go_at_call 27; refine (hsam.out _ _ (by assumption) (HV3.out _ (by first | exact Below.refl _ _ | exact bel_drew (Below.refl _ _)))).mono ?_; rintro e w4 ⟨rfl, hb4⟩; have hS4 := hst _ _ hb4 (by assumption); clear hb4))
            clear hS0 hS1 hS3
            go_upto_region 7 with fail
            have hS0 := hst _ _ (bel_drew (Below.refl w4.heap.size w4)) hS4
            go_region_held3 (fun W => W.cell? ⟨w.heap.size, 1, none⟩ = some (.slice B t.length k) ∧ Hid (Below w.heap.size w W)) (first | assumption | (exact hst _ _ (bel_alloc (Below.refl _ _) _) (by assumption))) (first | (go_at_call 30; refine (HSh.out _ (by assumption)).mono ?_; rintro e w5 ⟨v5, rfl, hv5, hb5⟩; have hS5 := hst _ _ hb5 (by assumption); have HV5 := Lib.hid (fun W' hb' => Kd.S_ext (w' := W') hb' hv5); have HB5 := Lib.hid hb5; clear hb5 hv5) | (go_at_call 29; refine (HUn.out _ _ _ (by first | exact Kd.O_ext HB5.out (Kd.O_empty Kd.bind _ _ (Hsz.out _ (by assumption))) | exact Kd.O_empty Kd.bind _ _ (Hsz.out _ (by assumption))) (HV5.out _ (by first | exact Below.refl _ _ | exact bel_alloc (Below.refl _ _) _)) (by assumption) (Hsz.out _ (by assumption))).mono ?_; rintro e w6 ⟨rv, ⟨rfl, -⟩, hw6⟩; have hS6 := hst2 _ _ hw6 (by assumption); clear hw6))
            all_goals
              have HB := hS6.2
              clear hS0 hst
              go_wp2
              go_ret
              exact ⟨ret_bool HV.out.symm, HB.out⟩
    · have e2 : (st != 2) = true := bne_iff_ne.2 h2
      have HI := Lib.hid (fun W => lIn_c st 3 5 W)
      by_cases h35 : 3 ≤ st ∧ st ≤ 5
      · have HV := Lib.hid (show outOk top st t = t.isEmpty by unfold outOk; rw [if_neg (by rw [HQ.out]; simp), if_pos h35])
        have hI : (decide (3 ≤ st) && decide (st ≤ 5)) = true := by rw [decide_eq_true h35.1, decide_eq_true h35.2]; rfl
        rw [hI] at HI
        have HE := Lib.hid (show (((t.length : Nat) : Int) == 0) = t.isEmpty by cases t <;> simp <;> try omega)
        obtain ⟨m, hm⟩ : ∃ m, t.length = m := ⟨_, rfl⟩
        have HM := Lib.hid hm
        rw [hm] at HBX HE ⊢
        clear hI h35 h2 hm
        go_enter Tryz.func14, Tryz.ntmps14
        go_wp2_with (first | (go_at_call 24; (with_reducible refine (HT.out _ (bel_alloc (Below.refl _ _) _)).mono ?_); rintro e w1 ⟨rfl, hb⟩; obtain ⟨c0, c1, hb1⟩ := HBX.out _ hb; have HB1 := Lib.hid hb1; clear hb hb1) | (go_at_call 25; (with_reducible refine (HI.out _).mono ?_); rintro e w2 ⟨rfl, rfl⟩))
        go_ret
        exact ⟨ret_bool (by rw [HV.out, ← HE.out]), HB1.out⟩
      · have HV := Lib.hid (show outOk top st t = false by unfold outOk; rw [if_neg (by rw [HQ.out]; simp), if_neg h35, if_pos h2])
        have hI : (decide (3 ≤ st) && decide (st ≤ 5)) = false := by
          cases hd : (decide (3 ≤ st) && decide (st ≤ 5)) with
          | false => rfl
          | true => simp at hd; exact absurd hd h35
        rw [hI] at HI
        clear hI h35 h2
        go_enter Tryz.func14, Tryz.ntmps14
        go_wp2_with (first | (go_at_call 24; (with_reducible refine (HT.out _ (bel_alloc (Below.refl _ _) _)).mono ?_); rintro e w1 ⟨rfl, hb⟩; obtain ⟨c0, c1, hb1⟩ := HBX.out _ hb; have HB1 := Lib.hid hb1; clear hb hb1) | (go_at_call 25; (with_reducible refine (HI.out _).mono ?_); rintro e w2 ⟨rfl, rfl⟩))
        go_ret
        exact ⟨ret_bool HV.out.symm, HB1.out⟩
end Go.Proofs.YtjnangiggnmkoaaGreatDoor
