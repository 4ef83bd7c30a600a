/- Lemmas and contracts for FnExactWldOk, part 20. -/
import Derived.BigQuiet
import Derived.Test.YtdoggcfdfkkedaaGreatDoorW19
import Derived.Test.YtdoggcfdfkkedaaGreatDoorW14
import Derived.Test.YtdoggcfdfkkedaaGreatDoorW05
import Derived.Test.YtdoggcfdfkkedaaGreatDoorW17
namespace Go.Proofs.YtdoggcfdfkkedaaGreatDoor
open Go.RowKit
set_option maxRecDepth 100000
set_option maxHeartbeats 8000000
set_option linter.unusedVariables false
theorem shapeIn_c (may : Trm → Bool) (g : Goal) (av bv cv : Value) (w : World) (hA : T0 w av g.a) (hB : T0 w bv g.b) (hC : T0 w cv g.c) (hf : fitG g)
    (HM : ∀ (W : World) (t : Trm) (v : Value), Below w.heap.size w W → T0 W v t → fitT t → Calls Tryz.prog 98 #[v] W fun e w' => e = .returned (.bool (may t)) ∧ Below W.heap.size W w') :
    Calls Tryz.prog 135 #[.agg #[.int .i64 g.k, av, bv, cv], .func (.func 98) #[] #[]] w fun e w' => e = .returned (.bool (shapeOk (fun t => trmOk t && may t) g.k g.a g.b g.c)) ∧ Below w.heap.size w w' := by
  obtain ⟨k, a, b, c⟩ := g
  have HB0 := Lib.hid (fun o => bel_alloc (Below.refl _ w) o)
  have HX := Lib.hid (fun n => gbox_at w k av bv cv (bel_drewN (Below.refl _ _) n))
  have HBX := Lib.hid (fun n => bel_drewN (bel_alloc (Below.refl _ w) (.cells #[.int .i64 k, av, bv, cv] 137)) n)
  have HTa := Lib.hid (fun W (hb : Below w.heap.size w W) => imOkS_c a av W (Kd.S_ext hb hA) (fit_len hf.1) hf.1.2)
  have HTb := Lib.hid (fun W (hb : Below w.heap.size w W) => imOkS_c b bv W (Kd.S_ext hb hB) (fit_len hf.2.1) hf.2.1.2)
  have HTc := Lib.hid (fun W (hb : Below w.heap.size w W) => imOkS_c c cv W (Kd.S_ext hb hC) (fit_len hf.2.2) hf.2.2.2)
  have HMa := Lib.hid (fun W (hb : Below w.heap.size w W) => HM W a av hb (Kd.S_ext hb hA) hf.1)
  have HMb := Lib.hid (fun W (hb : Below w.heap.size w W) => HM W b bv hb (Kd.S_ext hb hB) hf.2.1)
  have HMc := Lib.hid (fun W (hb : Below w.heap.size w W) => HM W c cv hb (Kd.S_ext hb hC) hf.2.2)
  have HCa := Lib.hid (fun W (hb : Below w.heap.size w W) => calledI_c a av W (Kd.S_ext hb hA) (fit_len hf.1) hf.1.2)
  have la := hf.1.1
  have lb := hf.2.1.1
  have lc := hf.2.2.1
  simp only at hA hB hC la lb lc
  clear hf HM
  obtain ⟨A1, n1, rfl, a1, a2, -⟩ := hA
  obtain ⟨A2, n2, rfl, b1, b2, -⟩ := hB
  obtain ⟨A3, n3, rfl, c1, c2, -⟩ := hC
  obtain ⟨ta, eta⟩ : ∃ q, trmOk a = q := ⟨_, rfl⟩
  obtain ⟨tb, etb⟩ : ∃ q, trmOk b = q := ⟨_, rfl⟩
  obtain ⟨tc, etc⟩ : ∃ q, trmOk c = q := ⟨_, rfl⟩
  obtain ⟨ma, ema⟩ : ∃ q, may a = q := ⟨_, rfl⟩
  obtain ⟨mb, emb⟩ : ∃ q, may b = q := ⟨_, rfl⟩
  obtain ⟨mc, emc⟩ : ∃ q, may c = q := ⟨_, rfl⟩
  obtain ⟨za, eza⟩ : ∃ q, ((a.length : Int) == 0) = q := ⟨_, rfl⟩
  obtain ⟨zb, ezb⟩ : ∃ q, ((b.length : Int) == 0) = q := ⟨_, rfl⟩
  obtain ⟨zc, ezc⟩ : ∃ q, ((c.length : Int) == 0) = q := ⟨_, rfl⟩
  have s2 : ((b.length : Int) + (c.length : Int) == 0) = (zb && zc) := by rw [← ezb, ← ezc, Bool.eq_iff_iff]; simp only [Bool.and_eq_true, beq_iff_eq]; omega
  have s3 : ((a.length : Int) + (b.length : Int) + (c.length : Int) == 0) = (za && zb && zc) := by rw [← eza, ← ezb, ← ezc, Bool.eq_iff_iff]; simp only [Bool.and_eq_true, beq_iff_eq]; omega
  have HV := Lib.hid (show shapeOk (fun t => trmOk t && may t) k a b c = (if k = 1 ∨ k = 6 then (ta && ma) && calls a && (zb && zc) else if k = 3 then (za && zb && zc) else if k = 2 ∨ k = 4 then (ta && ma) && (tb && mb) && zc else if k = 5 then (ta && ma) && (tb && mb) && (tc && mc) else false) by
    unfold shapeOk; simp only [eta, etb, etc, ema, emb, emc, s2, s3, ezc])
  rw [eta] at HTa HCa
  rw [etb] at HTb
  rw [etc] at HTc
  rw [ema] at HMa
  rw [emb] at HMb
  rw [emc] at HMc
  clear s2 s3 eta etb etc ema emb emc
  show Calls _ _ _ _ fun e w' => e = .returned (.bool (shapeOk (fun t => trmOk t && may t) k a b c)) ∧ Below w.heap.size w w'
  rw [HV.out]
  clear HV
  by_cases k1 : k = 1 ∨ k = 6
  · rw [if_pos k1]
    obtain ⟨ca, eca⟩ : ∃ q, (ta && calls a) = q := ⟨_, rfl⟩
    rw [eca] at HCa
    rw [show ((ta && ma) && calls a && (zb && zc)) = (ca && ma && (zb && zc)) by rw [← eca]; generalize calls a = q; cases ta <;> cases ma <;> cases q <;> rfl]
    clear eca HTa HTb HTc HMb HMc
    rcases k1 with rfl | rfl
    all_goals
      cases ca
      all_goals
        go_enter Tryz.func135, Tryz.ntmps135
        go_upto_region 1 with fail
        go_quiet (fail)
        rename_i nq
        obtain ⟨x0, x1, x2, x3⟩ := HX.out nq
        have HB1 := Lib.hid (HBX.out nq)
        clear HX HBX HB0
        generalize World.drewN _ nq = W1 at *
        go_wp2_with (first | (go_at_call 61; (with_reducible refine (HCa.out _ HB1.out).mono ?_); rintro e w1 ⟨rfl, hb1⟩; have y1 := cell_keep hb1 x1; have HB2 := Lib.hid (bel_trans HB1.out hb1); clear hb1) | (go_at_call 98; (with_reducible refine (HMa.out _ HB2.out).mono ?_); rintro e w2 ⟨rfl, hb2⟩; have HB3 := Lib.hid (bel_trans HB2.out hb2); clear hb2))
        all_goals
          go_ret
          first | exact ⟨rfl, HB3.out⟩ | exact ⟨rfl, HB2.out⟩ | exact ⟨rfl, HB1.out⟩ | exact ⟨rfl, bel_trans HB1.out hw2.bel⟩ | exact ⟨ret_bool (by cases ma <;> cases mb <;> cases mc <;> cases za <;> cases zb <;> cases zc <;> first | rfl | contradiction), by first | exact HB3.out | exact HB2.out | exact HB1.out | exact bel_trans HB1.out hw2.bel⟩
  · rw [if_neg k1]
    have e1 : (k == 1) = false := beq_eq_false_iff_ne.2 (fun h => k1 (.inl h))
    have e6 : (k == 6) = false := beq_eq_false_iff_ne.2 (fun h => k1 (.inr h))
    by_cases k3 : k = 3
    · subst k3
      rw [if_pos rfl]
      clear HTa HTb HTc HMa HMb HMc HCa k1 e1 e6
      go_enter Tryz.func135, Tryz.ntmps135
      go_upto_region 1 with fail
      go_quiet (fail)
      rename_i nq
      obtain ⟨x0, x1, x2, x3⟩ := HX.out nq
      have HB1 := Lib.hid (HBX.out nq)
      clear HX HBX HB0
      generalize World.drewN _ nq = W1 at *
      go_wp2
      all_goals
        go_ret
        first | exact ⟨rfl, HB3.out⟩ | exact ⟨rfl, HB2.out⟩ | exact ⟨rfl, HB1.out⟩ | exact ⟨rfl, bel_trans HB1.out hw2.bel⟩ | exact ⟨ret_bool (by cases ma <;> cases mb <;> cases mc <;> cases za <;> cases zb <;> cases zc <;> first | rfl | contradiction), by first | exact HB3.out | exact HB2.out | exact HB1.out | exact bel_trans HB1.out hw2.bel⟩
    · rw [if_neg k3]
      have e3 : (k == 3) = false := beq_eq_false_iff_ne.2 k3
      by_cases k24 : k = 2 ∨ k = 4
      · rw [if_pos k24]
        clear k1 k3 e1 e6 e3 HTc HMc HCa
        rcases k24 with rfl | rfl
        all_goals (cases ta <;> cases tb)
        all_goals
          go_enter Tryz.func135, Tryz.ntmps135
          go_upto_region 1 with fail
          go_quiet (fail)
          rename_i nq
          obtain ⟨x0, x1, x2, x3⟩ := HX.out nq
          have HB1 := Lib.hid (HBX.out nq)
          clear HX HBX HB0
          generalize World.drewN _ nq = W1 at *
          go_upto_region 9 with fail
          refine wp_region_below (by kernel_rfl) (by kernel_rfl) ?_; (repeat (first | go_big_quiet_skip | (go_big_quiet_want; first | fail | (refine quiet_cell rfl rfl (fun W v hv => (by go_simp)) (fun W hW => BelC.cell hW (by assumption)) ?_; go_big_quiet_on; simp only [Act.put, List.setIfInBounds_toArray, List.set_cons_zero, List.set_cons_succ]) | (go_big_quiet_op; first | go_big_quiet_on | ((first | with_reducible refine ⟨_, fun W hW => (HTa.out W (bel_trans HB1.out hW.bel)).mono (fun e w' hh => ⟨hh.1, hW.step hh.2⟩), ?_⟩ | with_reducible refine ⟨_, fun W hW => (HMa.out W (bel_trans HB1.out hW.bel)).mono (fun e w' hh => ⟨hh.1, hW.step hh.2⟩), ?_⟩ | with_reducible refine ⟨_, fun W hW => (HTb.out W (bel_trans HB1.out hW.bel)).mono (fun e w' hh => ⟨hh.1, hW.step hh.2⟩), ?_⟩ | with_reducible refine ⟨_, fun W hW => (HMb.out W (bel_trans HB1.out hW.bel)).mono (fun e w' hh => ⟨hh.1, hW.step hh.2⟩), ?_⟩ | with_reducible refine ⟨_, fun W hW => (HTc.out W (bel_trans HB1.out hW.bel)).mono (fun e w' hh => ⟨hh.1, hW.step hh.2⟩), ?_⟩ | with_reducible refine ⟨_, fun W hW => (HMc.out W (bel_trans HB1.out hW.bel)).mono (fun e w' hh => ⟨hh.1, hW.step hh.2⟩), ?_⟩); go_big_quiet_on) | (refine ⟨_, fun _ _ => rfl, ?_⟩; go_big_quiet_on))))); refine wpQuiet_nil ?_; intro w2 hw2
          go_wp2
          all_goals
            go_ret
            first | exact ⟨rfl, HB3.out⟩ | exact ⟨rfl, HB2.out⟩ | exact ⟨rfl, HB1.out⟩ | exact ⟨rfl, bel_trans HB1.out hw2.bel⟩ | exact ⟨ret_bool (by cases ma <;> cases mb <;> cases mc <;> cases za <;> cases zb <;> cases zc <;> first | rfl | contradiction), by first | exact HB3.out | exact HB2.out | exact HB1.out | exact bel_trans HB1.out hw2.bel⟩
      · rw [if_neg k24]
        have e2 : (k == 2) = false := beq_eq_false_iff_ne.2 (fun h => k24 (.inl h))
        have e4 : (k == 4) = false := beq_eq_false_iff_ne.2 (fun h => k24 (.inr h))
        by_cases k5 : k = 5
        · subst k5
          rw [if_pos rfl]
          clear k1 k3 e1 e6 e3 e2 e4 k24 HCa
          cases ta <;> cases tb <;> cases tc
          all_goals
            go_enter Tryz.func135, Tryz.ntmps135
            go_upto_region 1 with fail
            go_quiet (fail)
            rename_i nq
            obtain ⟨x0, x1, x2, x3⟩ := HX.out nq
            have HB1 := Lib.hid (HBX.out nq)
            clear HX HBX HB0
            generalize World.drewN _ nq = W1 at *
            go_upto_region 11 with fail
            refine wp_region_below (by kernel_rfl) (by kernel_rfl) ?_; (repeat (first | go_big_quiet_skip | (go_big_quiet_want; first | fail | (refine quiet_cell rfl rfl (fun W v hv => (by go_simp)) (fun W hW => BelC.cell hW (by assumption)) ?_; go_big_quiet_on; simp only [Act.put, List.setIfInBounds_toArray, List.set_cons_zero, List.set_cons_succ]) | (go_big_quiet_op; first | go_big_quiet_on | ((first | with_reducible refine ⟨_, fun W hW => (HTa.out W (bel_trans HB1.out hW.bel)).mono (fun e w' hh => ⟨hh.1, hW.step hh.2⟩), ?_⟩ | with_reducible refine ⟨_, fun W hW => (HMa.out W (bel_trans HB1.out hW.bel)).mono (fun e w' hh => ⟨hh.1, hW.step hh.2⟩), ?_⟩ | with_reducible refine ⟨_, fun W hW => (HTb.out W (bel_trans HB1.out hW.bel)).mono (fun e w' hh => ⟨hh.1, hW.step hh.2⟩), ?_⟩ | with_reducible refine ⟨_, fun W hW => (HMb.out W (bel_trans HB1.out hW.bel)).mono (fun e w' hh => ⟨hh.1, hW.step hh.2⟩), ?_⟩ | with_reducible refine ⟨_, fun W hW => (HTc.out W (bel_trans HB1.out hW.bel)).mono (fun e w' hh => ⟨hh.1, hW.step hh.2⟩), ?_⟩ | with_reducible refine ⟨_, fun W hW => (HMc.out W (bel_trans HB1.out hW.bel)).mono (fun e w' hh => ⟨hh.1, hW.step hh.2⟩), ?_⟩); go_big_quiet_on) | (refine ⟨_, fun _ _ => rfl, ?_⟩; go_big_quiet_on))))); refine wpQuiet_nil ?_; intro w2 hw2
            go_wp2
            all_goals
              go_ret
              first | exact ⟨rfl, HB3.out⟩ | exact ⟨rfl, HB2.out⟩ | exact ⟨rfl, HB1.out⟩ | exact ⟨rfl, bel_trans HB1.out hw2.bel⟩ | exact ⟨ret_bool (by cases ma <;> cases mb <;> cases mc <;> cases za <;> cases zb <;> cases zc <;> first | rfl | contradiction), by first | exact HB3.out | exact HB2.out | exact HB1.out | exact bel_trans HB1.out hw2.bel⟩
        · rw [if_neg k5]
          have e5 : (k == 5) = false := beq_eq_false_iff_ne.2 k5
          clear k1 k3 k24 k5 HTa HTb HTc HMa HMb HMc HCa
          go_enter Tryz.func135, Tryz.ntmps135
          go_upto_region 1 with fail
          go_quiet (fail)
          rename_i nq
          obtain ⟨x0, x1, x2, x3⟩ := HX.out nq
          have HB1 := Lib.hid (HBX.out nq)
          clear HX HBX HB0
          generalize World.drewN _ nq = W1 at *
          go_wp2
          go_ret
          exact ⟨rfl, HB1.out⟩
theorem shapeGo_c (may : Trm → Bool) (pb : Addr) (g : Goal) (av bv cv : Value) (w : World) (hA : T0 w av g.a) (hB : T0 w bv g.b) (hC : T0 w cv g.c) (hf : fitG g)
    (HM : ∀ (W : World) (t : Trm) (v : Value), Below w.heap.size w W → T0 W v t → fitT t → Calls Tryz.prog 177 #[v, .pointer (some pb)] W fun e w' => e = .returned (.bool (may t)) ∧ Below W.heap.size W w') :
    Calls Tryz.prog 135 #[.agg #[.int .i64 g.k, av, bv, cv], .func (.func 177) #[] #[.pointer (some pb)]] w fun e w' => e = .returned (.bool (shapeOk (fun t => trmOk t && may t) g.k g.a g.b g.c)) ∧ Below w.heap.size w w' := by
  obtain ⟨k, a, b, c⟩ := g
  have HB0 := Lib.hid (fun o => bel_alloc (Below.refl _ w) o)
  have HX := Lib.hid (fun n => gbox_at w k av bv cv (bel_drewN (Below.refl _ _) n))
  have HBX := Lib.hid (fun n => bel_drewN (bel_alloc (Below.refl _ w) (.cells #[.int .i64 k, av, bv, cv] 137)) n)
  have HTa := Lib.hid (fun W (hb : Below w.heap.size w W) => imOkS_c a av W (Kd.S_ext hb hA) (fit_len hf.1) hf.1.2)
  have HTb := Lib.hid (fun W (hb : Below w.heap.size w W) => imOkS_c b bv W (Kd.S_ext hb hB) (fit_len hf.2.1) hf.2.1.2)
  have HTc := Lib.hid (fun W (hb : Below w.heap.size w W) => imOkS_c c cv W (Kd.S_ext hb hC) (fit_len hf.2.2) hf.2.2.2)
  have HMa := Lib.hid (fun W (hb : Below w.heap.size w W) => HM W a av hb (Kd.S_ext hb hA) hf.1)
  have HMb := Lib.hid (fun W (hb : Below w.heap.size w W) => HM W b bv hb (Kd.S_ext hb hB) hf.2.1)
  have HMc := Lib.hid (fun W (hb : Below w.heap.size w W) => HM W c cv hb (Kd.S_ext hb hC) hf.2.2)
  have HCa := Lib.hid (fun W (hb : Below w.heap.size w W) => calledI_c a av W (Kd.S_ext hb hA) (fit_len hf.1) hf.1.2)
  have la := hf.1.1
  have lb := hf.2.1.1
  have lc := hf.2.2.1
  simp only at hA hB hC la lb lc
  clear hf HM
  obtain ⟨A1, n1, rfl, a1, a2, -⟩ := hA
  obtain ⟨A2, n2, rfl, b1, b2, -⟩ := hB
  obtain ⟨A3, n3, rfl, c1, c2, -⟩ := hC
  obtain ⟨ta, eta⟩ : ∃ q, trmOk a = q := ⟨_, rfl⟩
  obtain ⟨tb, etb⟩ : ∃ q, trmOk b = q := ⟨_, rfl⟩
  obtain ⟨tc, etc⟩ : ∃ q, trmOk c = q := ⟨_, rfl⟩
  obtain ⟨ma, ema⟩ : ∃ q, may a = q := ⟨_, rfl⟩
  obtain ⟨mb, emb⟩ : ∃ q, may b = q := ⟨_, rfl⟩
  obtain ⟨mc, emc⟩ : ∃ q, may c = q := ⟨_, rfl⟩
  obtain ⟨za, eza⟩ : ∃ q, ((a.length : Int) == 0) = q := ⟨_, rfl⟩
  obtain ⟨zb, ezb⟩ : ∃ q, ((b.length : Int) == 0) = q := ⟨_, rfl⟩
  obtain ⟨zc, ezc⟩ : ∃ q, ((c.length : Int) == 0) = q := ⟨_, rfl⟩
  have s2 : ((b.length : Int) + (c.length : Int) == 0) = (zb && zc) := by rw [← ezb, ← ezc, Bool.eq_iff_iff]; simp only [Bool.and_eq_true, beq_iff_eq]; omega
  have s3 : ((a.length : Int) + (b.length : Int) + (c.length : Int) == 0) = (za && zb && zc) := by rw [← eza, ← ezb, ← ezc, Bool.eq_iff_iff]; simp only [Bool.and_eq_true, beq_iff_eq]; omega
  have HV := Lib.hid (show shapeOk (fun t => trmOk t && may t) k a b c = (if k = 1 ∨ k = 6 then (ta && ma) && calls a && (zb && zc) else if k = 3 then (za && zb && zc) else if k = 2 ∨ k = 4 then (ta && ma) && (tb && mb) && zc else if k = 5 then (ta && ma) && (tb && mb) && (tc && mc) else false) by
    unfold shapeOk; simp only [eta, etb, etc, ema, emb, emc, s2, s3, ezc])
  rw [eta] at HTa HCa
  rw [etb] at HTb
  rw [etc] at HTc
  rw [ema] at HMa
  rw [emb] at HMb
  rw [emc] at HMc
  clear s2 s3 eta etb etc ema emb emc
  show Calls _ _ _ _ fun e w' => e = .returned (.bool (shapeOk (fun t => trmOk t && may t) k a b c)) ∧ Below w.heap.size w w'
  rw [HV.out]
  clear HV
  by_cases k1 : k = 1 ∨ k = 6
  · rw [if_pos k1]
    obtain ⟨ca, eca⟩ : ∃ q, (ta && calls a) = q := ⟨_, rfl⟩
    rw [eca] at HCa
    rw [show ((ta && ma) && calls a && (zb && zc)) = (ca && ma && (zb && zc)) by rw [← eca]; generalize calls a = q; cases ta <;> cases ma <;> cases q <;> rfl]
    clear eca HTa HTb HTc HMb HMc
    rcases k1 with rfl | rfl
    all_goals
      cases ca
      all_goals
        go_enter Tryz.func135, Tryz.ntmps135
        go_upto_region 1 with fail
        go_quiet (fail)
        rename_i nq
        obtain ⟨x0, x1, x2, x3⟩ := HX.out nq
        have HB1 := Lib.hid (HBX.out nq)
        clear HX HBX HB0
        generalize World.drewN _ nq = W1 at *
        go_wp2_with (first | (go_at_call 61; (with_reducible refine (HCa.out _ HB1.out).mono ?_); rintro e w1 ⟨rfl, hb1⟩; have y1 := cell_keep hb1 x1; have HB2 := Lib.hid (bel_trans HB1.out hb1); clear hb1) | (go_at_call 177; (with_reducible refine (HMa.out _ HB2.out).mono ?_); rintro e w2 ⟨rfl, hb2⟩; have HB3 := Lib.hid (bel_trans HB2.out hb2); clear hb2))
        all_goals
          go_ret
          first | exact ⟨rfl, HB3.out⟩ | exact ⟨rfl, HB2.out⟩ | exact ⟨rfl, HB1.out⟩ | exact ⟨rfl, bel_trans HB1.out hw2.bel⟩ | exact ⟨ret_bool (by cases ma <;> cases mb <;> cases mc <;> cases za <;> cases zb <;> cases zc <;> first | rfl | contradiction), by first | exact HB3.out | exact HB2.out | exact HB1.out | exact bel_trans HB1.out hw2.bel⟩
  · rw [if_neg k1]
    have e1 : (k == 1) = false := beq_eq_false_iff_ne.2 (fun h => k1 (.inl h))
    have e6 : (k == 6) = false := beq_eq_false_iff_ne.2 (fun h => k1 (.inr h))
    by_cases k3 : k = 3
    · subst k3
      rw [if_pos rfl]
      clear HTa HTb HTc HMa HMb HMc HCa k1 e1 e6
      go_enter Tryz.func135, Tryz.ntmps135
      go_upto_region 1 with fail
      go_quiet (fail)
      rename_i nq
      obtain ⟨x0, x1, x2, x3⟩ := HX.out nq
      have HB1 := Lib.hid (HBX.out nq)
      clear HX HBX HB0
      generalize World.drewN _ nq = W1 at *
      go_wp2
      all_goals
        go_ret
        first | exact ⟨rfl, HB3.out⟩ | exact ⟨rfl, HB2.out⟩ | exact ⟨rfl, HB1.out⟩ | exact ⟨rfl, bel_trans HB1.out hw2.bel⟩ | exact ⟨ret_bool (by cases ma <;> cases mb <;> cases mc <;> cases za <;> cases zb <;> cases zc <;> first | rfl | contradiction), by first | exact HB3.out | exact HB2.out | exact HB1.out | exact bel_trans HB1.out hw2.bel⟩
    · rw [if_neg k3]
      have e3 : (k == 3) = false := beq_eq_false_iff_ne.2 k3
      by_cases k24 : k = 2 ∨ k = 4
      · rw [if_pos k24]
        clear k1 k3 e1 e6 e3 HTc HMc HCa
        rcases k24 with rfl | rfl
        all_goals (cases ta <;> cases tb)
        all_goals
          go_enter Tryz.func135, Tryz.ntmps135
          go_upto_region 1 with fail
          go_quiet (fail)
          rename_i nq
          obtain ⟨x0, x1, x2, x3⟩ := HX.out nq
          have HB1 := Lib.hid (HBX.out nq)
          clear HX HBX HB0
          generalize World.drewN _ nq = W1 at *
          go_upto_region 9 with fail
          refine wp_region_below (by kernel_rfl) (by kernel_rfl) ?_; (repeat (first | go_big_quiet_skip | (go_big_quiet_want; first | fail | (refine quiet_cell rfl rfl (fun W v hv => (by go_simp)) (fun W hW => BelC.cell hW (by assumption)) ?_; go_big_quiet_on; simp only [Act.put, List.setIfInBounds_toArray, List.set_cons_zero, List.set_cons_succ]) | (go_big_quiet_op; first | go_big_quiet_on | ((first | with_reducible refine ⟨_, fun W hW => (HTa.out W (bel_trans HB1.out hW.bel)).mono (fun e w' hh => ⟨hh.1, hW.step hh.2⟩), ?_⟩ | with_reducible refine ⟨_, fun W hW => (HMa.out W (bel_trans HB1.out hW.bel)).mono (fun e w' hh => ⟨hh.1, hW.step hh.2⟩), ?_⟩ | with_reducible refine ⟨_, fun W hW => (HTb.out W (bel_trans HB1.out hW.bel)).mono (fun e w' hh => ⟨hh.1, hW.step hh.2⟩), ?_⟩ | with_reducible refine ⟨_, fun W hW => (HMb.out W (bel_trans HB1.out hW.bel)).mono (fun e w' hh => ⟨hh.1, hW.step hh.2⟩), ?_⟩ | with_reducible refine ⟨_, fun W hW => (HTc.out W (bel_trans HB1.out hW.bel)).mono (fun e w' hh => ⟨hh.1, hW.step hh.2⟩), ?_⟩ | with_reducible refine ⟨_, fun W hW => (HMc.out W (bel_trans HB1.out hW.bel)).mono (fun e w' hh => ⟨hh.1, hW.step hh.2⟩), ?_⟩); go_big_quiet_on) | (refine ⟨_, fun _ _ => rfl, ?_⟩; go_big_quiet_on))))); refine wpQuiet_nil ?_; intro w2 hw2
          go_wp2
          all_goals
            go_ret
            first | exact ⟨rfl, HB3.out⟩ | exact ⟨rfl, HB2.out⟩ | exact ⟨rfl, HB1.out⟩ | exact ⟨rfl, bel_trans HB1.out hw2.bel⟩ | exact ⟨ret_bool (by cases ma <;> cases mb <;> cases mc <;> cases za <;> cases zb <;> cases zc <;> first | rfl | contradiction), by first | exact HB3.out | exact HB2.out | exact HB1.out | exact bel_trans HB1.out hw2.bel⟩
      · rw [if_neg k24]
        have e2 : (k == 2) = false := beq_eq_false_iff_ne.2 (fun h => k24 (.inl h))
        have e4 : (k == 4) = false := beq_eq_false_iff_ne.2 (fun h => k24 (.inr h))
        by_cases k5 : k = 5
        · subst k5
          rw [if_pos rfl]
          clear k1 k3 e1 e6 e3 e2 e4 k24 HCa
          cases ta <;> cases tb <;> cases tc
          all_goals
            go_enter Tryz.func135, Tryz.ntmps135
            go_upto_region 1 with fail
            go_quiet (fail)
            rename_i nq
            obtain ⟨x0, x1, x2, x3⟩ := HX.out nq
            have HB1 := Lib.hid (HBX.out nq)
            clear HX HBX HB0
            generalize World.drewN _ nq = W1 at *
            go_upto_region 11 with fail
            refine wp_region_below (by kernel_rfl) (by kernel_rfl) ?_; (repeat (first | go_big_quiet_skip | (go_big_quiet_want; first | fail | (refine quiet_cell rfl rfl (fun W v hv => (by go_simp)) (fun W hW => BelC.cell hW (by assumption)) ?_; go_big_quiet_on; simp only [Act.put, List.setIfInBounds_toArray, List.set_cons_zero, List.set_cons_succ]) | (go_big_quiet_op; first | go_big_quiet_on | ((first | with_reducible refine ⟨_, fun W hW => (HTa.out W (bel_trans HB1.out hW.bel)).mono (fun e w' hh => ⟨hh.1, hW.step hh.2⟩), ?_⟩ | with_reducible refine ⟨_, fun W hW => (HMa.out W (bel_trans HB1.out hW.bel)).mono (fun e w' hh => ⟨hh.1, hW.step hh.2⟩), ?_⟩ | with_reducible refine ⟨_, fun W hW => (HTb.out W (bel_trans HB1.out hW.bel)).mono (fun e w' hh => ⟨hh.1, hW.step hh.2⟩), ?_⟩ | with_reducible refine ⟨_, fun W hW => (HMb.out W (bel_trans HB1.out hW.bel)).mono (fun e w' hh => ⟨hh.1, hW.step hh.2⟩), ?_⟩ | with_reducible refine ⟨_, fun W hW => (HTc.out W (bel_trans HB1.out hW.bel)).mono (fun e w' hh => ⟨hh.1, hW.step hh.2⟩), ?_⟩ | with_reducible refine ⟨_, fun W hW => (HMc.out W (bel_trans HB1.out hW.bel)).mono (fun e w' hh => ⟨hh.1, hW.step hh.2⟩), ?_⟩); go_big_quiet_on) | (refine ⟨_, fun _ _ => rfl, ?_⟩; go_big_quiet_on))))); refine wpQuiet_nil ?_; intro w2 hw2
            go_wp2
            all_goals
              go_ret
              first | exact ⟨rfl, HB3.out⟩ | exact ⟨rfl, HB2.out⟩ | exact ⟨rfl, HB1.out⟩ | exact ⟨rfl, bel_trans HB1.out hw2.bel⟩ | exact ⟨ret_bool (by cases ma <;> cases mb <;> cases mc <;> cases za <;> cases zb <;> cases zc <;> first | rfl | contradiction), by first | exact HB3.out | exact HB2.out | exact HB1.out | exact bel_trans HB1.out hw2.bel⟩
        · rw [if_neg k5]
          have e5 : (k == 5) = false := beq_eq_false_iff_ne.2 k5
          clear k1 k3 k24 k5 HTa HTb HTc HMa HMb HMc HCa
          go_enter Tryz.func135, Tryz.ntmps135
          go_upto_region 1 with fail
          go_quiet (fail)
          rename_i nq
          obtain ⟨x0, x1, x2, x3⟩ := HX.out nq
          have HB1 := Lib.hid (HBX.out nq)
          clear HX HBX HB0
          generalize World.drewN _ nq = W1 at *
          go_wp2
          go_ret
          exact ⟨rfl, HB1.out⟩
end Go.Proofs.YtdoggcfdfkkedaaGreatDoor
namespace Go.Proofs.YtdoggcfdfkkedaaGreatDoor
open Go.RowKit
set_option maxRecDepth 100000
set_option maxHeartbeats 4000000
set_option linter.unusedVariables false
theorem shape_may (k : Int) (a b c : Trm) : shapeOk (fun t => trmOk t && mayCl t) k a b c = shapeOk inCl k a b c := by
  rw [show (fun t => trmOk t && mayCl t) = inCl from funext inCl_may]
theorem goalI_c (g : Goal) (av bv cv : Value) (w : World) (hA : T0 w av g.a) (hB : T0 w bv g.b) (hC : T0 w cv g.c) (hf : fitG g) :
    Calls Tryz.prog 97 #[.agg #[.int .i64 g.k, av, bv, cv]] w fun e w' => e = .returned (.bool (goalOk g.k g.a g.b g.c)) ∧ Below w.heap.size w w' := by
  have HS := Lib.hid (fun W (hb : Below w.heap.size w W) => shapeIn_c mayCl g av bv cv W (Kd.S_ext hb hA) (Kd.S_ext hb hB) (Kd.S_ext hb hC) hf (fun W' t v hb' ht hft => inClI_c t v W' ht (fit_len hft)))
  rw [shape_may] at HS
  have H0 := Lib.hid (fun o => bel_alloc (Below.refl _ w) o)
  obtain ⟨k, a, b, c⟩ := g
  rw [goal_shape]
  simp only at HS ⊢
  obtain ⟨q, hq⟩ : ∃ q, shapeOk inCl k a b c = q := ⟨_, rfl⟩
  rw [hq] at HS ⊢
  clear hA hB hC hf hq
  by_cases h6 : k = 6
  · subst h6
    go_enter Tryz.func97, Tryz.ntmps97
    go_wp2
    go_ret
    exact ⟨rfl, H0.out _⟩
  · have e6 : (k != 6) = true := bne_iff_ne.2 h6
    rw [decide_eq_false h6]
    go_enter Tryz.func97, Tryz.ntmps97
    go_wp2_with (go_at_call 135; (with_reducible refine (HS.out _ (H0.out _)).mono ?_); rintro e w1 ⟨rfl, hb⟩)
    all_goals
      go_ret
      exact ⟨rfl, bel_trans (H0.out _) hb⟩
theorem clause1_c (g : Goal) (av bv cv : Value) (w : World) (hA : T0 w av g.a) (hB : T0 w bv g.b) (hC : T0 w cv g.c) (hf : fitG g) :
    Calls Tryz.prog 96 #[.agg #[.int .i64 g.k, av, bv, cv]] w fun e w' => e = .returned (.bool (!(goalOk g.k g.a g.b g.c))) ∧ Below w.heap.size w w' := by
  have HS := Lib.hid (fun W (hb : Below w.heap.size w W) => goalI_c g av bv cv W (Kd.S_ext hb hA) (Kd.S_ext hb hB) (Kd.S_ext hb hC) hf)
  have H0 := Lib.hid (fun o => bel_alloc (Below.refl _ w) o)
  obtain ⟨k, a, b, c⟩ := g
  simp only at HS ⊢
  obtain ⟨q, hq⟩ : ∃ q, goalOk k a b c = q := ⟨_, rfl⟩
  rw [hq] at HS ⊢
  clear hA hB hC hf hq
  go_enter Tryz.func96, Tryz.ntmps96
  go_wp2_with (go_at_call 97; (with_reducible refine (HS.out _ (H0.out _)).mono ?_); rintro e w1 ⟨rfl, hb⟩)
  go_ret
  exact ⟨rfl, bel_trans (H0.out _) hb⟩
theorem any_not {α : Type} (f : α → Bool) (l : List α) : l.any (fun x => !(f x)) = !(l.all f) := by
  induction l with
  | nil => rfl
  | cons a l ih => rw [List.any_cons, List.all_cons, ih]; cases f a <;> rfl
theorem cbox_at (w : World) (hv bv : Value) {w1 : World} (hb : Below (w.alloc (.cells #[hv, bv] 92)).heap.size (w.alloc (.cells #[hv, bv] 92)) w1) :
    w1.cell? ⟨w.heap.size, 0, none⟩ = some hv ∧ w1.cell? ⟨w.heap.size, 1, none⟩ = some bv := by
  have h := heap_alloc_new w (.cells #[hv, bv] 92)
  exact ⟨cell_keep hb (Lib.cell_of_heap h 0), cell_keep hb (Lib.cell_of_heap h 1)⟩
theorem clauseI_c (x : Clause) (hv bv : Value) (w : World) (hH : T0 w hv x.head) (hB : Kd.goal.S 137 w bv x.body) (hf : fitC x) :
    Calls Tryz.prog 59 #[.agg #[hv, bv]] w fun e w' => e = .returned (.bool (clauseOk x)) ∧ Below w.heap.size w w' := by
  have HX := Lib.hid (fun w1 => cbox_at w hv bv (w1 := w1))
  have H0 := Lib.hid (fun o => bel_alloc (Below.refl _ w) o)
  have HCa := Lib.hid (fun W (hb : Below w.heap.size w W) => calledI_c x.head hv W (Kd.S_ext hb hH) (fit_len hf.1) hf.1.2)
  have HIn := Lib.hid (fun W (hb : Below w.heap.size w W) => inClI_c x.head hv W (Kd.S_ext hb hH) (fit_len hf.1))
  have lb := hf.2.1
  have hBf := hf.2.2
  clear hH
  obtain ⟨B, n, rfl, b1, b2, hC⟩ := hB
  have HAll := Lib.hid (fun W (hb : Below w.heap.size w W) => cg_con (fun g => !(goalOk g.k g.a g.b g.c)) x.body B n W (Kd.C_ext hb hC) (by omega) (fun W' y hy hb' av bv cv ha hb2 hc => clause1_c y av bv cv W' ha hb2 hc (hBf y hy)))
  rw [any_not] at HAll
  have HV := Lib.hid (show clauseOk x = ((trmOk x.head && calls x.head) && mayCl x.head && decide (x.body.length ≤ 4) && x.body.all (fun g => goalOk g.k g.a g.b g.c)) by
    unfold clauseOk; rw [← inCl_may]; generalize trmOk x.head = q1; generalize mayCl x.head = q2; generalize calls x.head = q3; cases q1 <;> cases q2 <;> cases q3 <;> rfl)
  obtain ⟨q1, h1⟩ : ∃ q, (trmOk x.head && calls x.head) = q := ⟨_, rfl⟩
  obtain ⟨q2, h2⟩ : ∃ q, mayCl x.head = q := ⟨_, rfl⟩
  obtain ⟨q4, h4⟩ : ∃ q, x.body.all (fun g => goalOk g.k g.a g.b g.c) = q := ⟨_, rfl⟩
  rw [h1, h2, h4] at HV
  rw [h1] at HCa
  rw [h2] at HIn
  rw [h4] at HAll
  rw [HV.out]
  have e4 : decide ((x.body.length : Int) ≤ 4) = decide (x.body.length ≤ 4) := decide_eq_decide.2 (by omega)
  obtain ⟨q3, h3⟩ : ∃ q, decide (x.body.length ≤ 4) = q := ⟨_, rfl⟩
  rw [h3] at e4
  rw [h3]
  clear h1 h2 h3 h4 HV hf hBf hC
  cases q1 <;> cases q2 <;> cases q3
  all_goals
    go_enter Tryz.func59, Tryz.ntmps59
    go_wp2_with (first | (go_at_call 61; (with_reducible refine (HCa.out _ (H0.out _)).mono ?_); rintro e w1 ⟨rfl, hb1⟩; obtain ⟨x0, x1⟩ := HX.out _ hb1; have HB1 := Lib.hid (bel_trans (H0.out _) hb1); clear hb1) | (go_at_call 98; (with_reducible refine (HIn.out _ HB1.out).mono ?_); rintro e w2 ⟨rfl, hb2⟩; have y1 := cell_keep hb2 x1; have HB2 := Lib.hid (bel_trans HB1.out hb2); clear hb2) | (go_at_call 99; (with_reducible refine (HAll.out _ HB2.out).mono ?_); rintro e w3 ⟨rfl, hb3⟩; have HB3 := Lib.hid (bel_trans HB2.out hb3); clear hb3))
    all_goals
      go_ret
      first | exact ⟨rfl, HB3.out⟩ | exact ⟨rfl, HB2.out⟩ | exact ⟨rfl, HB1.out⟩ | exact ⟨ret_bool (by cases q4 <;> rfl), HB3.out⟩
theorem prg1_c (x : Clause) (hv bv : Value) (w : World) (hH : T0 w hv x.head) (hB : Kd.goal.S 137 w bv x.body) (hf : fitC x) :
    Calls Tryz.prog 58 #[.agg #[hv, bv]] w fun e w' => e = .returned (.bool (!(clauseOk x))) ∧ Below w.heap.size w w' := by
  have HS := Lib.hid (fun W (hb : Below w.heap.size w W) => clauseI_c x hv bv W (Kd.S_ext hb hH) (Kd.S_ext hb hB) hf)
  have H0 := Lib.hid (fun o => bel_alloc (Below.refl _ w) o)
  obtain ⟨q, hq⟩ : ∃ q, clauseOk x = q := ⟨_, rfl⟩
  rw [hq] at HS ⊢
  clear hH hB hf hq
  go_enter Tryz.func58, Tryz.ntmps58
  go_wp2_with (go_at_call 59; (with_reducible refine (HS.out _ (H0.out _)).mono ?_); rintro e w1 ⟨rfl, hb⟩)
  go_ret
  exact ⟨rfl, bel_trans (H0.out _) hb⟩
end Go.Proofs.YtdoggcfdfkkedaaGreatDoor
namespace Go.Proofs.YtdoggcfdfkkedaaGreatDoor
open Go.RowKit
set_option maxRecDepth 100000
set_option maxHeartbeats 4000000
set_option linter.unusedVariables false
theorem AppI.place : AppI Tryz.prog 35 95 Kd.place := ⟨Tryz.underlying35, ⟨.agg #[.string ByteArray.empty, .int .i64 0, .int .i64 0], 32, by kernel_rfl, rfl, by decide⟩, by decide, fun q hq => by simp [Kd.place] at hq⟩
theorem box3_at {w w1 : World} {x0 x1 x2 : Value} {t : TypeId} (hb : Below (w.alloc (.cells #[x0, x1, x2] t)).heap.size (w.alloc (.cells #[x0, x1, x2] t)) w1) :
    w1.cell? ⟨w.heap.size, 0, none⟩ = some x0 ∧ w1.cell? ⟨w.heap.size, 1, none⟩ = some x1 ∧ w1.cell? ⟨w.heap.size, 2, none⟩ = some x2 := by
  have k := keep_cells (heap_alloc_new w (.cells #[x0, x1, x2] t)) hb
  exact ⟨k 0 _ rfl, k 1 _ rfl, k 2 _ rfl⟩
theorem placesOk_no {xs : List Place} {k : Nat} (hlt : k < xs.length) {x : Place} (hx : xs[k]? = some x) (h : placeOk x = false ∨ (xs.take k).any (samePl x) = true) (hA : placesOk (xs.take k) (xs.drop k) = placesOk [] xs) : placesOk [] xs = false := by
  rw [← hA, pl_split hlt hx]
  rcases h with h | h
  · rw [h]; rfl
  · rw [h]; simp
theorem prgOkI_c (p : Prog) (cv pv : Value) (w : World) (h1 : Kd.clause.S 92 w cv p.cl) (h2 : Kd.place.S 95 w pv p.pl) (hf : fitP p) :
    Calls Tryz.prog 24 #[.agg #[cv, pv]] w fun e w' => e = .returned (.bool (prgOk p)) ∧ Below w.heap.size w w' := by
  have HC := Lib.hid (fun w' (hb : Below w.heap.size w w') A n (e : cv = .slice A p.cl.length n) (hC : Kd.clause.C 92 w A p.cl) => cc_con (fun x => !(clauseOk x)) p.cl A n w' (Kd.C_ext hb hC) (by have := hf.1; omega) (fun W x hx hb' hv bv a1 a2 => prg1_c x hv bv W a1 a2 (hf.2.1 x hx)))
  have HN := Lib.hid (fun (x : Place) (hx : x ∈ p.pl) W => nameOk_c x.name W (hf.2.2.2 x hx))
  have H2 := Lib.hid h2
  have HX := Lib.hid (fun w1 => box2_at w cv pv 37 (w1 := w1))
  have H0 := Lib.hid (fun o => bel_alloc (Below.refl _ w) o)
  have l1 := hf.1
  have l2 := hf.2.2.1
  obtain ⟨A, n, rfl, a1, a2, hCA⟩ := h1
  have HCl := Lib.hid (fun w' hb => HC.out w' hb A n rfl hCA)
  obtain ⟨B, m, rfl, b1, b2, -⟩ := h2
  have hV : prgOk p = (decide (p.cl.length ≤ 12) && decide (p.pl.length ≤ 6) && p.cl.all clauseOk && placesOk [] p.pl) := rfl
  have HV := Lib.hid hV
  clear hf HC hCA hV
  go_enter Tryz.func24, Tryz.ntmps24
  go_wp2
  go_loopw [11] (fun v4 ws => ∃ k : Nat, v4 = .int .i64 k ∧ k ≤ p.pl.length ∧ Hid (placesOk (p.pl.take k) (p.pl.drop k) = placesOk [] p.pl) ∧ Hid (Below (w.alloc (.cells #[.slice A p.cl.length n, .slice B p.pl.length m] 37)).heap.size (w.alloc (.cells #[.slice A p.cl.length n, .slice B p.pl.length m] 37)) ws)) (fun v4 _ => p.pl.length - (intOf v4).toNat)
  case atStart => exact ⟨0, rfl, Nat.zero_le _, Lib.hid (by simp), Lib.hid (Below.refl _ _)⟩
  case round =>
    obtain ⟨k, rfl, hk, HA, HBs⟩ := hrel
    obtain ⟨x0, x1⟩ := HX.out _ HBs.out
    have HBv := Lib.hid (bel_trans (H0.out _) HBs.out)
    by_cases hlt : k < p.pl.length
    · obtain ⟨x, hx⟩ : ∃ x, p.pl[k]? = some x := ⟨_, List.getElem?_eq_getElem hlt⟩
      obtain ⟨B', m', ev, _, _, hC⟩ := H2.out
      injection ev with u1 u2 u3
      obtain ⟨ad, had, z0, z1, z2⟩ := place_at hC hx
      have had2 := u1.trans had
      have y0 := cell_keep HBv.out z0
      have y1 := cell_keep HBv.out z1
      have y2 := cell_keep HBv.out z2
      have Hx := Lib.hid hx
      have HNk := Lib.hid (HN.out x (List.mem_of_getElem? hx))
      have HBa := Lib.hid (fun o => bel_alloc HBv.out o)
      have HBb := Lib.hid (fun o => bel_alloc HBs.out o)
      have HY := Lib.hid (fun w1 => box3_at (w := wr) (w1 := w1) (x0 := .string x.name) (x1 := .int .i64 x.n) (x2 := .int .i64 x.node) (t := 95))
      clear u1 u2 u3 had hC hx z0 z1 z2
      subst had2
      obtain ⟨q1, e1⟩ : ∃ q, nameOk x.name = q := ⟨_, rfl⟩
      obtain ⟨q2, e2⟩ : ∃ q, (decide (0 ≤ x.n) && decide (x.n ≤ 3)) = q := ⟨_, rfl⟩
      obtain ⟨q3, e3⟩ : ∃ q, (decide (1 ≤ x.node) && decide (x.node ≤ 2)) = q := ⟨_, rfl⟩
      have HI2 := Lib.hid (fun W => imIn_c x.n 0 3 W)
      have HI3 := Lib.hid (fun W => imIn_c x.node 1 2 W)
      rw [e1] at HNk
      rw [e2] at HI2
      rw [e3] at HI3
      have HPl := Lib.hid (show placeOk x = (q1 && q2 && q3) by unfold placeOk inR; rw [e1, e2, e3])
      clear e1 e2 e3
      by_cases hq : (q1 && q2 && q3) = true
      · simp only [Bool.and_eq_true] at hq
        obtain ⟨⟨rfl, rfl⟩, rfl⟩ := hq
        go_upto_region 7 with (first | (go_at_call 57; (with_reducible refine (HNk.out _).mono ?_); rintro e w3 ⟨rfl, hb3⟩; obtain ⟨t0, t1, t2⟩ := HY.out _ hb3; have hx1 := (HX.out _ (bel_trans (HBb.out _) hb3)).2; have HB3 := Lib.hid hb3; clear hb3) | (go_at_call 29; (with_reducible refine (HI2.out _).mono ?_); rintro e w4 ⟨rfl, rfl⟩) | (go_at_call 29; (with_reducible refine (HI3.out _).mono ?_); rintro e w4 ⟨rfl, rfl⟩) | (refine wp_sub_h AppI.place rfl rfl (Kd.S_ext (bel_trans (HBa.out _) HB3.out) H2.out) rfl rfl (by omega) (by omega) ?_; intro v7 hv7; rw [Int.toNat_natCast] at hv7; obtain ⟨B7, m7, e7, c7, d7, hC7⟩ := hv7; rw [List.length_take, Nat.min_eq_left (Nat.le_of_lt hlt)] at e7; subst e7; have HC7 := Lib.hid hC7; clear hC7 c7))
        have HB4 := Lib.hid (bel_trans (HBb.out _) HB3.out)
        have HW4 := Lib.hid (bel_trans (HBa.out _) HB3.out)
        have T0' := Lib.hid t0
        have T1' := Lib.hid t1
        clear t0 t1 t2 y0 y1 y2 x0 x1
        go_wp2
        go_loopw [37] (fun v5 wt => ∃ j : Nat, v5 = .int .i64 j ∧ j ≤ k ∧ Hid ((p.pl.take j).any (samePl x) = false) ∧ Hid (Below w3.heap.size w3 wt)) (fun v5 _ => k - (intOf v5).toNat)
        case atStart => exact ⟨0, rfl, Nat.zero_le _, Lib.hid rfl, Lib.hid (Below.refl _ _)⟩
        case round =>
          obtain ⟨j, rfl, hj, HJ, HBt⟩ := hrel
          have y0 := cell_keep HBt.out T0'.out
          have y1 := cell_keep HBt.out T1'.out
          have v0 := fun o => cell_keep (bel_alloc (Below.refl _ _) o) y0
          have v1 := fun o => cell_keep (bel_alloc (Below.refl _ _) o) y1
          have HBo := Lib.hid (fun o => bel_alloc HBt.out o)
          by_cases hjk : j < k
          · obtain ⟨y, hy⟩ : ∃ y, p.pl[j]? = some y := ⟨_, List.getElem?_eq_getElem (by omega)⟩
            obtain ⟨ad7, hA7, z0, z1, z2⟩ := place_at HC7.out (show (p.pl.take k)[j]? = some y by rw [List.getElem?_take, if_pos hjk]; exact hy)
            subst hA7
            have q0 := cell_keep HBt.out z0
            have q1 := cell_keep HBt.out z1
            have q2 := cell_keep HBt.out z2
            clear z0 z1 z2
            by_cases e1 : x.name = y.name
            · have f1 : (x.name.toList == y.name.toList) = true := by rw [str_eqb]; exact decide_eq_true e1
              by_cases e2 : x.n = y.n
              · have f2 : (x.n == y.n) = true := beq_iff_eq.2 e2
                have HR := Lib.hid (show prgOk p = false by rw [HV.out, placesOk_no hlt Hx.out (.inr (any_mono hjk hy (by unfold samePl; rw [e1, e2]; simp))) HA.out]; simp)
                clear e1 e2 hy
                go_wp2
                go_ret
                exact ⟨ret_bool HR.out.symm, bel_trans HW4.out (HBo.out _)⟩
              · have f2 : (x.n == y.n) = false := beq_eq_false_iff_ne.2 e2
                have HN2 := Lib.hid (show (p.pl.take (j + 1)).any (samePl x) = false by
                  rw [any_snoc (by omega) hy, HJ.out]; unfold samePl; simp; exact fun _ h => e2 h)
                clear e1 e2 hy
                go_wp2
                exact ⟨⟨j + 1, by go_num, hjk, HN2, Lib.hid (HBo.out _)⟩, by simp [intOf]; omega⟩
            · have f1 : (x.name.toList == y.name.toList) = false := by rw [str_eqb]; exact decide_eq_false e1
              have HN2 := Lib.hid (show (p.pl.take (j + 1)).any (samePl x) = false by
                rw [any_snoc (by omega) hy, HJ.out]; unfold samePl; simp; exact fun h _ => e1 h)
              clear e1 hy
              go_wp2
              exact ⟨⟨j + 1, by go_num, hjk, HN2, Lib.hid (HBo.out _)⟩, by simp [intOf]; omega⟩
          · obtain rfl : j = k := by omega
            have HN2 := Lib.hid (show placesOk (p.pl.take (j + 1)) (p.pl.drop (j + 1)) = placesOk [] p.pl by rw [← HA.out, pl_split hlt Hx.out, HPl.out, HJ.out]; rfl)
            have HE4 := Lib.hid (bel_trans HB4.out HBt.out)
            clear hjk
            go_wp2
            exact ⟨⟨j + 1, by go_num, hlt, HN2, HE4⟩, by simp [intOf]; omega⟩
      · have HR := Lib.hid (show prgOk p = false by rw [HV.out, placesOk_no hlt Hx.out (.inl (by rw [HPl.out]; exact Bool.eq_false_iff.2 hq)) HA.out]; simp)
        cases q1 <;> cases q2 <;> cases q3
        all_goals (try exact absurd rfl hq)
        all_goals
          clear hq
          go_wp2_with (first | (go_at_call 57; (with_reducible refine (HNk.out _).mono ?_); rintro e w3 ⟨rfl, hb3⟩; obtain ⟨t0, t1, t2⟩ := HY.out _ hb3; have HB3 := Lib.hid hb3; clear hb3) | (go_at_call 29; (with_reducible refine (HI2.out _).mono ?_); rintro e w4 ⟨rfl, rfl⟩) | (go_at_call 29; (with_reducible refine (HI3.out _).mono ?_); rintro e w4 ⟨rfl, rfl⟩))
          go_ret
          exact ⟨ret_bool HR.out.symm, bel_trans (HBa.out _) HB3.out⟩
    · have HP := Lib.hid (show placesOk [] p.pl = true by rw [← HA.out, List.drop_of_length_le (by omega)]; rfl)
      have HAl := Lib.hid (HCl.out _ HBv.out)
      rw [any_not] at HAl
      obtain ⟨q, eq⟩ : ∃ q, p.cl.all clauseOk = q := ⟨_, rfl⟩
      have HE : Hid (prgOk p = (decide (p.cl.length ≤ 12) && decide (p.pl.length ≤ 6) && q)) := Lib.hid (by rw [HV.out, HP.out, eq, Bool.and_true])
      rw [eq] at HAl
      have e12 : decide ((p.cl.length : Int) ≤ 12) = decide (p.cl.length ≤ 12) := decide_eq_decide.2 (by omega)
      have e6 : decide ((p.pl.length : Int) ≤ 6) = decide (p.pl.length ≤ 6) := decide_eq_decide.2 (by omega)
      obtain ⟨r1, f1⟩ : ∃ q, decide (p.cl.length ≤ 12) = q := ⟨_, rfl⟩
      obtain ⟨r2, f2⟩ : ∃ q, decide (p.pl.length ≤ 6) = q := ⟨_, rfl⟩
      rw [f1] at e12 HE
      rw [f2] at e6 HE
      clear eq f1 f2 HP HA
      cases r1 <;> cases r2
      all_goals
        go_wp2_with (go_at_call 60; (with_reducible refine HAl.out.mono ?_); rintro e w3 ⟨rfl, hb3⟩)
        all_goals
          go_ret
          first | exact ⟨ret_bool HE.out.symm, HBv.out⟩ | exact ⟨ret_bool (by rw [HE.out]; cases q <;> rfl), bel_trans HBv.out hb3⟩
end Go.Proofs.YtdoggcfdfkkedaaGreatDoor
namespace Go.Proofs.YtdoggcfdfkkedaaGreatDoor
open Go.RowKit
set_option maxRecDepth 100000
set_option maxHeartbeats 4000000
set_option linter.unusedVariables false
theorem nothingI_c (s : TSt) (gv bv cv tv ov : Value) (w : World) (hs : StR w s gv bv cv tv ov) (hf : fitS s) :
    Calls Tryz.prog 146 #[.agg #[.int .i64 s.st, gv, bv, .int .i64 s.vars, cv, tv, ov]] w fun e w' => e = .returned (.bool (nothing s)) ∧ Below w.heap.size w w' := by
  have H0 := Lib.hid (fun o => bel_alloc (Below.refl _ w) o)
  have lg := hf.1.1
  have lb := hf.2.1.1
  have lc := hf.2.2.1.1
  have lo := hf.2.2.2.2.1
  obtain ⟨GA, gn, rfl, g1, g2, -⟩ := hs.g
  obtain ⟨BA, bn, rfl, b1, b2, -⟩ := hs.b
  obtain ⟨CA, cn, rfl, c1, c2, -⟩ := hs.c
  obtain ⟨OA, on, rfl, o1, o2, -⟩ := hs.o
  have HV := Lib.hid (nothing_eq s)
  obtain ⟨q1, e1⟩ : ∃ q, (((s.goals.length : Int) + (s.binds.length : Int) + (s.ch.length : Int) + (s.out.length : Int)) == 0) = q := ⟨_, rfl⟩
  obtain ⟨q2, e2⟩ : ∃ q, (s.vars == 0) = q := ⟨_, rfl⟩
  rw [e1, e2] at HV
  clear hs hf
  cases q1
  all_goals
    go_enter Tryz.func146, Tryz.ntmps146
    go_wp2
    all_goals
      go_ret
      exact ⟨ret_bool HV.out.symm, H0.out _⟩
structure SlvB (w : World) (b : Nat) (s : TSt) (node : Int) (p1 p2 gv bv cv tv ov : Value) : Prop where
  c0 : w.cell? ⟨b, 0, none⟩ = some (.int .i64 s.st)
  c1 : w.cell? ⟨b, 1, none⟩ = some gv
  c2 : w.cell? ⟨b, 2, none⟩ = some bv
  c3 : w.cell? ⟨b, 3, none⟩ = some (.int .i64 s.vars)
  c4 : w.cell? ⟨b, 4, none⟩ = some cv
  c5 : w.cell? ⟨b, 5, none⟩ = some tv
  c6 : w.cell? ⟨b, 6, none⟩ = some ov
  c7 : w.cell? ⟨b, 7, none⟩ = some p1
  c8 : w.cell? ⟨b, 8, none⟩ = some p2
  c9 : w.cell? ⟨b, 9, none⟩ = some (.int .i64 node)
theorem SlvB.ext {w w' : World} {b : Nat} {s : TSt} {node : Int} {p1 p2 gv bv cv tv ov : Value} (h : SlvB w b s node p1 p2 gv bv cv tv ov) (hb : Below w.heap.size w w') : SlvB w' b s node p1 p2 gv bv cv tv ov :=
  ⟨cell_keep hb h.c0, cell_keep hb h.c1, cell_keep hb h.c2, cell_keep hb h.c3, cell_keep hb h.c4, cell_keep hb h.c5, cell_keep hb h.c6, cell_keep hb h.c7, cell_keep hb h.c8, cell_keep hb h.c9⟩
theorem waitsI_c (s : TSt) (node : Int) (b : Nat) (p1 p2 gv bv cv tv ov : Value) (w : World) (hv : SlvB w b s node p1 p2 gv bv cv tv ov) (hs : StR w s gv bv cv tv ov) (hf : fitS s) :
    Calls Tryz.prog 152 #[.pointer (some ⟨b, 0, none⟩)] w fun e w' => e = .returned (.bool (waitsOk s)) ∧ Below w.heap.size w w' := by
  have lg := hf.1.1
  have lb := hf.2.1.1
  have lc := hf.2.2.1.1
  have lo := hf.2.2.2.2.1
  obtain ⟨x0, x1, x2, x3, x4, x5, x6, -, -, -⟩ := hv
  obtain ⟨GA, gn, rfl, g1, g2, -⟩ := hs.g
  obtain ⟨BA, bn, rfl, b1, b2, -⟩ := hs.b
  obtain ⟨CA, cn, rfl, c1, c2, hC⟩ := hs.c
  obtain ⟨OA, on, rfl, o1, o2, -⟩ := hs.o
  clear hs hf
  cases hch : s.ch.length with
  | zero =>
    have HV := Lib.hid (show waitsOk s = false by unfold waitsOk; rw [List.eq_nil_of_length_eq_zero hch]; simp)
    rw [hch] at x4
    clear hC hch lc
    go_enter Tryz.func152, Tryz.ntmps152
    go_upto_region 2 with fail
    go_quiet (fail)
    go_wp2
    go_ret
    exact ⟨ret_bool HV.out.symm, bel_drewN (Below.refl _ _) _⟩
  | succ n =>
    obtain ⟨c, hc⟩ : ∃ c, s.ch[n]? = some c := ⟨_, List.getElem?_eq_getElem (by omega)⟩
    have hlast : s.ch.getLast? = some c := by rw [List.getLast?_eq_getElem?, hch]; exact hc
    obtain ⟨ad, xg, xa, hA, y0, y1, y2, y3, y4, y5, yg, ya⟩ := tch_at hC hc
    subst hA
    obtain ⟨XA, xn, rfl, -, -, -⟩ := yg
    obtain ⟨YA, yn, rfl, -, -, -⟩ := ya
    rw [hch] at x4 lc
    have hn0 : decide ((n : Int) < 0) = false := decide_eq_false (by omega)
    have hwr : IntKind.i64.wrap ((s.goals.length : Int) + (s.out.length : Int)) = (s.goals.length : Int) + (s.out.length : Int) := IntWalk.i64_in _ (by omega)
    by_cases hgo : s.goals.length + s.out.length = 0
    · have hV : waitsOk s = (decide (0 < c.far) && (c.mark == (s.binds.length : Int)) && (c.vars == s.vars)) := by
        have d : ∀ a b : Int, (a == b) = decide (a = b) := fun a b => by rw [Bool.eq_iff_iff]; simp
        unfold waitsOk; rw [hlast, isEmpty_len, isEmpty_len, show s.goals.length = 0 by omega, show s.out.length = 0 by omega, d c.mark, d c.vars]; simp
      have hg0 : decide ((0 : Int) < (s.goals.length : Int) + (s.out.length : Int)) = false := decide_eq_false (by omega)
      obtain ⟨q1, e1⟩ : ∃ q, decide (0 < c.far) = q := ⟨_, rfl⟩
      obtain ⟨q2, e2⟩ : ∃ q, (c.mark == (s.binds.length : Int)) = q := ⟨_, rfl⟩
      obtain ⟨q3, e3⟩ : ∃ q, (c.vars == s.vars) = q := ⟨_, rfl⟩
      rw [e1, e2, e3] at hV
      have HV := Lib.hid hV
      clear hV hlast hc hC hch hgo
      cases q1 <;> cases q2
      all_goals
        go_enter Tryz.func152, Tryz.ntmps152
        go_upto_region 2 with fail
        go_quiet (fail)
        rename_i nq
        have hb1 := bel_drewN (Below.refl w.heap.size w) nq
        have HB1 := Lib.hid hb1
        have X2 := cell_keep hb1 x2
        have X3 := cell_keep hb1 x3
        have X4 := cell_keep hb1 x4
        have Y0 := cell_keep hb1 y0
        have Y1 := cell_keep hb1 y1
        have Y2 := cell_keep hb1 y2
        have Y3 := cell_keep hb1 y3
        have Y4 := cell_keep hb1 y4
        have Y5 := cell_keep hb1 y5
        clear hb1 x0 x1 x2 x3 x4 x5 x6 y0 y1 y2 y3 y4 y5
        generalize World.drewN w nq = W1 at *
        have Z2 := fun o => cell_keep (bel_alloc (Below.refl _ W1) o) X2
        have Z3 := fun o => cell_keep (bel_alloc (Below.refl _ W1) o) X3
        have HBo := Lib.hid (fun o => bel_alloc HB1.out o)
        go_upto_region 5 with fail
        go_quiet (fail)
        go_wp2
        go_ret
        first | exact ⟨ret_bool HV.out.symm, bel_drewN (HBo.out _) _⟩ | exact ⟨ret_bool (by rw [HV.out]; cases q3 <;> rfl), bel_drewN (HBo.out _) _⟩
    · have HV := Lib.hid (show waitsOk s = false by
        unfold waitsOk; rw [isEmpty_len, isEmpty_len]
        have : ((s.goals.length : Int) == 0 && (s.out.length : Int) == 0) = false := by rw [Bool.eq_false_iff]; intro h; simp only [Bool.and_eq_true, beq_iff_eq] at h; omega
        rw [this]; rfl)
      have hg0 : decide ((0 : Int) < (s.goals.length : Int) + (s.out.length : Int)) = true := decide_eq_true (by omega)
      clear hlast hc hC hch hgo
      go_enter Tryz.func152, Tryz.ntmps152
      go_upto_region 2 with fail
      go_quiet (fail)
      go_wp2
      go_ret
      exact ⟨ret_bool HV.out.symm, bel_drewN (Below.refl _ _) _⟩
end Go.Proofs.YtdoggcfdfkkedaaGreatDoor
