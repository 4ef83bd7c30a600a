/- Lemmas and contracts for FnExactWldOk, part 26. -/
import Derived.Test.YtdoggcfdfkkedaaGreatDoorW14
import Derived.Test.YtdoggcfdfkkedaaGreatDoorW25
import Derived.Test.YtdoggcfdfkkedaaGreatDoorW18
import Derived.Test.YtdoggcfdfkkedaaGreatDoorW24
namespace Go.Proofs.YtdoggcfdfkkedaaGreatDoor
open Go.RowKit
set_option maxRecDepth 100000
set_option maxHeartbeats 4000000
set_option linter.unusedVariables false
theorem fit_sized {t : Trm} (h : fitT t) : sized t := h.2
theorem outsOkI_c (top : Trm) (os : List SOut) (tv ov : Value) (w : World) (ht : Kd.cell.S 112 w tv top) (ho : Kd.sout.S 99 w ov os) (hft : fitT top) (hf : fitOs os) :
    Calls Tryz.prog 26 #[tv, ov] w fun e w' => e = .returned (.bool (outsOk top os)) ∧ Below w.heap.size w w' := by
  have HT := Lib.hid ht
  have HS := Lib.hid ho
  have hlen := hf.1
  have HF := Lib.hid hf.2
  have H0 := Lib.hid (Below.refl w.heap.size w)
  obtain ⟨A, c, rfl, a1, a2, -⟩ := ho
  obtain ⟨TA, tc, rfl, -, -, -⟩ := ht
  obtain ⟨Z, hZ⟩ : ∃ Z, outsAll top os = Z := ⟨_, rfl⟩
  have HZ0 := Lib.hid (show outsAll top (os.drop 0) = Z from hZ)
  have HV0 := Lib.hid (show outsOk top os = (Z && decide (os.length ≤ 12000)) by unfold outsOk; rw [hZ])
  obtain ⟨ql, el⟩ : ∃ q, decide ((os.length : Int) ≤ 12000) = q := ⟨_, rfl⟩
  have eln : decide (os.length ≤ 12000) = ql := by
    rw [← el]
    by_cases h : os.length ≤ 12000
    · rw [decide_eq_true h, decide_eq_true (by omega)]
    · rw [decide_eq_false h, decide_eq_false (by omega)]
  rw [eln] at HV0
  clear hZ hf
  go_enter Tryz.func26, Tryz.ntmps26
  go_wp2
  go_loopw [9] (fun v9 wr => ∃ k : Nat, v9 = .int .i64 k ∧ k ≤ os.length ∧ Hid (outsAll top (os.drop k) = Z) ∧ Hid (Below w.heap.size w wr)) (fun v9 _ => os.length - (intOf v9).toNat)
  case atStart => exact ⟨0, rfl, Nat.zero_le _, HZ0, H0⟩
  case round =>
    obtain ⟨k, rfl, hk, HRr, HBr⟩ := hrel
    by_cases hlt2 : k < os.length
    · obtain ⟨o, hc⟩ : ∃ o, os[k]? = some o := ⟨_, List.getElem?_eq_getElem hlt2⟩
      obtain ⟨A', c', ev, _, _, hC⟩ := HS.out
      injection ev with z1 z2 z3
      obtain ⟨ad, v1, had, x0, x1, h1⟩ := dbind_at hC hc
      have had2 := z1.trans had
      have hfo := HF.out o (List.mem_of_getElem? hc)
      have HX := Lib.hid (fun W hb => outOkI_c top (.slice TA top.length tc) o.1 o.2 v1 W (Kd.S_ext (w := w) hb HT.out) (Kd.S_ext (w := w) hb h1) (fit_len hft) (fit_len hfo) (fit_sized hft) (fit_sized hfo))
      have HST := Lib.hid ((outsAll_step (top := top) hc).symm.trans HRr.out)
      obtain ⟨OA, oc, rfl, -, -, -⟩ := h1
      have HNb := Lib.hid (Bx.new wr 99 #[.int .i64 o.1, .slice OA o.2.length oc])
      have HBa := Lib.hid (fun ob => bel_alloc HBr.out ob)
      have x0 := cell_keep HBr.out x0
      have x1 := cell_keep HBr.out x1
      clear z1 z2 z3 had hC hc hfo
      subst had2
      obtain ⟨q1, e1⟩ : ∃ q, outOk top o.1 o.2 = q := ⟨_, rfl⟩
      rw [e1] at HX HST
      clear e1
      cases q1
      · have HV := Lib.hid (show outsOk top os = false by rw [HV0.out, show Z = false from HST.out.symm]; rfl)
        go_wp2_with (go_at_call 64; (with_reducible refine (HX.out _ (HBa.out _)).mono ?_); rintro e w2 ⟨rfl, hb2⟩; have HB2 := Lib.hid (bel_trans (HBa.out _) hb2); clear hb2)
        go_ret
        exact ⟨ret_bool HV.out.symm, HB2.out⟩
      · by_cases hl : (k : Int) < (os.length : Int) - 1
        · have e2 : decide ((k : Int) < (os.length : Int) - 1) = true := decide_eq_true hl
          by_cases h2 : o.1 = 2
          · have e3 : (o.1 != 2) = false := by rw [h2]; rfl
            have HV := Lib.hid (show outsAll top (os.drop (k + 1)) = Z by have := HST.out; rw [e2, decide_eq_true h2] at this; exact this)
            clear h2 hl
            go_wp2_with (go_at_call 64; (with_reducible refine (HX.out _ (HBa.out _)).mono ?_); rintro e w2 ⟨rfl, hb2⟩; have HB2 := Lib.hid (bel_trans (HBa.out _) hb2); have y0 := Bx.at' (Bx.below HNb.out hb2) 0 (.int .i64 o.1) rfl; clear hb2)
            exact ⟨⟨k + 1, by go_num, hlt2, HV, HB2⟩, by simp [intOf]; omega⟩
          · have e3 : (o.1 != 2) = true := by simp [h2]
            have HV := Lib.hid (show outsOk top os = false by rw [HV0.out]; have := HST.out; rw [e2, decide_eq_false h2] at this; rw [← this]; rfl)
            clear h2 hl
            go_wp2_with (go_at_call 64; (with_reducible refine (HX.out _ (HBa.out _)).mono ?_); rintro e w2 ⟨rfl, hb2⟩; have HB2 := Lib.hid (bel_trans (HBa.out _) hb2); have y0 := Bx.at' (Bx.below HNb.out hb2) 0 (.int .i64 o.1) rfl; clear hb2)
            go_ret
            exact ⟨ret_bool HV.out.symm, HB2.out⟩
        · have e2 : decide ((k : Int) < (os.length : Int) - 1) = false := decide_eq_false hl
          have HV := Lib.hid (show outsAll top (os.drop (k + 1)) = Z by have := HST.out; rw [e2] at this; exact this)
          clear hl
          go_wp2_with (go_at_call 64; (with_reducible refine (HX.out _ (HBa.out _)).mono ?_); rintro e w2 ⟨rfl, hb2⟩; have HB2 := Lib.hid (bel_trans (HBa.out _) hb2); have y0 := Bx.at' (Bx.below HNb.out hb2) 0 (.int .i64 o.1) rfl; clear hb2)
          exact ⟨⟨k + 1, by go_num, hlt2, HV, HB2⟩, by simp [intOf]; omega⟩
    · have HV := Lib.hid (show outsOk top os = ql by rw [HV0.out, show Z = true by have := HRr.out; rw [List.drop_of_length_le (by omega)] at this; exact this.symm]; rfl)
      go_wp2
      go_ret
      exact ⟨ret_bool HV.out.symm, HBr.out⟩
theorem openI_c (st : Int) (gv bv cv tv ov : Value) (vs : Int) (w : World) :
    Calls Tryz.prog 110 #[.agg #[.int .i64 st, gv, bv, .int .i64 vs, cv, tv, ov]] w fun e w' => e = .returned (.bool (st == 1 || st == 6)) ∧ Below w.heap.size w w' := by
  have H0 := Lib.hid (fun o => bel_alloc (Below.refl _ w) o)
  obtain ⟨q1, e1⟩ : ∃ q, (st == 1) = q := ⟨_, rfl⟩
  obtain ⟨q2, e2⟩ : ∃ q, (st == 6) = q := ⟨_, rfl⟩
  rw [e1, e2]
  cases q1 <;> cases q2
  all_goals
    go_enter Tryz.func110, Tryz.ntmps110
    go_wp2
    go_ret
    exact ⟨rfl, H0.out _⟩
end Go.Proofs.YtdoggcfdfkkedaaGreatDoor
namespace Go.Proofs.YtdoggcfdfkkedaaGreatDoor
open Go.RowKit
set_option maxRecDepth 100000
set_option maxHeartbeats 8000000
set_option linter.unusedVariables false
theorem bx3_0 (w : World) (t1 t2 t3 : Nat) (c1 c2 c3 : Array Value) : Bx (((w.alloc (.cells c1 t1)).alloc (.cells c2 t2)).alloc (.cells c3 t3)) w.heap.size t1 c1 := Bx.alloc (bx2_0 w t1 t2 c1 c2) _
theorem bx3_1 (w : World) (t1 t2 t3 : Nat) (c1 c2 c3 : Array Value) : Bx (((w.alloc (.cells c1 t1)).alloc (.cells c2 t2)).alloc (.cells c3 t3)) (w.heap.size + 1) t2 c2 := Bx.alloc (bx2_1 w t1 t2 c1 c2) _
theorem bx3_2 (w : World) (t1 t2 t3 : Nat) (c1 c2 c3 : Array Value) : Bx (((w.alloc (.cells c1 t1)).alloc (.cells c2 t2)).alloc (.cells c3 t3)) (w.heap.size + 1 + 1) t3 c3 := by
  have := Bx.new ((w.alloc (.cells c1 t1)).alloc (.cells c2 t2)) t3 c3; rwa [size_alloc, size_alloc] at this
theorem workOk_eq2 (p : Prog) (node : Int) (x : Work) : workOk p node x = (tOk p node x.slv && decide (nodeOf p x.slv.top = node) && outsOk x.slv.top x.outs && inR x.want 1 12000 && endPart x) := by
  unfold workOk endPart
  cases tOk p node x.slv <;> cases decide (nodeOf p x.slv.top = node) <;> cases outsOk x.slv.top x.outs <;> cases inR x.want 1 12000 <;> rfl
theorem workI_c (p : Prog) (node : Int) (x : Work) (p1 p2 uv gv bv cv tv ov : Value) (w : World) (hp : PrR w p p1 p2) (hx : WkR w x uv gv bv cv tv ov) (hfp : fitP p) (hf : fitW x) (hkw : keysWf x.slv.binds) :
    Calls Tryz.prog 66 #[.agg #[p1, p2], .int .i64 node, .agg #[uv, .int .i64 x.want, .bool x.asked, .int .i64 x.slv.st, gv, bv, .int .i64 x.slv.vars, cv, tv, ov]] w fun e w' => e = .returned (.bool (workOk p node x)) ∧ Below w.heap.size w w' := by
  have HP := Lib.hid hp
  have HX := Lib.hid hx
  have hul := hf.1.1
  have HOut := Lib.hid hf.1.2
  have HFS := Lib.hid hf.2
  have HTr := Lib.hid (fun W hb => trlOkI_c p x.slv node p1 p2 gv bv cv tv ov W (hp.ext (w := w) hb) (hx.s.ext hb) hfp hf.2 hkw)
  have HOs := Lib.hid (fun W hb => outsOkI_c x.slv.top x.outs tv uv W (hx.s.ext (w := w) hb).t (hx.ext hb).u hf.2.2.2.2.1 hf.1)
  have HIn := Lib.hid (fun W => imIn_c x.want 1 12000 W)
  have HOp := Lib.hid (fun W => openI_c x.slv.st gv bv cv tv ov x.slv.vars W)
  have HNd := Lib.hid (fun W (hb : Below w.heap.size w W) (hc : calls x.slv.top = true) => nodeI_c p x.slv.top p1 p2 tv W (hp.ext hb).p (hx.s.ext hb).t hc hfp.2.2.1)
  have HV := Lib.hid (workOk_eq2 p node x)
  obtain ⟨UA, un, rfl, u1, u2, hUC⟩ := hx.u
  obtain ⟨OA, on, rfl, o1, o2, -⟩ := hx.s.o
  obtain ⟨GA, gn, rfl, -, -, -⟩ := hx.s.g
  obtain ⟨BA, bn, rfl, -, -, -⟩ := hx.s.b
  obtain ⟨CA, cn, rfl, -, -, -⟩ := hx.s.c
  obtain ⟨TA, tn, rfl, -, -, -⟩ := hx.s.t
  have HUC := Lib.hid hUC
  have hwant : (decide (1 ≤ x.want) && decide (x.want ≤ 12000)) = inR x.want 1 12000 := rfl
  rw [hwant] at HIn
  clear hwant hUC
  obtain ⟨q1, e1⟩ : ∃ q, tOk p node x.slv = q := ⟨_, rfl⟩
  have HE1 := Lib.hid e1
  obtain ⟨q2, e2⟩ : ∃ q, nodeOf p x.slv.top = q := ⟨_, rfl⟩
  obtain ⟨q3, e3⟩ : ∃ q, outsOk x.slv.top x.outs = q := ⟨_, rfl⟩
  obtain ⟨q4, e4⟩ : ∃ q, inR x.want 1 12000 = q := ⟨_, rfl⟩
  rw [e1, e2, e3, e4] at HV
  rw [e1] at HTr
  rw [e3] at HOs
  rw [e4] at HIn
  rw [e2] at HNd
  clear e1 e2 e3 e4 hf hp hx
  have HB0 := Lib.hid (fun c1 c2 c3 => bel_alloc (bel_alloc (bel_alloc (Below.refl w.heap.size w) (.cells c1 37)) (.cells c2 107)) (.cells c3 105))
  have HP0 := Lib.hid (fun c1 c2 c3 => bx3_0 w 37 107 105 c1 c2 c3)
  have HQ0 := Lib.hid (fun c1 c2 c3 => bx3_1 w 37 107 105 c1 c2 c3)
  have HS0 := Lib.hid (fun c1 c2 c3 => bx3_2 w 37 107 105 c1 c2 c3)
  cases q1
  · have HN := Lib.hid (show workOk p node x = false by rw [HV.out]; simp)
    go_enter Tryz.func66, Tryz.ntmps66
    go_wp2_with (first | (go_at_call 108; (with_reducible refine (HTr.out _ (HB0.out _ _ _)).mono ?_); rintro e w1 ⟨rfl, hb⟩; have HB1 := Lib.hid (bel_trans (HB0.out _ _ _) hb); have HP1 := Lib.hid (Bx.below (HP0.out _ _ _) hb); have HQ1 := Lib.hid (Bx.below (HQ0.out _ _ _) hb); have HS1 := Lib.hid (Bx.below (HS0.out _ _ _) hb); have a1_0 := Bx.at' HP1.out 0 (p1) rfl; have a1_1 := Bx.at' HP1.out 1 (p2) rfl; have b1_0 := Bx.at' HQ1.out 0 (.slice UA x.outs.length un) rfl; have b1_1 := Bx.at' HQ1.out 1 (.int .i64 x.want) rfl; have c1_0 := Bx.at' HS1.out 0 (.int .i64 x.slv.st) rfl; have c1_1 := Bx.at' HS1.out 1 (.slice GA x.slv.goals.length gn) rfl; have c1_2 := Bx.at' HS1.out 2 (.slice BA x.slv.binds.length bn) rfl; have c1_3 := Bx.at' HS1.out 3 (.int .i64 x.slv.vars) rfl; have c1_4 := Bx.at' HS1.out 4 (.slice CA x.slv.ch.length cn) rfl; have c1_5 := Bx.at' HS1.out 5 (.slice TA x.slv.top.length tn) rfl; have c1_6 := Bx.at' HS1.out 6 (.slice OA x.slv.out.length on) rfl; clear hb) | (go_at_call 109; (with_reducible refine (HNd.out _ HB1.out HCl.out).mono ?_); rintro e w2 ⟨rfl, hb⟩; have HB2 := Lib.hid (bel_trans HB1.out hb); have HP2 := Lib.hid (Bx.below HP1.out hb); have HQ2 := Lib.hid (Bx.below HQ1.out hb); have HS2 := Lib.hid (Bx.below HS1.out hb); have a2_0 := Bx.at' HP2.out 0 (p1) rfl; have a2_1 := Bx.at' HP2.out 1 (p2) rfl; have b2_0 := Bx.at' HQ2.out 0 (.slice UA x.outs.length un) rfl; have b2_1 := Bx.at' HQ2.out 1 (.int .i64 x.want) rfl; have c2_0 := Bx.at' HS2.out 0 (.int .i64 x.slv.st) rfl; have c2_1 := Bx.at' HS2.out 1 (.slice GA x.slv.goals.length gn) rfl; have c2_2 := Bx.at' HS2.out 2 (.slice BA x.slv.binds.length bn) rfl; have c2_3 := Bx.at' HS2.out 3 (.int .i64 x.slv.vars) rfl; have c2_4 := Bx.at' HS2.out 4 (.slice CA x.slv.ch.length cn) rfl; have c2_5 := Bx.at' HS2.out 5 (.slice TA x.slv.top.length tn) rfl; have c2_6 := Bx.at' HS2.out 6 (.slice OA x.slv.out.length on) rfl; clear hb) | (go_at_call 26; (with_reducible refine (HOs.out _ HB2.out).mono ?_); rintro e w3 ⟨rfl, hb⟩; have HB3 := Lib.hid (bel_trans HB2.out hb); have HP3 := Lib.hid (Bx.below HP2.out hb); have HQ3 := Lib.hid (Bx.below HQ2.out hb); have HS3 := Lib.hid (Bx.below HS2.out hb); have a3_0 := Bx.at' HP3.out 0 (p1) rfl; have a3_1 := Bx.at' HP3.out 1 (p2) rfl; have b3_0 := Bx.at' HQ3.out 0 (.slice UA x.outs.length un) rfl; have b3_1 := Bx.at' HQ3.out 1 (.int .i64 x.want) rfl; have c3_0 := Bx.at' HS3.out 0 (.int .i64 x.slv.st) rfl; have c3_1 := Bx.at' HS3.out 1 (.slice GA x.slv.goals.length gn) rfl; have c3_2 := Bx.at' HS3.out 2 (.slice BA x.slv.binds.length bn) rfl; have c3_3 := Bx.at' HS3.out 3 (.int .i64 x.slv.vars) rfl; have c3_4 := Bx.at' HS3.out 4 (.slice CA x.slv.ch.length cn) rfl; have c3_5 := Bx.at' HS3.out 5 (.slice TA x.slv.top.length tn) rfl; have c3_6 := Bx.at' HS3.out 6 (.slice OA x.slv.out.length on) rfl; clear hb) | (go_at_call 29; (with_reducible refine (HIn.out _).mono ?_); rintro e w4 ⟨rfl, rfl⟩) | (go_at_call 110; (with_reducible refine (HOp.out _).mono ?_); rintro e w5 ⟨rfl, hb⟩; have HB5 := Lib.hid (bel_trans HB3.out hb); have HP5 := Lib.hid (Bx.below HP3.out hb); have HQ5 := Lib.hid (Bx.below HQ3.out hb); have HS5 := Lib.hid (Bx.below HS3.out hb); have a5_0 := Bx.at' HP5.out 0 (p1) rfl; have a5_1 := Bx.at' HP5.out 1 (p2) rfl; have b5_0 := Bx.at' HQ5.out 0 (.slice UA x.outs.length un) rfl; have b5_1 := Bx.at' HQ5.out 1 (.int .i64 x.want) rfl; have c5_0 := Bx.at' HS5.out 0 (.int .i64 x.slv.st) rfl; have c5_1 := Bx.at' HS5.out 1 (.slice GA x.slv.goals.length gn) rfl; have c5_2 := Bx.at' HS5.out 2 (.slice BA x.slv.binds.length bn) rfl; have c5_3 := Bx.at' HS5.out 3 (.int .i64 x.slv.vars) rfl; have c5_4 := Bx.at' HS5.out 4 (.slice CA x.slv.ch.length cn) rfl; have c5_5 := Bx.at' HS5.out 5 (.slice TA x.slv.top.length tn) rfl; have c5_6 := Bx.at' HS5.out 6 (.slice OA x.slv.out.length on) rfl; clear hb))
    go_ret
    exact ⟨ret_bool HN.out.symm, HB1.out⟩
  · have HCl := Lib.hid (isQ_ok (tOk_tok HE1.out).2.2.1).2.2
    by_cases hnd : q2 = node
    rotate_left
    · have f2 : (q2 != node) = true := by simp [hnd]
      have HV := Lib.hid (show workOk p node x = false by rw [HV.out, decide_eq_false hnd]; simp)
      clear hnd
      go_enter Tryz.func66, Tryz.ntmps66
      go_wp2_with (first | (go_at_call 108; (with_reducible refine (HTr.out _ (HB0.out _ _ _)).mono ?_); rintro e w1 ⟨rfl, hb⟩; have HB1 := Lib.hid (bel_trans (HB0.out _ _ _) hb); have HP1 := Lib.hid (Bx.below (HP0.out _ _ _) hb); have HQ1 := Lib.hid (Bx.below (HQ0.out _ _ _) hb); have HS1 := Lib.hid (Bx.below (HS0.out _ _ _) hb); have a1_0 := Bx.at' HP1.out 0 (p1) rfl; have a1_1 := Bx.at' HP1.out 1 (p2) rfl; have b1_0 := Bx.at' HQ1.out 0 (.slice UA x.outs.length un) rfl; have b1_1 := Bx.at' HQ1.out 1 (.int .i64 x.want) rfl; have c1_0 := Bx.at' HS1.out 0 (.int .i64 x.slv.st) rfl; have c1_1 := Bx.at' HS1.out 1 (.slice GA x.slv.goals.length gn) rfl; have c1_2 := Bx.at' HS1.out 2 (.slice BA x.slv.binds.length bn) rfl; have c1_3 := Bx.at' HS1.out 3 (.int .i64 x.slv.vars) rfl; have c1_4 := Bx.at' HS1.out 4 (.slice CA x.slv.ch.length cn) rfl; have c1_5 := Bx.at' HS1.out 5 (.slice TA x.slv.top.length tn) rfl; have c1_6 := Bx.at' HS1.out 6 (.slice OA x.slv.out.length on) rfl; clear hb) | (go_at_call 109; (with_reducible refine (HNd.out _ HB1.out HCl.out).mono ?_); rintro e w2 ⟨rfl, hb⟩; have HB2 := Lib.hid (bel_trans HB1.out hb); have HP2 := Lib.hid (Bx.below HP1.out hb); have HQ2 := Lib.hid (Bx.below HQ1.out hb); have HS2 := Lib.hid (Bx.below HS1.out hb); have a2_0 := Bx.at' HP2.out 0 (p1) rfl; have a2_1 := Bx.at' HP2.out 1 (p2) rfl; have b2_0 := Bx.at' HQ2.out 0 (.slice UA x.outs.length un) rfl; have b2_1 := Bx.at' HQ2.out 1 (.int .i64 x.want) rfl; have c2_0 := Bx.at' HS2.out 0 (.int .i64 x.slv.st) rfl; have c2_1 := Bx.at' HS2.out 1 (.slice GA x.slv.goals.length gn) rfl; have c2_2 := Bx.at' HS2.out 2 (.slice BA x.slv.binds.length bn) rfl; have c2_3 := Bx.at' HS2.out 3 (.int .i64 x.slv.vars) rfl; have c2_4 := Bx.at' HS2.out 4 (.slice CA x.slv.ch.length cn) rfl; have c2_5 := Bx.at' HS2.out 5 (.slice TA x.slv.top.length tn) rfl; have c2_6 := Bx.at' HS2.out 6 (.slice OA x.slv.out.length on) rfl; clear hb) | (go_at_call 26; (with_reducible refine (HOs.out _ HB2.out).mono ?_); rintro e w3 ⟨rfl, hb⟩; have HB3 := Lib.hid (bel_trans HB2.out hb); have HP3 := Lib.hid (Bx.below HP2.out hb); have HQ3 := Lib.hid (Bx.below HQ2.out hb); have HS3 := Lib.hid (Bx.below HS2.out hb); have a3_0 := Bx.at' HP3.out 0 (p1) rfl; have a3_1 := Bx.at' HP3.out 1 (p2) rfl; have b3_0 := Bx.at' HQ3.out 0 (.slice UA x.outs.length un) rfl; have b3_1 := Bx.at' HQ3.out 1 (.int .i64 x.want) rfl; have c3_0 := Bx.at' HS3.out 0 (.int .i64 x.slv.st) rfl; have c3_1 := Bx.at' HS3.out 1 (.slice GA x.slv.goals.length gn) rfl; have c3_2 := Bx.at' HS3.out 2 (.slice BA x.slv.binds.length bn) rfl; have c3_3 := Bx.at' HS3.out 3 (.int .i64 x.slv.vars) rfl; have c3_4 := Bx.at' HS3.out 4 (.slice CA x.slv.ch.length cn) rfl; have c3_5 := Bx.at' HS3.out 5 (.slice TA x.slv.top.length tn) rfl; have c3_6 := Bx.at' HS3.out 6 (.slice OA x.slv.out.length on) rfl; clear hb) | (go_at_call 29; (with_reducible refine (HIn.out _).mono ?_); rintro e w4 ⟨rfl, rfl⟩) | (go_at_call 110; (with_reducible refine (HOp.out _).mono ?_); rintro e w5 ⟨rfl, hb⟩; have HB5 := Lib.hid (bel_trans HB3.out hb); have HP5 := Lib.hid (Bx.below HP3.out hb); have HQ5 := Lib.hid (Bx.below HQ3.out hb); have HS5 := Lib.hid (Bx.below HS3.out hb); have a5_0 := Bx.at' HP5.out 0 (p1) rfl; have a5_1 := Bx.at' HP5.out 1 (p2) rfl; have b5_0 := Bx.at' HQ5.out 0 (.slice UA x.outs.length un) rfl; have b5_1 := Bx.at' HQ5.out 1 (.int .i64 x.want) rfl; have c5_0 := Bx.at' HS5.out 0 (.int .i64 x.slv.st) rfl; have c5_1 := Bx.at' HS5.out 1 (.slice GA x.slv.goals.length gn) rfl; have c5_2 := Bx.at' HS5.out 2 (.slice BA x.slv.binds.length bn) rfl; have c5_3 := Bx.at' HS5.out 3 (.int .i64 x.slv.vars) rfl; have c5_4 := Bx.at' HS5.out 4 (.slice CA x.slv.ch.length cn) rfl; have c5_5 := Bx.at' HS5.out 5 (.slice TA x.slv.top.length tn) rfl; have c5_6 := Bx.at' HS5.out 6 (.slice OA x.slv.out.length on) rfl; clear hb))
      go_ret
      exact ⟨ret_bool HV.out.symm, HB2.out⟩
    have f2 : (q2 != node) = false := by simp [hnd]
    have HV := Lib.hid (show workOk p node x = (q3 && q4 && endPart x) by rw [HV.out, decide_eq_true hnd]; simp)
    clear hnd
    cases q3
    · have HN := Lib.hid (show workOk p node x = false by rw [HV.out]; simp)
      go_enter Tryz.func66, Tryz.ntmps66
      go_wp2_with (first | (go_at_call 108; (with_reducible refine (HTr.out _ (HB0.out _ _ _)).mono ?_); rintro e w1 ⟨rfl, hb⟩; have HB1 := Lib.hid (bel_trans (HB0.out _ _ _) hb); have HP1 := Lib.hid (Bx.below (HP0.out _ _ _) hb); have HQ1 := Lib.hid (Bx.below (HQ0.out _ _ _) hb); have HS1 := Lib.hid (Bx.below (HS0.out _ _ _) hb); have a1_0 := Bx.at' HP1.out 0 (p1) rfl; have a1_1 := Bx.at' HP1.out 1 (p2) rfl; have b1_0 := Bx.at' HQ1.out 0 (.slice UA x.outs.length un) rfl; have b1_1 := Bx.at' HQ1.out 1 (.int .i64 x.want) rfl; have c1_0 := Bx.at' HS1.out 0 (.int .i64 x.slv.st) rfl; have c1_1 := Bx.at' HS1.out 1 (.slice GA x.slv.goals.length gn) rfl; have c1_2 := Bx.at' HS1.out 2 (.slice BA x.slv.binds.length bn) rfl; have c1_3 := Bx.at' HS1.out 3 (.int .i64 x.slv.vars) rfl; have c1_4 := Bx.at' HS1.out 4 (.slice CA x.slv.ch.length cn) rfl; have c1_5 := Bx.at' HS1.out 5 (.slice TA x.slv.top.length tn) rfl; have c1_6 := Bx.at' HS1.out 6 (.slice OA x.slv.out.length on) rfl; clear hb) | (go_at_call 109; (with_reducible refine (HNd.out _ HB1.out HCl.out).mono ?_); rintro e w2 ⟨rfl, hb⟩; have HB2 := Lib.hid (bel_trans HB1.out hb); have HP2 := Lib.hid (Bx.below HP1.out hb); have HQ2 := Lib.hid (Bx.below HQ1.out hb); have HS2 := Lib.hid (Bx.below HS1.out hb); have a2_0 := Bx.at' HP2.out 0 (p1) rfl; have a2_1 := Bx.at' HP2.out 1 (p2) rfl; have b2_0 := Bx.at' HQ2.out 0 (.slice UA x.outs.length un) rfl; have b2_1 := Bx.at' HQ2.out 1 (.int .i64 x.want) rfl; have c2_0 := Bx.at' HS2.out 0 (.int .i64 x.slv.st) rfl; have c2_1 := Bx.at' HS2.out 1 (.slice GA x.slv.goals.length gn) rfl; have c2_2 := Bx.at' HS2.out 2 (.slice BA x.slv.binds.length bn) rfl; have c2_3 := Bx.at' HS2.out 3 (.int .i64 x.slv.vars) rfl; have c2_4 := Bx.at' HS2.out 4 (.slice CA x.slv.ch.length cn) rfl; have c2_5 := Bx.at' HS2.out 5 (.slice TA x.slv.top.length tn) rfl; have c2_6 := Bx.at' HS2.out 6 (.slice OA x.slv.out.length on) rfl; clear hb) | (go_at_call 26; (with_reducible refine (HOs.out _ HB2.out).mono ?_); rintro e w3 ⟨rfl, hb⟩; have HB3 := Lib.hid (bel_trans HB2.out hb); have HP3 := Lib.hid (Bx.below HP2.out hb); have HQ3 := Lib.hid (Bx.below HQ2.out hb); have HS3 := Lib.hid (Bx.below HS2.out hb); have a3_0 := Bx.at' HP3.out 0 (p1) rfl; have a3_1 := Bx.at' HP3.out 1 (p2) rfl; have b3_0 := Bx.at' HQ3.out 0 (.slice UA x.outs.length un) rfl; have b3_1 := Bx.at' HQ3.out 1 (.int .i64 x.want) rfl; have c3_0 := Bx.at' HS3.out 0 (.int .i64 x.slv.st) rfl; have c3_1 := Bx.at' HS3.out 1 (.slice GA x.slv.goals.length gn) rfl; have c3_2 := Bx.at' HS3.out 2 (.slice BA x.slv.binds.length bn) rfl; have c3_3 := Bx.at' HS3.out 3 (.int .i64 x.slv.vars) rfl; have c3_4 := Bx.at' HS3.out 4 (.slice CA x.slv.ch.length cn) rfl; have c3_5 := Bx.at' HS3.out 5 (.slice TA x.slv.top.length tn) rfl; have c3_6 := Bx.at' HS3.out 6 (.slice OA x.slv.out.length on) rfl; clear hb) | (go_at_call 29; (with_reducible refine (HIn.out _).mono ?_); rintro e w4 ⟨rfl, rfl⟩) | (go_at_call 110; (with_reducible refine (HOp.out _).mono ?_); rintro e w5 ⟨rfl, hb⟩; have HB5 := Lib.hid (bel_trans HB3.out hb); have HP5 := Lib.hid (Bx.below HP3.out hb); have HQ5 := Lib.hid (Bx.below HQ3.out hb); have HS5 := Lib.hid (Bx.below HS3.out hb); have a5_0 := Bx.at' HP5.out 0 (p1) rfl; have a5_1 := Bx.at' HP5.out 1 (p2) rfl; have b5_0 := Bx.at' HQ5.out 0 (.slice UA x.outs.length un) rfl; have b5_1 := Bx.at' HQ5.out 1 (.int .i64 x.want) rfl; have c5_0 := Bx.at' HS5.out 0 (.int .i64 x.slv.st) rfl; have c5_1 := Bx.at' HS5.out 1 (.slice GA x.slv.goals.length gn) rfl; have c5_2 := Bx.at' HS5.out 2 (.slice BA x.slv.binds.length bn) rfl; have c5_3 := Bx.at' HS5.out 3 (.int .i64 x.slv.vars) rfl; have c5_4 := Bx.at' HS5.out 4 (.slice CA x.slv.ch.length cn) rfl; have c5_5 := Bx.at' HS5.out 5 (.slice TA x.slv.top.length tn) rfl; have c5_6 := Bx.at' HS5.out 6 (.slice OA x.slv.out.length on) rfl; clear hb))
      go_ret
      exact ⟨ret_bool HN.out.symm, HB3.out⟩
    ·
      cases q4
      · have HN := Lib.hid (show workOk p node x = false by rw [HV.out]; simp)
        go_enter Tryz.func66, Tryz.ntmps66
        go_wp2_with (first | (go_at_call 108; (with_reducible refine (HTr.out _ (HB0.out _ _ _)).mono ?_); rintro e w1 ⟨rfl, hb⟩; have HB1 := Lib.hid (bel_trans (HB0.out _ _ _) hb); have HP1 := Lib.hid (Bx.below (HP0.out _ _ _) hb); have HQ1 := Lib.hid (Bx.below (HQ0.out _ _ _) hb); have HS1 := Lib.hid (Bx.below (HS0.out _ _ _) hb); have a1_0 := Bx.at' HP1.out 0 (p1) rfl; have a1_1 := Bx.at' HP1.out 1 (p2) rfl; have b1_0 := Bx.at' HQ1.out 0 (.slice UA x.outs.length un) rfl; have b1_1 := Bx.at' HQ1.out 1 (.int .i64 x.want) rfl; have c1_0 := Bx.at' HS1.out 0 (.int .i64 x.slv.st) rfl; have c1_1 := Bx.at' HS1.out 1 (.slice GA x.slv.goals.length gn) rfl; have c1_2 := Bx.at' HS1.out 2 (.slice BA x.slv.binds.length bn) rfl; have c1_3 := Bx.at' HS1.out 3 (.int .i64 x.slv.vars) rfl; have c1_4 := Bx.at' HS1.out 4 (.slice CA x.slv.ch.length cn) rfl; have c1_5 := Bx.at' HS1.out 5 (.slice TA x.slv.top.length tn) rfl; have c1_6 := Bx.at' HS1.out 6 (.slice OA x.slv.out.length on) rfl; clear hb) | (go_at_call 109; (with_reducible refine (HNd.out _ HB1.out HCl.out).mono ?_); rintro e w2 ⟨rfl, hb⟩; have HB2 := Lib.hid (bel_trans HB1.out hb); have HP2 := Lib.hid (Bx.below HP1.out hb); have HQ2 := Lib.hid (Bx.below HQ1.out hb); have HS2 := Lib.hid (Bx.below HS1.out hb); have a2_0 := Bx.at' HP2.out 0 (p1) rfl; have a2_1 := Bx.at' HP2.out 1 (p2) rfl; have b2_0 := Bx.at' HQ2.out 0 (.slice UA x.outs.length un) rfl; have b2_1 := Bx.at' HQ2.out 1 (.int .i64 x.want) rfl; have c2_0 := Bx.at' HS2.out 0 (.int .i64 x.slv.st) rfl; have c2_1 := Bx.at' HS2.out 1 (.slice GA x.slv.goals.length gn) rfl; have c2_2 := Bx.at' HS2.out 2 (.slice BA x.slv.binds.length bn) rfl; have c2_3 := Bx.at' HS2.out 3 (.int .i64 x.slv.vars) rfl; have c2_4 := Bx.at' HS2.out 4 (.slice CA x.slv.ch.length cn) rfl; have c2_5 := Bx.at' HS2.out 5 (.slice TA x.slv.top.length tn) rfl; have c2_6 := Bx.at' HS2.out 6 (.slice OA x.slv.out.length on) rfl; clear hb) | (go_at_call 26; (with_reducible refine (HOs.out _ HB2.out).mono ?_); rintro e w3 ⟨rfl, hb⟩; have HB3 := Lib.hid (bel_trans HB2.out hb); have HP3 := Lib.hid (Bx.below HP2.out hb); have HQ3 := Lib.hid (Bx.below HQ2.out hb); have HS3 := Lib.hid (Bx.below HS2.out hb); have a3_0 := Bx.at' HP3.out 0 (p1) rfl; have a3_1 := Bx.at' HP3.out 1 (p2) rfl; have b3_0 := Bx.at' HQ3.out 0 (.slice UA x.outs.length un) rfl; have b3_1 := Bx.at' HQ3.out 1 (.int .i64 x.want) rfl; have c3_0 := Bx.at' HS3.out 0 (.int .i64 x.slv.st) rfl; have c3_1 := Bx.at' HS3.out 1 (.slice GA x.slv.goals.length gn) rfl; have c3_2 := Bx.at' HS3.out 2 (.slice BA x.slv.binds.length bn) rfl; have c3_3 := Bx.at' HS3.out 3 (.int .i64 x.slv.vars) rfl; have c3_4 := Bx.at' HS3.out 4 (.slice CA x.slv.ch.length cn) rfl; have c3_5 := Bx.at' HS3.out 5 (.slice TA x.slv.top.length tn) rfl; have c3_6 := Bx.at' HS3.out 6 (.slice OA x.slv.out.length on) rfl; clear hb) | (go_at_call 29; (with_reducible refine (HIn.out _).mono ?_); rintro e w4 ⟨rfl, rfl⟩) | (go_at_call 110; (with_reducible refine (HOp.out _).mono ?_); rintro e w5 ⟨rfl, hb⟩; have HB5 := Lib.hid (bel_trans HB3.out hb); have HP5 := Lib.hid (Bx.below HP3.out hb); have HQ5 := Lib.hid (Bx.below HQ3.out hb); have HS5 := Lib.hid (Bx.below HS3.out hb); have a5_0 := Bx.at' HP5.out 0 (p1) rfl; have a5_1 := Bx.at' HP5.out 1 (p2) rfl; have b5_0 := Bx.at' HQ5.out 0 (.slice UA x.outs.length un) rfl; have b5_1 := Bx.at' HQ5.out 1 (.int .i64 x.want) rfl; have c5_0 := Bx.at' HS5.out 0 (.int .i64 x.slv.st) rfl; have c5_1 := Bx.at' HS5.out 1 (.slice GA x.slv.goals.length gn) rfl; have c5_2 := Bx.at' HS5.out 2 (.slice BA x.slv.binds.length bn) rfl; have c5_3 := Bx.at' HS5.out 3 (.int .i64 x.slv.vars) rfl; have c5_4 := Bx.at' HS5.out 4 (.slice CA x.slv.ch.length cn) rfl; have c5_5 := Bx.at' HS5.out 5 (.slice TA x.slv.top.length tn) rfl; have c5_6 := Bx.at' HS5.out 6 (.slice OA x.slv.out.length on) rfl; clear hb))
        go_ret
        exact ⟨ret_bool HN.out.symm, HB3.out⟩
      ·
        have HZ := Lib.hid (show workOk p node x = endPart x by rw [HV.out]; rfl)
        by_cases k16 : x.slv.st = 1 ∨ x.slv.st = 6
        · have HZ := Lib.hid (show workOk p node x = !endedO x.outs by rw [HZ.out]; unfold endPart; rw [if_pos k16])
          rw [show (x.slv.st == 1 || x.slv.st == 6) = true by rcases k16 with h | h <;> rw [h] <;> rfl] at HOp
          clear k16
          by_cases hm : x.outs.length = 0
          · have HN := Lib.hid (show workOk p node x = true by rw [HZ.out, show x.outs = [] from List.eq_nil_of_length_eq_zero hm]; rfl)
            have e0 : decide ((x.outs.length : Int) - 1 < 0) = true := decide_eq_true (by omega)
            clear hm
            go_enter Tryz.func66, Tryz.ntmps66
            go_wp2_with (first | (go_at_call 108; (with_reducible refine (HTr.out _ (HB0.out _ _ _)).mono ?_); rintro e w1 ⟨rfl, hb⟩; have HB1 := Lib.hid (bel_trans (HB0.out _ _ _) hb); have HP1 := Lib.hid (Bx.below (HP0.out _ _ _) hb); have HQ1 := Lib.hid (Bx.below (HQ0.out _ _ _) hb); have HS1 := Lib.hid (Bx.below (HS0.out _ _ _) hb); have a1_0 := Bx.at' HP1.out 0 (p1) rfl; have a1_1 := Bx.at' HP1.out 1 (p2) rfl; have b1_0 := Bx.at' HQ1.out 0 (.slice UA x.outs.length un) rfl; have b1_1 := Bx.at' HQ1.out 1 (.int .i64 x.want) rfl; have c1_0 := Bx.at' HS1.out 0 (.int .i64 x.slv.st) rfl; have c1_1 := Bx.at' HS1.out 1 (.slice GA x.slv.goals.length gn) rfl; have c1_2 := Bx.at' HS1.out 2 (.slice BA x.slv.binds.length bn) rfl; have c1_3 := Bx.at' HS1.out 3 (.int .i64 x.slv.vars) rfl; have c1_4 := Bx.at' HS1.out 4 (.slice CA x.slv.ch.length cn) rfl; have c1_5 := Bx.at' HS1.out 5 (.slice TA x.slv.top.length tn) rfl; have c1_6 := Bx.at' HS1.out 6 (.slice OA x.slv.out.length on) rfl; clear hb) | (go_at_call 109; (with_reducible refine (HNd.out _ HB1.out HCl.out).mono ?_); rintro e w2 ⟨rfl, hb⟩; have HB2 := Lib.hid (bel_trans HB1.out hb); have HP2 := Lib.hid (Bx.below HP1.out hb); have HQ2 := Lib.hid (Bx.below HQ1.out hb); have HS2 := Lib.hid (Bx.below HS1.out hb); have a2_0 := Bx.at' HP2.out 0 (p1) rfl; have a2_1 := Bx.at' HP2.out 1 (p2) rfl; have b2_0 := Bx.at' HQ2.out 0 (.slice UA x.outs.length un) rfl; have b2_1 := Bx.at' HQ2.out 1 (.int .i64 x.want) rfl; have c2_0 := Bx.at' HS2.out 0 (.int .i64 x.slv.st) rfl; have c2_1 := Bx.at' HS2.out 1 (.slice GA x.slv.goals.length gn) rfl; have c2_2 := Bx.at' HS2.out 2 (.slice BA x.slv.binds.length bn) rfl; have c2_3 := Bx.at' HS2.out 3 (.int .i64 x.slv.vars) rfl; have c2_4 := Bx.at' HS2.out 4 (.slice CA x.slv.ch.length cn) rfl; have c2_5 := Bx.at' HS2.out 5 (.slice TA x.slv.top.length tn) rfl; have c2_6 := Bx.at' HS2.out 6 (.slice OA x.slv.out.length on) rfl; clear hb) | (go_at_call 26; (with_reducible refine (HOs.out _ HB2.out).mono ?_); rintro e w3 ⟨rfl, hb⟩; have HB3 := Lib.hid (bel_trans HB2.out hb); have HP3 := Lib.hid (Bx.below HP2.out hb); have HQ3 := Lib.hid (Bx.below HQ2.out hb); have HS3 := Lib.hid (Bx.below HS2.out hb); have a3_0 := Bx.at' HP3.out 0 (p1) rfl; have a3_1 := Bx.at' HP3.out 1 (p2) rfl; have b3_0 := Bx.at' HQ3.out 0 (.slice UA x.outs.length un) rfl; have b3_1 := Bx.at' HQ3.out 1 (.int .i64 x.want) rfl; have c3_0 := Bx.at' HS3.out 0 (.int .i64 x.slv.st) rfl; have c3_1 := Bx.at' HS3.out 1 (.slice GA x.slv.goals.length gn) rfl; have c3_2 := Bx.at' HS3.out 2 (.slice BA x.slv.binds.length bn) rfl; have c3_3 := Bx.at' HS3.out 3 (.int .i64 x.slv.vars) rfl; have c3_4 := Bx.at' HS3.out 4 (.slice CA x.slv.ch.length cn) rfl; have c3_5 := Bx.at' HS3.out 5 (.slice TA x.slv.top.length tn) rfl; have c3_6 := Bx.at' HS3.out 6 (.slice OA x.slv.out.length on) rfl; clear hb) | (go_at_call 29; (with_reducible refine (HIn.out _).mono ?_); rintro e w4 ⟨rfl, rfl⟩) | (go_at_call 110; (with_reducible refine (HOp.out _).mono ?_); rintro e w5 ⟨rfl, hb⟩; have HB5 := Lib.hid (bel_trans HB3.out hb); have HP5 := Lib.hid (Bx.below HP3.out hb); have HQ5 := Lib.hid (Bx.below HQ3.out hb); have HS5 := Lib.hid (Bx.below HS3.out hb); have a5_0 := Bx.at' HP5.out 0 (p1) rfl; have a5_1 := Bx.at' HP5.out 1 (p2) rfl; have b5_0 := Bx.at' HQ5.out 0 (.slice UA x.outs.length un) rfl; have b5_1 := Bx.at' HQ5.out 1 (.int .i64 x.want) rfl; have c5_0 := Bx.at' HS5.out 0 (.int .i64 x.slv.st) rfl; have c5_1 := Bx.at' HS5.out 1 (.slice GA x.slv.goals.length gn) rfl; have c5_2 := Bx.at' HS5.out 2 (.slice BA x.slv.binds.length bn) rfl; have c5_3 := Bx.at' HS5.out 3 (.int .i64 x.slv.vars) rfl; have c5_4 := Bx.at' HS5.out 4 (.slice CA x.slv.ch.length cn) rfl; have c5_5 := Bx.at' HS5.out 5 (.slice TA x.slv.top.length tn) rfl; have c5_6 := Bx.at' HS5.out 6 (.slice OA x.slv.out.length on) rfl; clear hb))
            go_ret
            exact ⟨ret_bool HN.out.symm, HB5.out⟩
          ·
            obtain ⟨m, hm⟩ : ∃ m, x.outs.length = m + 1 := ⟨x.outs.length - 1, by omega⟩
            obtain ⟨o, ho⟩ : ∃ o, x.outs[m]? = some o := ⟨_, List.getElem?_eq_getElem (by omega)⟩
            have HLast := Lib.hid (show x.outs.getLast? = some o by rw [List.getLast?_eq_getElem?, show x.outs.length - 1 = m by omega]; exact ho)
            have hsub : (x.outs.length : Int) - 1 = (m : Int) := by omega
            have hlt : m < x.outs.length := by omega
            have e0 : decide ((m : Int) < 0) = false := decide_eq_false (by omega)
            obtain ⟨ad, v1, rfl, z0, z1, hz⟩ := dbind_at HUC.out ho
            have HO1 := Lib.hid hz
            have HOl := Lib.hid (fit_len (HOut.out o (List.mem_of_getElem? ho)))
            obtain ⟨VA, vc, rfl, -, -, -⟩ := hz
            clear hm ho
            have HN := Lib.hid (show workOk p node x = (o.1 == 2) by rw [HZ.out]; unfold endedO; rw [HLast.out]; simp [BEq.beq])
            obtain ⟨zs, ezs⟩ : ∃ q, (o.1 == 2) = q := ⟨_, rfl⟩
            rw [ezs] at HN
            go_enter Tryz.func66, Tryz.ntmps66
            go_wp2_with (first | (go_at_call 108; (with_reducible refine (HTr.out _ (HB0.out _ _ _)).mono ?_); rintro e w1 ⟨rfl, hb⟩; have HB1 := Lib.hid (bel_trans (HB0.out _ _ _) hb); have HP1 := Lib.hid (Bx.below (HP0.out _ _ _) hb); have HQ1 := Lib.hid (Bx.below (HQ0.out _ _ _) hb); have HS1 := Lib.hid (Bx.below (HS0.out _ _ _) hb); have a1_0 := Bx.at' HP1.out 0 (p1) rfl; have a1_1 := Bx.at' HP1.out 1 (p2) rfl; have b1_0 := Bx.at' HQ1.out 0 (.slice (some ad) x.outs.length un) rfl; have b1_1 := Bx.at' HQ1.out 1 (.int .i64 x.want) rfl; have c1_0 := Bx.at' HS1.out 0 (.int .i64 x.slv.st) rfl; have c1_1 := Bx.at' HS1.out 1 (.slice GA x.slv.goals.length gn) rfl; have c1_2 := Bx.at' HS1.out 2 (.slice BA x.slv.binds.length bn) rfl; have c1_3 := Bx.at' HS1.out 3 (.int .i64 x.slv.vars) rfl; have c1_4 := Bx.at' HS1.out 4 (.slice CA x.slv.ch.length cn) rfl; have c1_5 := Bx.at' HS1.out 5 (.slice TA x.slv.top.length tn) rfl; have c1_6 := Bx.at' HS1.out 6 (.slice OA x.slv.out.length on) rfl; clear hb) | (go_at_call 109; (with_reducible refine (HNd.out _ HB1.out HCl.out).mono ?_); rintro e w2 ⟨rfl, hb⟩; have HB2 := Lib.hid (bel_trans HB1.out hb); have HP2 := Lib.hid (Bx.below HP1.out hb); have HQ2 := Lib.hid (Bx.below HQ1.out hb); have HS2 := Lib.hid (Bx.below HS1.out hb); have a2_0 := Bx.at' HP2.out 0 (p1) rfl; have a2_1 := Bx.at' HP2.out 1 (p2) rfl; have b2_0 := Bx.at' HQ2.out 0 (.slice (some ad) x.outs.length un) rfl; have b2_1 := Bx.at' HQ2.out 1 (.int .i64 x.want) rfl; have c2_0 := Bx.at' HS2.out 0 (.int .i64 x.slv.st) rfl; have c2_1 := Bx.at' HS2.out 1 (.slice GA x.slv.goals.length gn) rfl; have c2_2 := Bx.at' HS2.out 2 (.slice BA x.slv.binds.length bn) rfl; have c2_3 := Bx.at' HS2.out 3 (.int .i64 x.slv.vars) rfl; have c2_4 := Bx.at' HS2.out 4 (.slice CA x.slv.ch.length cn) rfl; have c2_5 := Bx.at' HS2.out 5 (.slice TA x.slv.top.length tn) rfl; have c2_6 := Bx.at' HS2.out 6 (.slice OA x.slv.out.length on) rfl; clear hb) | (go_at_call 26; (with_reducible refine (HOs.out _ HB2.out).mono ?_); rintro e w3 ⟨rfl, hb⟩; have HB3 := Lib.hid (bel_trans HB2.out hb); have HP3 := Lib.hid (Bx.below HP2.out hb); have HQ3 := Lib.hid (Bx.below HQ2.out hb); have HS3 := Lib.hid (Bx.below HS2.out hb); have a3_0 := Bx.at' HP3.out 0 (p1) rfl; have a3_1 := Bx.at' HP3.out 1 (p2) rfl; have b3_0 := Bx.at' HQ3.out 0 (.slice (some ad) x.outs.length un) rfl; have b3_1 := Bx.at' HQ3.out 1 (.int .i64 x.want) rfl; have c3_0 := Bx.at' HS3.out 0 (.int .i64 x.slv.st) rfl; have c3_1 := Bx.at' HS3.out 1 (.slice GA x.slv.goals.length gn) rfl; have c3_2 := Bx.at' HS3.out 2 (.slice BA x.slv.binds.length bn) rfl; have c3_3 := Bx.at' HS3.out 3 (.int .i64 x.slv.vars) rfl; have c3_4 := Bx.at' HS3.out 4 (.slice CA x.slv.ch.length cn) rfl; have c3_5 := Bx.at' HS3.out 5 (.slice TA x.slv.top.length tn) rfl; have c3_6 := Bx.at' HS3.out 6 (.slice OA x.slv.out.length on) rfl; clear hb) | (go_at_call 29; (with_reducible refine (HIn.out _).mono ?_); rintro e w4 ⟨rfl, rfl⟩) | (go_at_call 110; (with_reducible refine (HOp.out _).mono ?_); rintro e w5 ⟨rfl, hb⟩; have HB5 := Lib.hid (bel_trans HB3.out hb); have HP5 := Lib.hid (Bx.below HP3.out hb); have HQ5 := Lib.hid (Bx.below HQ3.out hb); have HS5 := Lib.hid (Bx.below HS3.out hb); have a5_0 := Bx.at' HP5.out 0 (p1) rfl; have a5_1 := Bx.at' HP5.out 1 (p2) rfl; have b5_0 := Bx.at' HQ5.out 0 (.slice (some ad) x.outs.length un) rfl; have b5_1 := Bx.at' HQ5.out 1 (.int .i64 x.want) rfl; have c5_0 := Bx.at' HS5.out 0 (.int .i64 x.slv.st) rfl; have c5_1 := Bx.at' HS5.out 1 (.slice GA x.slv.goals.length gn) rfl; have c5_2 := Bx.at' HS5.out 2 (.slice BA x.slv.binds.length bn) rfl; have c5_3 := Bx.at' HS5.out 3 (.int .i64 x.slv.vars) rfl; have c5_4 := Bx.at' HS5.out 4 (.slice CA x.slv.ch.length cn) rfl; have c5_5 := Bx.at' HS5.out 5 (.slice TA x.slv.top.length tn) rfl; have c5_6 := Bx.at' HS5.out 6 (.slice OA x.slv.out.length on) rfl; clear hb; have l0 := cell_keep HB5.out z0; have l1 := cell_keep HB5.out z1))
            go_ret
            exact ⟨ret_bool HN.out.symm, HB5.out⟩
        · have HZ := Lib.hid (show workOk p node x = lastIs x.outs x.slv.st x.slv.out by rw [HZ.out]; unfold endPart; rw [if_neg k16])
          rw [show (x.slv.st == 1 || x.slv.st == 6) = false by rw [beq_eq_false_iff_ne.2 (fun h => k16 (.inl h)), beq_eq_false_iff_ne.2 (fun h => k16 (.inr h))]; rfl] at HOp
          clear k16
          by_cases hm : x.outs.length = 0
          · have HN := Lib.hid (show workOk p node x = false by rw [HZ.out, show x.outs = [] from List.eq_nil_of_length_eq_zero hm]; rfl)
            have e0 : decide ((x.outs.length : Int) - 1 < 0) = true := decide_eq_true (by omega)
            clear hm
            go_enter Tryz.func66, Tryz.ntmps66
            go_wp2_with (first | (go_at_call 108; (with_reducible refine (HTr.out _ (HB0.out _ _ _)).mono ?_); rintro e w1 ⟨rfl, hb⟩; have HB1 := Lib.hid (bel_trans (HB0.out _ _ _) hb); have HP1 := Lib.hid (Bx.below (HP0.out _ _ _) hb); have HQ1 := Lib.hid (Bx.below (HQ0.out _ _ _) hb); have HS1 := Lib.hid (Bx.below (HS0.out _ _ _) hb); have a1_0 := Bx.at' HP1.out 0 (p1) rfl; have a1_1 := Bx.at' HP1.out 1 (p2) rfl; have b1_0 := Bx.at' HQ1.out 0 (.slice UA x.outs.length un) rfl; have b1_1 := Bx.at' HQ1.out 1 (.int .i64 x.want) rfl; have c1_0 := Bx.at' HS1.out 0 (.int .i64 x.slv.st) rfl; have c1_1 := Bx.at' HS1.out 1 (.slice GA x.slv.goals.length gn) rfl; have c1_2 := Bx.at' HS1.out 2 (.slice BA x.slv.binds.length bn) rfl; have c1_3 := Bx.at' HS1.out 3 (.int .i64 x.slv.vars) rfl; have c1_4 := Bx.at' HS1.out 4 (.slice CA x.slv.ch.length cn) rfl; have c1_5 := Bx.at' HS1.out 5 (.slice TA x.slv.top.length tn) rfl; have c1_6 := Bx.at' HS1.out 6 (.slice OA x.slv.out.length on) rfl; clear hb) | (go_at_call 109; (with_reducible refine (HNd.out _ HB1.out HCl.out).mono ?_); rintro e w2 ⟨rfl, hb⟩; have HB2 := Lib.hid (bel_trans HB1.out hb); have HP2 := Lib.hid (Bx.below HP1.out hb); have HQ2 := Lib.hid (Bx.below HQ1.out hb); have HS2 := Lib.hid (Bx.below HS1.out hb); have a2_0 := Bx.at' HP2.out 0 (p1) rfl; have a2_1 := Bx.at' HP2.out 1 (p2) rfl; have b2_0 := Bx.at' HQ2.out 0 (.slice UA x.outs.length un) rfl; have b2_1 := Bx.at' HQ2.out 1 (.int .i64 x.want) rfl; have c2_0 := Bx.at' HS2.out 0 (.int .i64 x.slv.st) rfl; have c2_1 := Bx.at' HS2.out 1 (.slice GA x.slv.goals.length gn) rfl; have c2_2 := Bx.at' HS2.out 2 (.slice BA x.slv.binds.length bn) rfl; have c2_3 := Bx.at' HS2.out 3 (.int .i64 x.slv.vars) rfl; have c2_4 := Bx.at' HS2.out 4 (.slice CA x.slv.ch.length cn) rfl; have c2_5 := Bx.at' HS2.out 5 (.slice TA x.slv.top.length tn) rfl; have c2_6 := Bx.at' HS2.out 6 (.slice OA x.slv.out.length on) rfl; clear hb) | (go_at_call 26; (with_reducible refine (HOs.out _ HB2.out).mono ?_); rintro e w3 ⟨rfl, hb⟩; have HB3 := Lib.hid (bel_trans HB2.out hb); have HP3 := Lib.hid (Bx.below HP2.out hb); have HQ3 := Lib.hid (Bx.below HQ2.out hb); have HS3 := Lib.hid (Bx.below HS2.out hb); have a3_0 := Bx.at' HP3.out 0 (p1) rfl; have a3_1 := Bx.at' HP3.out 1 (p2) rfl; have b3_0 := Bx.at' HQ3.out 0 (.slice UA x.outs.length un) rfl; have b3_1 := Bx.at' HQ3.out 1 (.int .i64 x.want) rfl; have c3_0 := Bx.at' HS3.out 0 (.int .i64 x.slv.st) rfl; have c3_1 := Bx.at' HS3.out 1 (.slice GA x.slv.goals.length gn) rfl; have c3_2 := Bx.at' HS3.out 2 (.slice BA x.slv.binds.length bn) rfl; have c3_3 := Bx.at' HS3.out 3 (.int .i64 x.slv.vars) rfl; have c3_4 := Bx.at' HS3.out 4 (.slice CA x.slv.ch.length cn) rfl; have c3_5 := Bx.at' HS3.out 5 (.slice TA x.slv.top.length tn) rfl; have c3_6 := Bx.at' HS3.out 6 (.slice OA x.slv.out.length on) rfl; clear hb) | (go_at_call 29; (with_reducible refine (HIn.out _).mono ?_); rintro e w4 ⟨rfl, rfl⟩) | (go_at_call 110; (with_reducible refine (HOp.out _).mono ?_); rintro e w5 ⟨rfl, hb⟩; have HB5 := Lib.hid (bel_trans HB3.out hb); have HP5 := Lib.hid (Bx.below HP3.out hb); have HQ5 := Lib.hid (Bx.below HQ3.out hb); have HS5 := Lib.hid (Bx.below HS3.out hb); have a5_0 := Bx.at' HP5.out 0 (p1) rfl; have a5_1 := Bx.at' HP5.out 1 (p2) rfl; have b5_0 := Bx.at' HQ5.out 0 (.slice UA x.outs.length un) rfl; have b5_1 := Bx.at' HQ5.out 1 (.int .i64 x.want) rfl; have c5_0 := Bx.at' HS5.out 0 (.int .i64 x.slv.st) rfl; have c5_1 := Bx.at' HS5.out 1 (.slice GA x.slv.goals.length gn) rfl; have c5_2 := Bx.at' HS5.out 2 (.slice BA x.slv.binds.length bn) rfl; have c5_3 := Bx.at' HS5.out 3 (.int .i64 x.slv.vars) rfl; have c5_4 := Bx.at' HS5.out 4 (.slice CA x.slv.ch.length cn) rfl; have c5_5 := Bx.at' HS5.out 5 (.slice TA x.slv.top.length tn) rfl; have c5_6 := Bx.at' HS5.out 6 (.slice OA x.slv.out.length on) rfl; clear hb))
            go_ret
            exact ⟨ret_bool HN.out.symm, HB5.out⟩
          ·
            obtain ⟨m, hm⟩ : ∃ m, x.outs.length = m + 1 := ⟨x.outs.length - 1, by omega⟩
            obtain ⟨o, ho⟩ : ∃ o, x.outs[m]? = some o := ⟨_, List.getElem?_eq_getElem (by omega)⟩
            have HLast := Lib.hid (show x.outs.getLast? = some o by rw [List.getLast?_eq_getElem?, show x.outs.length - 1 = m by omega]; exact ho)
            have hsub : (x.outs.length : Int) - 1 = (m : Int) := by omega
            have hlt : m < x.outs.length := by omega
            have e0 : decide ((m : Int) < 0) = false := decide_eq_false (by omega)
            obtain ⟨ad, v1, rfl, z0, z1, hz⟩ := dbind_at HUC.out ho
            have HO1 := Lib.hid hz
            have HOl := Lib.hid (fit_len (HOut.out o (List.mem_of_getElem? ho)))
            obtain ⟨VA, vc, rfl, -, -, -⟩ := hz
            clear hm ho
            by_cases ko : o.1 = x.slv.st
            · have fo : (o.1 == x.slv.st) = true := beq_iff_eq.2 ko
              obtain ⟨zs, ezs⟩ : ∃ q, decide (o.2 = x.slv.out) = q := ⟨_, rfl⟩
              have HN := Lib.hid (show workOk p node x = zs by rw [HZ.out]; unfold lastIs; rw [HLast.out]; simp [ko, ezs])
              have HSm := Lib.hid (fun W (hb : Below w.heap.size w W) => sameI_c o.2 x.slv.out (.slice VA o.2.length vc) (.slice OA x.slv.out.length on) W (Kd.S_ext hb HO1.out) (HX.out.ext hb).s.o HOl.out (fit_len HFS.out.2.2.2.2))
              rw [ezs] at HSm
              clear ezs ko
              cases zs
              all_goals
                go_enter Tryz.func66, Tryz.ntmps66
                go_upto_region 9 with (first | (go_at_call 108; (with_reducible refine (HTr.out _ (HB0.out _ _ _)).mono ?_); rintro e w1 ⟨rfl, hb⟩; have HB1 := Lib.hid (bel_trans (HB0.out _ _ _) hb); have HP1 := Lib.hid (Bx.below (HP0.out _ _ _) hb); have HQ1 := Lib.hid (Bx.below (HQ0.out _ _ _) hb); have HS1 := Lib.hid (Bx.below (HS0.out _ _ _) hb); have a1_0 := Bx.at' HP1.out 0 (p1) rfl; have a1_1 := Bx.at' HP1.out 1 (p2) rfl; have b1_0 := Bx.at' HQ1.out 0 (.slice (some ad) x.outs.length un) rfl; have b1_1 := Bx.at' HQ1.out 1 (.int .i64 x.want) rfl; have c1_0 := Bx.at' HS1.out 0 (.int .i64 x.slv.st) rfl; have c1_1 := Bx.at' HS1.out 1 (.slice GA x.slv.goals.length gn) rfl; have c1_2 := Bx.at' HS1.out 2 (.slice BA x.slv.binds.length bn) rfl; have c1_3 := Bx.at' HS1.out 3 (.int .i64 x.slv.vars) rfl; have c1_4 := Bx.at' HS1.out 4 (.slice CA x.slv.ch.length cn) rfl; have c1_5 := Bx.at' HS1.out 5 (.slice TA x.slv.top.length tn) rfl; have c1_6 := Bx.at' HS1.out 6 (.slice OA x.slv.out.length on) rfl; clear hb) | (go_at_call 109; (with_reducible refine (HNd.out _ HB1.out HCl.out).mono ?_); rintro e w2 ⟨rfl, hb⟩; have HB2 := Lib.hid (bel_trans HB1.out hb); have HP2 := Lib.hid (Bx.below HP1.out hb); have HQ2 := Lib.hid (Bx.below HQ1.out hb); have HS2 := Lib.hid (Bx.below HS1.out hb); have a2_0 := Bx.at' HP2.out 0 (p1) rfl; have a2_1 := Bx.at' HP2.out 1 (p2) rfl; have b2_0 := Bx.at' HQ2.out 0 (.slice (some ad) x.outs.length un) rfl; have b2_1 := Bx.at' HQ2.out 1 (.int .i64 x.want) rfl; have c2_0 := Bx.at' HS2.out 0 (.int .i64 x.slv.st) rfl; have c2_1 := Bx.at' HS2.out 1 (.slice GA x.slv.goals.length gn) rfl; have c2_2 := Bx.at' HS2.out 2 (.slice BA x.slv.binds.length bn) rfl; have c2_3 := Bx.at' HS2.out 3 (.int .i64 x.slv.vars) rfl; have c2_4 := Bx.at' HS2.out 4 (.slice CA x.slv.ch.length cn) rfl; have c2_5 := Bx.at' HS2.out 5 (.slice TA x.slv.top.length tn) rfl; have c2_6 := Bx.at' HS2.out 6 (.slice OA x.slv.out.length on) rfl; clear hb) | (go_at_call 26; (with_reducible refine (HOs.out _ HB2.out).mono ?_); rintro e w3 ⟨rfl, hb⟩; have HB3 := Lib.hid (bel_trans HB2.out hb); have HP3 := Lib.hid (Bx.below HP2.out hb); have HQ3 := Lib.hid (Bx.below HQ2.out hb); have HS3 := Lib.hid (Bx.below HS2.out hb); have a3_0 := Bx.at' HP3.out 0 (p1) rfl; have a3_1 := Bx.at' HP3.out 1 (p2) rfl; have b3_0 := Bx.at' HQ3.out 0 (.slice (some ad) x.outs.length un) rfl; have b3_1 := Bx.at' HQ3.out 1 (.int .i64 x.want) rfl; have c3_0 := Bx.at' HS3.out 0 (.int .i64 x.slv.st) rfl; have c3_1 := Bx.at' HS3.out 1 (.slice GA x.slv.goals.length gn) rfl; have c3_2 := Bx.at' HS3.out 2 (.slice BA x.slv.binds.length bn) rfl; have c3_3 := Bx.at' HS3.out 3 (.int .i64 x.slv.vars) rfl; have c3_4 := Bx.at' HS3.out 4 (.slice CA x.slv.ch.length cn) rfl; have c3_5 := Bx.at' HS3.out 5 (.slice TA x.slv.top.length tn) rfl; have c3_6 := Bx.at' HS3.out 6 (.slice OA x.slv.out.length on) rfl; clear hb) | (go_at_call 29; (with_reducible refine (HIn.out _).mono ?_); rintro e w4 ⟨rfl, rfl⟩) | (go_at_call 110; (with_reducible refine (HOp.out _).mono ?_); rintro e w5 ⟨rfl, hb⟩; have HB5 := Lib.hid (bel_trans HB3.out hb); have HP5 := Lib.hid (Bx.below HP3.out hb); have HQ5 := Lib.hid (Bx.below HQ3.out hb); have HS5 := Lib.hid (Bx.below HS3.out hb); have a5_0 := Bx.at' HP5.out 0 (p1) rfl; have a5_1 := Bx.at' HP5.out 1 (p2) rfl; have b5_0 := Bx.at' HQ5.out 0 (.slice (some ad) x.outs.length un) rfl; have b5_1 := Bx.at' HQ5.out 1 (.int .i64 x.want) rfl; have c5_0 := Bx.at' HS5.out 0 (.int .i64 x.slv.st) rfl; have c5_1 := Bx.at' HS5.out 1 (.slice GA x.slv.goals.length gn) rfl; have c5_2 := Bx.at' HS5.out 2 (.slice BA x.slv.binds.length bn) rfl; have c5_3 := Bx.at' HS5.out 3 (.int .i64 x.slv.vars) rfl; have c5_4 := Bx.at' HS5.out 4 (.slice CA x.slv.ch.length cn) rfl; have c5_5 := Bx.at' HS5.out 5 (.slice TA x.slv.top.length tn) rfl; have c5_6 := Bx.at' HS5.out 6 (.slice OA x.slv.out.length on) rfl; clear hb; have l0 := cell_keep HB5.out z0; have l1 := cell_keep HB5.out z1))
                refine wp_region_below (by kernel_rfl) (by kernel_rfl) ?_; (repeat (first | go_big_quiet_skip | (go_big_quiet_want; first | fail | (refine quiet_cell rfl rfl (fun W v hv => (by go_simp)) (fun W hW => BelC.cell hW (by assumption)) ?_; go_big_quiet_on; simp only [Act.put, List.setIfInBounds_toArray, List.set_cons_zero, List.set_cons_succ]) | (go_big_quiet_op; first | go_big_quiet_on | ((with_reducible refine ⟨_, fun W' hW => (HSm.out W' (bel_trans HB5.out hW.bel)).mono (fun e w' hh => ⟨hh.1, hW.step hh.2⟩), ?_⟩); go_big_quiet_on) | (refine ⟨_, fun _ _ => rfl, ?_⟩; go_big_quiet_on))))); refine wpQuiet_nil ?_; intro w2 hw2
                go_wp2
                go_ret
                exact ⟨ret_bool HN.out.symm, bel_trans HB5.out hw2.bel⟩
            · have fo : (o.1 == x.slv.st) = false := beq_eq_false_iff_ne.2 ko
              have HN := Lib.hid (show workOk p node x = false by rw [HZ.out]; unfold lastIs; rw [HLast.out]; simp [ko])
              clear ko
              go_enter Tryz.func66, Tryz.ntmps66
              go_upto_region 9 with (first | (go_at_call 108; (with_reducible refine (HTr.out _ (HB0.out _ _ _)).mono ?_); rintro e w1 ⟨rfl, hb⟩; have HB1 := Lib.hid (bel_trans (HB0.out _ _ _) hb); have HP1 := Lib.hid (Bx.below (HP0.out _ _ _) hb); have HQ1 := Lib.hid (Bx.below (HQ0.out _ _ _) hb); have HS1 := Lib.hid (Bx.below (HS0.out _ _ _) hb); have a1_0 := Bx.at' HP1.out 0 (p1) rfl; have a1_1 := Bx.at' HP1.out 1 (p2) rfl; have b1_0 := Bx.at' HQ1.out 0 (.slice (some ad) x.outs.length un) rfl; have b1_1 := Bx.at' HQ1.out 1 (.int .i64 x.want) rfl; have c1_0 := Bx.at' HS1.out 0 (.int .i64 x.slv.st) rfl; have c1_1 := Bx.at' HS1.out 1 (.slice GA x.slv.goals.length gn) rfl; have c1_2 := Bx.at' HS1.out 2 (.slice BA x.slv.binds.length bn) rfl; have c1_3 := Bx.at' HS1.out 3 (.int .i64 x.slv.vars) rfl; have c1_4 := Bx.at' HS1.out 4 (.slice CA x.slv.ch.length cn) rfl; have c1_5 := Bx.at' HS1.out 5 (.slice TA x.slv.top.length tn) rfl; have c1_6 := Bx.at' HS1.out 6 (.slice OA x.slv.out.length on) rfl; clear hb) | (go_at_call 109; (with_reducible refine (HNd.out _ HB1.out HCl.out).mono ?_); rintro e w2 ⟨rfl, hb⟩; have HB2 := Lib.hid (bel_trans HB1.out hb); have HP2 := Lib.hid (Bx.below HP1.out hb); have HQ2 := Lib.hid (Bx.below HQ1.out hb); have HS2 := Lib.hid (Bx.below HS1.out hb); have a2_0 := Bx.at' HP2.out 0 (p1) rfl; have a2_1 := Bx.at' HP2.out 1 (p2) rfl; have b2_0 := Bx.at' HQ2.out 0 (.slice (some ad) x.outs.length un) rfl; have b2_1 := Bx.at' HQ2.out 1 (.int .i64 x.want) rfl; have c2_0 := Bx.at' HS2.out 0 (.int .i64 x.slv.st) rfl; have c2_1 := Bx.at' HS2.out 1 (.slice GA x.slv.goals.length gn) rfl; have c2_2 := Bx.at' HS2.out 2 (.slice BA x.slv.binds.length bn) rfl; have c2_3 := Bx.at' HS2.out 3 (.int .i64 x.slv.vars) rfl; have c2_4 := Bx.at' HS2.out 4 (.slice CA x.slv.ch.length cn) rfl; have c2_5 := Bx.at' HS2.out 5 (.slice TA x.slv.top.length tn) rfl; have c2_6 := Bx.at' HS2.out 6 (.slice OA x.slv.out.length on) rfl; clear hb) | (go_at_call 26; (with_reducible refine (HOs.out _ HB2.out).mono ?_); rintro e w3 ⟨rfl, hb⟩; have HB3 := Lib.hid (bel_trans HB2.out hb); have HP3 := Lib.hid (Bx.below HP2.out hb); have HQ3 := Lib.hid (Bx.below HQ2.out hb); have HS3 := Lib.hid (Bx.below HS2.out hb); have a3_0 := Bx.at' HP3.out 0 (p1) rfl; have a3_1 := Bx.at' HP3.out 1 (p2) rfl; have b3_0 := Bx.at' HQ3.out 0 (.slice (some ad) x.outs.length un) rfl; have b3_1 := Bx.at' HQ3.out 1 (.int .i64 x.want) rfl; have c3_0 := Bx.at' HS3.out 0 (.int .i64 x.slv.st) rfl; have c3_1 := Bx.at' HS3.out 1 (.slice GA x.slv.goals.length gn) rfl; have c3_2 := Bx.at' HS3.out 2 (.slice BA x.slv.binds.length bn) rfl; have c3_3 := Bx.at' HS3.out 3 (.int .i64 x.slv.vars) rfl; have c3_4 := Bx.at' HS3.out 4 (.slice CA x.slv.ch.length cn) rfl; have c3_5 := Bx.at' HS3.out 5 (.slice TA x.slv.top.length tn) rfl; have c3_6 := Bx.at' HS3.out 6 (.slice OA x.slv.out.length on) rfl; clear hb) | (go_at_call 29; (with_reducible refine (HIn.out _).mono ?_); rintro e w4 ⟨rfl, rfl⟩) | (go_at_call 110; (with_reducible refine (HOp.out _).mono ?_); rintro e w5 ⟨rfl, hb⟩; have HB5 := Lib.hid (bel_trans HB3.out hb); have HP5 := Lib.hid (Bx.below HP3.out hb); have HQ5 := Lib.hid (Bx.below HQ3.out hb); have HS5 := Lib.hid (Bx.below HS3.out hb); have a5_0 := Bx.at' HP5.out 0 (p1) rfl; have a5_1 := Bx.at' HP5.out 1 (p2) rfl; have b5_0 := Bx.at' HQ5.out 0 (.slice (some ad) x.outs.length un) rfl; have b5_1 := Bx.at' HQ5.out 1 (.int .i64 x.want) rfl; have c5_0 := Bx.at' HS5.out 0 (.int .i64 x.slv.st) rfl; have c5_1 := Bx.at' HS5.out 1 (.slice GA x.slv.goals.length gn) rfl; have c5_2 := Bx.at' HS5.out 2 (.slice BA x.slv.binds.length bn) rfl; have c5_3 := Bx.at' HS5.out 3 (.int .i64 x.slv.vars) rfl; have c5_4 := Bx.at' HS5.out 4 (.slice CA x.slv.ch.length cn) rfl; have c5_5 := Bx.at' HS5.out 5 (.slice TA x.slv.top.length tn) rfl; have c5_6 := Bx.at' HS5.out 6 (.slice OA x.slv.out.length on) rfl; clear hb; have l0 := cell_keep HB5.out z0; have l1 := cell_keep HB5.out z1))
              go_quiet (fail)
              go_wp2
              go_ret
              exact ⟨ret_bool HN.out.symm, bel_drewN HB5.out _⟩
end Go.Proofs.YtdoggcfdfkkedaaGreatDoor
