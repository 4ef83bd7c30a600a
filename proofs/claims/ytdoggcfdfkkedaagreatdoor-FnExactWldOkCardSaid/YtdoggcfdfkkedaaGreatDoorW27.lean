/- Lemmas and contracts for FnExactWldOk, part 27. -/
import Derived.Test.YtdoggcfdfkkedaaGreatDoorW25
import Derived.Test.YtdoggcfdfkkedaaGreatDoorW11
namespace Go.Proofs.YtdoggcfdfkkedaaGreatDoor
open Go.RowKit
set_option maxRecDepth 100000
set_option maxHeartbeats 8000000
set_option linter.unusedVariables false
structure WlR (w : World) (x : Wld) (p1 p2 nv tv uv mv : Value) : Prop where
  p : PrR w x.prog p1 p2
  n : Kd.node.S 58 w nv x.nodes
  t : Kd.cell.S 112 w tv x.top
  u : Kd.sout.S 99 w uv x.outs
  m : Kd.nmsg.S 62 w mv x.net
theorem WlR.ext {w w' : World} {x : Wld} {p1 p2 nv tv uv mv : Value} (h : WlR w x p1 p2 nv tv uv mv) (hb : Below w.heap.size w w') : WlR w' x p1 p2 nv tv uv mv := ⟨h.p.ext hb, Kd.S_ext hb h.n, Kd.S_ext hb h.t, Kd.S_ext hb h.u, Kd.S_ext hb h.m⟩
theorem nodesOk_step {p : Prog} {ns : List Nod} {k : Nat} {n : Nod} (h : ns[k]? = some n) : nodesOk p k (ns.drop k) = (nodOk p k n && nodesOk p (k + 1) (ns.drop (k + 1))) := by
  rw [drop_one h]; rfl
theorem all_step {α : Type} {f : α → Bool} {xs : List α} {k : Nat} {x : α} (h : xs[k]? = some x) : (xs.drop k).all f = (f x && (xs.drop (k + 1)).all f) := by
  rw [drop_one h]; rfl
theorem le_not (a : Nat) (n : Nat) : decide (a ≤ n) = !decide ((n : Int) < (a : Int)) := by
  by_cases h : a ≤ n
  · rw [decide_eq_true h, decide_eq_false (by omega)]; rfl
  · rw [decide_eq_false h, decide_eq_true (by omega)]; rfl
theorem netOk_eq (m : NMsg) : netOk m = ((decide (0 ≤ m.dst) && decide (m.dst ≤ 3)) && !decide ((1104 : Int) < (m.bytes.length : Int))) := by
  unfold netOk inR
  rw [le_not]; rfl
theorem wldOk_eq (x : Wld) : wldOk x = (prgOk x.prog && isQ x.top && !((x.nodes.length : Int) != 3) && outsAll x.top x.outs && !decide ((12000 : Int) < (x.outs.length : Int)) && !decide ((160 : Int) < (x.net.length : Int)) && nodesOk x.prog 0 (x.nodes.drop 0) && (x.net.drop 0).all netOk) := by
  unfold wldOk outsOk
  rw [le_not x.outs.length 12000, le_not x.net.length 160, show decide (x.nodes.length = 3) = !((x.nodes.length : Int) != 3) by
    by_cases h : x.nodes.length = 3
    · rw [decide_eq_true h, h]; rfl
    · rw [decide_eq_false h, show ((x.nodes.length : Int) != 3) = true by simp; omega]; rfl]
  rw [List.drop_zero, List.drop_zero]
  cases prgOk x.prog <;> cases isQ x.top <;> cases ((x.nodes.length : Int) != 3) <;> cases outsAll x.top x.outs <;> rfl
theorem wldS_c (x : Wld) (p1 p2 nv tv uv mv : Value) (w : World) (hr : WlR w x p1 p2 nv tv uv mv) (hf : fitWld x) :
    Calls Tryz.prog 5 #[.agg #[p1, p2, nv, tv, uv, mv]] w fun e w' => e = .returned (.bool (wldOk x)) ∧ Below w.heap.size w w' := by
  have HR := Lib.hid hr
  have HFn := Lib.hid hf.2.2.2.2.1
  have HFm := Lib.hid hf.2.2.2.2.2.2
  have hfp := hf.1
  have HPk := Lib.hid (fun W hb => prgOkS_c x.prog p1 p2 W (hr.ext (w := w) hb).p.c (hr.ext hb).p.p hf.1)
  have HTo := Lib.hid (fun W hb => topS_c x.top tv W (hr.ext (w := w) hb).t (fit_len hf.2.1))
  have HOs := Lib.hid (fun W hb => outsS_c x.top x.outs tv uv W (hr.ext (w := w) hb).t (hr.ext hb).u (fit_len hf.2.1) hf.2.2.1)
  have HV := Lib.hid (wldOk_eq x)
  have hln := hf.2.2.2.1
  have hlm := hf.2.2.2.2.2.1
  have hlu := hf.2.2.1.1
  obtain ⟨NA, nn, rfl, n1, n2, hNC⟩ := hr.n
  obtain ⟨TA, tn, rfl, -, -, -⟩ := hr.t
  obtain ⟨UA, un, rfl, -, -, -⟩ := hr.u
  obtain ⟨MA, mn, rfl, m1, m2, hMC⟩ := hr.m
  have HNC := Lib.hid hNC
  have HMC := Lib.hid hMC
  obtain ⟨q1, e1⟩ : ∃ q, prgOk x.prog = q := ⟨_, rfl⟩
  obtain ⟨q2, e2⟩ : ∃ q, isQ x.top = q := ⟨_, rfl⟩
  obtain ⟨q3, e3⟩ : ∃ q, ((x.nodes.length : Int) != 3) = q := ⟨_, rfl⟩
  obtain ⟨q4, e4⟩ : ∃ q, outsAll x.top x.outs = q := ⟨_, rfl⟩
  obtain ⟨q5, e5⟩ : ∃ q, decide ((12000 : Int) < (x.outs.length : Int)) = q := ⟨_, rfl⟩
  obtain ⟨q6, e6⟩ : ∃ q, decide ((160 : Int) < (x.net.length : Int)) = q := ⟨_, rfl⟩
  obtain ⟨Z, hZ⟩ : ∃ Z, nodesOk x.prog 0 (x.nodes.drop 0) = Z := ⟨_, rfl⟩
  obtain ⟨Y, hY⟩ : ∃ Y, (x.net.drop 0).all netOk = Y := ⟨_, rfl⟩
  have HZ0 := Lib.hid hZ
  have HY0 := Lib.hid hY
  have HE3 := Lib.hid e3
  rw [e1, e2, e3, e4, e5, e6, hZ, hY] at HV
  rw [e1] at HPk
  rw [e2] at HTo
  rw [e4] at HOs
  clear e1 e2 e4 hr hf hNC hMC hZ hY
  have HB0 := Lib.hid (fun c1 => bel_alloc (Below.refl w.heap.size w) (.cells c1 43))
  have HP0 := Lib.hid (fun c1 => Bx.new w 43 c1)
  cases q1
  · have HN := Lib.hid (show wldOk x = false by rw [HV.out]; simp)
    go_enter Tryz.func5, Tryz.ntmps5
    go_wp2_with (first | (go_at_call 14; (with_reducible refine (HPk.out _ (HB0.out _)).mono ?_); rintro e w1 ⟨rfl, hb⟩; have HB1 := Lib.hid (bel_trans (HB0.out _) hb); have HP1 := Lib.hid (Bx.below (HP0.out _) hb); have a1_0 := Bx.at' HP1.out 0 (p1) rfl; have a1_1 := Bx.at' HP1.out 1 (p2) rfl; have a1_2 := Bx.at' HP1.out 2 (.slice NA x.nodes.length nn) rfl; have a1_3 := Bx.at' HP1.out 3 (.slice TA x.top.length tn) rfl; have a1_4 := Bx.at' HP1.out 4 (.slice UA x.outs.length un) rfl; have a1_5 := Bx.at' HP1.out 5 (.slice MA x.net.length mn) rfl; clear hb) | (go_at_call 15; (with_reducible refine (HTo.out _ HB1.out).mono ?_); rintro e w2 ⟨rfl, hb⟩; have HB2 := Lib.hid (bel_trans HB1.out hb); have HP2 := Lib.hid (Bx.below HP1.out hb); have a2_0 := Bx.at' HP2.out 0 (p1) rfl; have a2_1 := Bx.at' HP2.out 1 (p2) rfl; have a2_2 := Bx.at' HP2.out 2 (.slice NA x.nodes.length nn) rfl; have a2_3 := Bx.at' HP2.out 3 (.slice TA x.top.length tn) rfl; have a2_4 := Bx.at' HP2.out 4 (.slice UA x.outs.length un) rfl; have a2_5 := Bx.at' HP2.out 5 (.slice MA x.net.length mn) rfl; clear hb) | (go_at_call 16; (with_reducible refine (HOs.out _ HB2.out).mono ?_); rintro e w3 ⟨rfl, hb⟩; have HB3 := Lib.hid (bel_trans HB2.out hb); have HP3 := Lib.hid (Bx.below HP2.out hb); have a3_0 := Bx.at' HP3.out 0 (p1) rfl; have a3_1 := Bx.at' HP3.out 1 (p2) rfl; have a3_2 := Bx.at' HP3.out 2 (.slice NA x.nodes.length nn) rfl; have a3_3 := Bx.at' HP3.out 3 (.slice TA x.top.length tn) rfl; have a3_4 := Bx.at' HP3.out 4 (.slice UA x.outs.length un) rfl; have a3_5 := Bx.at' HP3.out 5 (.slice MA x.net.length mn) rfl; clear hb))
    go_ret
    first | exact ⟨ret_bool HN.out.symm, HB3.out⟩ | exact ⟨ret_bool HN.out.symm, HB2.out⟩ | exact ⟨ret_bool HN.out.symm, HB1.out⟩
  ·
    cases q2
    · have HN := Lib.hid (show wldOk x = false by rw [HV.out]; simp)
      go_enter Tryz.func5, Tryz.ntmps5
      go_wp2_with (first | (go_at_call 14; (with_reducible refine (HPk.out _ (HB0.out _)).mono ?_); rintro e w1 ⟨rfl, hb⟩; have HB1 := Lib.hid (bel_trans (HB0.out _) hb); have HP1 := Lib.hid (Bx.below (HP0.out _) hb); have a1_0 := Bx.at' HP1.out 0 (p1) rfl; have a1_1 := Bx.at' HP1.out 1 (p2) rfl; have a1_2 := Bx.at' HP1.out 2 (.slice NA x.nodes.length nn) rfl; have a1_3 := Bx.at' HP1.out 3 (.slice TA x.top.length tn) rfl; have a1_4 := Bx.at' HP1.out 4 (.slice UA x.outs.length un) rfl; have a1_5 := Bx.at' HP1.out 5 (.slice MA x.net.length mn) rfl; clear hb) | (go_at_call 15; (with_reducible refine (HTo.out _ HB1.out).mono ?_); rintro e w2 ⟨rfl, hb⟩; have HB2 := Lib.hid (bel_trans HB1.out hb); have HP2 := Lib.hid (Bx.below HP1.out hb); have a2_0 := Bx.at' HP2.out 0 (p1) rfl; have a2_1 := Bx.at' HP2.out 1 (p2) rfl; have a2_2 := Bx.at' HP2.out 2 (.slice NA x.nodes.length nn) rfl; have a2_3 := Bx.at' HP2.out 3 (.slice TA x.top.length tn) rfl; have a2_4 := Bx.at' HP2.out 4 (.slice UA x.outs.length un) rfl; have a2_5 := Bx.at' HP2.out 5 (.slice MA x.net.length mn) rfl; clear hb) | (go_at_call 16; (with_reducible refine (HOs.out _ HB2.out).mono ?_); rintro e w3 ⟨rfl, hb⟩; have HB3 := Lib.hid (bel_trans HB2.out hb); have HP3 := Lib.hid (Bx.below HP2.out hb); have a3_0 := Bx.at' HP3.out 0 (p1) rfl; have a3_1 := Bx.at' HP3.out 1 (p2) rfl; have a3_2 := Bx.at' HP3.out 2 (.slice NA x.nodes.length nn) rfl; have a3_3 := Bx.at' HP3.out 3 (.slice TA x.top.length tn) rfl; have a3_4 := Bx.at' HP3.out 4 (.slice UA x.outs.length un) rfl; have a3_5 := Bx.at' HP3.out 5 (.slice MA x.net.length mn) rfl; clear hb))
      go_ret
      first | exact ⟨ret_bool HN.out.symm, HB3.out⟩ | exact ⟨ret_bool HN.out.symm, HB2.out⟩ | exact ⟨ret_bool HN.out.symm, HB1.out⟩
    ·
      cases q3
      rotate_left
      · have HN := Lib.hid (show wldOk x = false by rw [HV.out]; simp)
        go_enter Tryz.func5, Tryz.ntmps5
        go_wp2_with (first | (go_at_call 14; (with_reducible refine (HPk.out _ (HB0.out _)).mono ?_); rintro e w1 ⟨rfl, hb⟩; have HB1 := Lib.hid (bel_trans (HB0.out _) hb); have HP1 := Lib.hid (Bx.below (HP0.out _) hb); have a1_0 := Bx.at' HP1.out 0 (p1) rfl; have a1_1 := Bx.at' HP1.out 1 (p2) rfl; have a1_2 := Bx.at' HP1.out 2 (.slice NA x.nodes.length nn) rfl; have a1_3 := Bx.at' HP1.out 3 (.slice TA x.top.length tn) rfl; have a1_4 := Bx.at' HP1.out 4 (.slice UA x.outs.length un) rfl; have a1_5 := Bx.at' HP1.out 5 (.slice MA x.net.length mn) rfl; clear hb) | (go_at_call 15; (with_reducible refine (HTo.out _ HB1.out).mono ?_); rintro e w2 ⟨rfl, hb⟩; have HB2 := Lib.hid (bel_trans HB1.out hb); have HP2 := Lib.hid (Bx.below HP1.out hb); have a2_0 := Bx.at' HP2.out 0 (p1) rfl; have a2_1 := Bx.at' HP2.out 1 (p2) rfl; have a2_2 := Bx.at' HP2.out 2 (.slice NA x.nodes.length nn) rfl; have a2_3 := Bx.at' HP2.out 3 (.slice TA x.top.length tn) rfl; have a2_4 := Bx.at' HP2.out 4 (.slice UA x.outs.length un) rfl; have a2_5 := Bx.at' HP2.out 5 (.slice MA x.net.length mn) rfl; clear hb) | (go_at_call 16; (with_reducible refine (HOs.out _ HB2.out).mono ?_); rintro e w3 ⟨rfl, hb⟩; have HB3 := Lib.hid (bel_trans HB2.out hb); have HP3 := Lib.hid (Bx.below HP2.out hb); have a3_0 := Bx.at' HP3.out 0 (p1) rfl; have a3_1 := Bx.at' HP3.out 1 (p2) rfl; have a3_2 := Bx.at' HP3.out 2 (.slice NA x.nodes.length nn) rfl; have a3_3 := Bx.at' HP3.out 3 (.slice TA x.top.length tn) rfl; have a3_4 := Bx.at' HP3.out 4 (.slice UA x.outs.length un) rfl; have a3_5 := Bx.at' HP3.out 5 (.slice MA x.net.length mn) rfl; clear hb))
        go_ret
        first | exact ⟨ret_bool HN.out.symm, HB3.out⟩ | exact ⟨ret_bool HN.out.symm, HB2.out⟩ | exact ⟨ret_bool HN.out.symm, HB1.out⟩
      ·
        cases q4
        · have HN := Lib.hid (show wldOk x = false by rw [HV.out]; simp)
          go_enter Tryz.func5, Tryz.ntmps5
          go_wp2_with (first | (go_at_call 14; (with_reducible refine (HPk.out _ (HB0.out _)).mono ?_); rintro e w1 ⟨rfl, hb⟩; have HB1 := Lib.hid (bel_trans (HB0.out _) hb); have HP1 := Lib.hid (Bx.below (HP0.out _) hb); have a1_0 := Bx.at' HP1.out 0 (p1) rfl; have a1_1 := Bx.at' HP1.out 1 (p2) rfl; have a1_2 := Bx.at' HP1.out 2 (.slice NA x.nodes.length nn) rfl; have a1_3 := Bx.at' HP1.out 3 (.slice TA x.top.length tn) rfl; have a1_4 := Bx.at' HP1.out 4 (.slice UA x.outs.length un) rfl; have a1_5 := Bx.at' HP1.out 5 (.slice MA x.net.length mn) rfl; clear hb) | (go_at_call 15; (with_reducible refine (HTo.out _ HB1.out).mono ?_); rintro e w2 ⟨rfl, hb⟩; have HB2 := Lib.hid (bel_trans HB1.out hb); have HP2 := Lib.hid (Bx.below HP1.out hb); have a2_0 := Bx.at' HP2.out 0 (p1) rfl; have a2_1 := Bx.at' HP2.out 1 (p2) rfl; have a2_2 := Bx.at' HP2.out 2 (.slice NA x.nodes.length nn) rfl; have a2_3 := Bx.at' HP2.out 3 (.slice TA x.top.length tn) rfl; have a2_4 := Bx.at' HP2.out 4 (.slice UA x.outs.length un) rfl; have a2_5 := Bx.at' HP2.out 5 (.slice MA x.net.length mn) rfl; clear hb) | (go_at_call 16; (with_reducible refine (HOs.out _ HB2.out).mono ?_); rintro e w3 ⟨rfl, hb⟩; have HB3 := Lib.hid (bel_trans HB2.out hb); have HP3 := Lib.hid (Bx.below HP2.out hb); have a3_0 := Bx.at' HP3.out 0 (p1) rfl; have a3_1 := Bx.at' HP3.out 1 (p2) rfl; have a3_2 := Bx.at' HP3.out 2 (.slice NA x.nodes.length nn) rfl; have a3_3 := Bx.at' HP3.out 3 (.slice TA x.top.length tn) rfl; have a3_4 := Bx.at' HP3.out 4 (.slice UA x.outs.length un) rfl; have a3_5 := Bx.at' HP3.out 5 (.slice MA x.net.length mn) rfl; clear hb))
          go_ret
          first | exact ⟨ret_bool HN.out.symm, HB3.out⟩ | exact ⟨ret_bool HN.out.symm, HB2.out⟩ | exact ⟨ret_bool HN.out.symm, HB1.out⟩
        ·
          cases q5
          rotate_left
          · have HN := Lib.hid (show wldOk x = false by rw [HV.out]; simp)
            go_enter Tryz.func5, Tryz.ntmps5
            go_wp2_with (first | (go_at_call 14; (with_reducible refine (HPk.out _ (HB0.out _)).mono ?_); rintro e w1 ⟨rfl, hb⟩; have HB1 := Lib.hid (bel_trans (HB0.out _) hb); have HP1 := Lib.hid (Bx.below (HP0.out _) hb); have a1_0 := Bx.at' HP1.out 0 (p1) rfl; have a1_1 := Bx.at' HP1.out 1 (p2) rfl; have a1_2 := Bx.at' HP1.out 2 (.slice NA x.nodes.length nn) rfl; have a1_3 := Bx.at' HP1.out 3 (.slice TA x.top.length tn) rfl; have a1_4 := Bx.at' HP1.out 4 (.slice UA x.outs.length un) rfl; have a1_5 := Bx.at' HP1.out 5 (.slice MA x.net.length mn) rfl; clear hb) | (go_at_call 15; (with_reducible refine (HTo.out _ HB1.out).mono ?_); rintro e w2 ⟨rfl, hb⟩; have HB2 := Lib.hid (bel_trans HB1.out hb); have HP2 := Lib.hid (Bx.below HP1.out hb); have a2_0 := Bx.at' HP2.out 0 (p1) rfl; have a2_1 := Bx.at' HP2.out 1 (p2) rfl; have a2_2 := Bx.at' HP2.out 2 (.slice NA x.nodes.length nn) rfl; have a2_3 := Bx.at' HP2.out 3 (.slice TA x.top.length tn) rfl; have a2_4 := Bx.at' HP2.out 4 (.slice UA x.outs.length un) rfl; have a2_5 := Bx.at' HP2.out 5 (.slice MA x.net.length mn) rfl; clear hb) | (go_at_call 16; (with_reducible refine (HOs.out _ HB2.out).mono ?_); rintro e w3 ⟨rfl, hb⟩; have HB3 := Lib.hid (bel_trans HB2.out hb); have HP3 := Lib.hid (Bx.below HP2.out hb); have a3_0 := Bx.at' HP3.out 0 (p1) rfl; have a3_1 := Bx.at' HP3.out 1 (p2) rfl; have a3_2 := Bx.at' HP3.out 2 (.slice NA x.nodes.length nn) rfl; have a3_3 := Bx.at' HP3.out 3 (.slice TA x.top.length tn) rfl; have a3_4 := Bx.at' HP3.out 4 (.slice UA x.outs.length un) rfl; have a3_5 := Bx.at' HP3.out 5 (.slice MA x.net.length mn) rfl; clear hb))
            go_ret
            first | exact ⟨ret_bool HN.out.symm, HB3.out⟩ | exact ⟨ret_bool HN.out.symm, HB2.out⟩ | exact ⟨ret_bool HN.out.symm, HB1.out⟩
          ·
            cases q6
            rotate_left
            · have HN := Lib.hid (show wldOk x = false by rw [HV.out]; simp)
              go_enter Tryz.func5, Tryz.ntmps5
              go_wp2_with (first | (go_at_call 14; (with_reducible refine (HPk.out _ (HB0.out _)).mono ?_); rintro e w1 ⟨rfl, hb⟩; have HB1 := Lib.hid (bel_trans (HB0.out _) hb); have HP1 := Lib.hid (Bx.below (HP0.out _) hb); have a1_0 := Bx.at' HP1.out 0 (p1) rfl; have a1_1 := Bx.at' HP1.out 1 (p2) rfl; have a1_2 := Bx.at' HP1.out 2 (.slice NA x.nodes.length nn) rfl; have a1_3 := Bx.at' HP1.out 3 (.slice TA x.top.length tn) rfl; have a1_4 := Bx.at' HP1.out 4 (.slice UA x.outs.length un) rfl; have a1_5 := Bx.at' HP1.out 5 (.slice MA x.net.length mn) rfl; clear hb) | (go_at_call 15; (with_reducible refine (HTo.out _ HB1.out).mono ?_); rintro e w2 ⟨rfl, hb⟩; have HB2 := Lib.hid (bel_trans HB1.out hb); have HP2 := Lib.hid (Bx.below HP1.out hb); have a2_0 := Bx.at' HP2.out 0 (p1) rfl; have a2_1 := Bx.at' HP2.out 1 (p2) rfl; have a2_2 := Bx.at' HP2.out 2 (.slice NA x.nodes.length nn) rfl; have a2_3 := Bx.at' HP2.out 3 (.slice TA x.top.length tn) rfl; have a2_4 := Bx.at' HP2.out 4 (.slice UA x.outs.length un) rfl; have a2_5 := Bx.at' HP2.out 5 (.slice MA x.net.length mn) rfl; clear hb) | (go_at_call 16; (with_reducible refine (HOs.out _ HB2.out).mono ?_); rintro e w3 ⟨rfl, hb⟩; have HB3 := Lib.hid (bel_trans HB2.out hb); have HP3 := Lib.hid (Bx.below HP2.out hb); have a3_0 := Bx.at' HP3.out 0 (p1) rfl; have a3_1 := Bx.at' HP3.out 1 (p2) rfl; have a3_2 := Bx.at' HP3.out 2 (.slice NA x.nodes.length nn) rfl; have a3_3 := Bx.at' HP3.out 3 (.slice TA x.top.length tn) rfl; have a3_4 := Bx.at' HP3.out 4 (.slice UA x.outs.length un) rfl; have a3_5 := Bx.at' HP3.out 5 (.slice MA x.net.length mn) rfl; clear hb))
              go_ret
              first | exact ⟨ret_bool HN.out.symm, HB3.out⟩ | exact ⟨ret_bool HN.out.symm, HB2.out⟩ | exact ⟨ret_bool HN.out.symm, HB1.out⟩
            ·
              have HN := Lib.hid (show wldOk x = (Z && Y) by rw [HV.out]; rfl)
              have HN3 := Lib.hid (show x.nodes.length = 3 by have := HE3.out; simp at this; omega)
              go_enter Tryz.func5, Tryz.ntmps5
              go_wp2_with (first | (go_at_call 14; (with_reducible refine (HPk.out _ (HB0.out _)).mono ?_); rintro e w1 ⟨rfl, hb⟩; have HB1 := Lib.hid (bel_trans (HB0.out _) hb); have HP1 := Lib.hid (Bx.below (HP0.out _) hb); have a1_0 := Bx.at' HP1.out 0 (p1) rfl; have a1_1 := Bx.at' HP1.out 1 (p2) rfl; have a1_2 := Bx.at' HP1.out 2 (.slice NA x.nodes.length nn) rfl; have a1_3 := Bx.at' HP1.out 3 (.slice TA x.top.length tn) rfl; have a1_4 := Bx.at' HP1.out 4 (.slice UA x.outs.length un) rfl; have a1_5 := Bx.at' HP1.out 5 (.slice MA x.net.length mn) rfl; clear hb) | (go_at_call 15; (with_reducible refine (HTo.out _ HB1.out).mono ?_); rintro e w2 ⟨rfl, hb⟩; have HB2 := Lib.hid (bel_trans HB1.out hb); have HP2 := Lib.hid (Bx.below HP1.out hb); have a2_0 := Bx.at' HP2.out 0 (p1) rfl; have a2_1 := Bx.at' HP2.out 1 (p2) rfl; have a2_2 := Bx.at' HP2.out 2 (.slice NA x.nodes.length nn) rfl; have a2_3 := Bx.at' HP2.out 3 (.slice TA x.top.length tn) rfl; have a2_4 := Bx.at' HP2.out 4 (.slice UA x.outs.length un) rfl; have a2_5 := Bx.at' HP2.out 5 (.slice MA x.net.length mn) rfl; clear hb) | (go_at_call 16; (with_reducible refine (HOs.out _ HB2.out).mono ?_); rintro e w3 ⟨rfl, hb⟩; have HB3 := Lib.hid (bel_trans HB2.out hb); have HP3 := Lib.hid (Bx.below HP2.out hb); have a3_0 := Bx.at' HP3.out 0 (p1) rfl; have a3_1 := Bx.at' HP3.out 1 (p2) rfl; have a3_2 := Bx.at' HP3.out 2 (.slice NA x.nodes.length nn) rfl; have a3_3 := Bx.at' HP3.out 3 (.slice TA x.top.length tn) rfl; have a3_4 := Bx.at' HP3.out 4 (.slice UA x.outs.length un) rfl; have a3_5 := Bx.at' HP3.out 5 (.slice MA x.net.length mn) rfl; clear hb))
              go_loopw [3] (fun v3 wr => ∃ k : Nat, v3 = .int .i64 k ∧ k ≤ 3 ∧ Hid (nodesOk x.prog k (x.nodes.drop k) = Z) ∧ Hid (Below w3.heap.size w3 wr)) (fun v3 _ => 3 - (intOf v3).toNat)
              case atStart => exact ⟨0, rfl, Nat.zero_le _, HZ0, Lib.hid (Below.refl _ _)⟩
              case round =>
                obtain ⟨k, rfl, hk, HRr, HBr⟩ := hrel
                have HBw := Lib.hid (bel_trans HB3.out HBr.out)
                have HPr := Lib.hid (Bx.below HP3.out HBr.out)
                have c9_0 := Bx.at' HPr.out 0 (p1) rfl
                have c9_1 := Bx.at' HPr.out 1 (p2) rfl
                have c9_2 := Bx.at' HPr.out 2 (.slice NA x.nodes.length nn) rfl
                have c9_3 := Bx.at' HPr.out 3 (.slice TA x.top.length tn) rfl
                have c9_4 := Bx.at' HPr.out 4 (.slice UA x.outs.length un) rfl
                have c9_5 := Bx.at' HPr.out 5 (.slice MA x.net.length mn) rfl
                clear a3_0 a3_1 a3_2 a3_3 a3_4 a3_5
                by_cases hlt : k < 3
                · obtain ⟨n, hc⟩ : ∃ n, x.nodes[k]? = some n := ⟨_, List.getElem?_eq_getElem (by have := HN3.out; omega)⟩
                  have hlt3 : (k : Int) < 3 := by omega
                  have hltn : k < x.nodes.length := by have := HN3.out; omega
                  obtain ⟨ad, v1, had, x0, x1, h1⟩ := dnode_at HNC.out hc
                  have hfx := HFn.out n (List.mem_of_getElem? hc)
                  have HX := Lib.hid (fun W (hb : Below w.heap.size w W) => nodS_c x.prog k n p1 p2 v1 W (HR.out.ext hb).p (Kd.S_ext hb h1) hfp hfx)
                  have HST := Lib.hid ((nodesOk_step (p := x.prog) hc).symm.trans HRr.out)
                  have x0 := cell_keep HBw.out x0
                  have x1 := cell_keep HBw.out x1
                  obtain ⟨qa, ea⟩ : ∃ q, nodOk x.prog k n = q := ⟨_, rfl⟩
                  rw [ea] at HST HX
                  clear ea hc hfx h1
                  subst had
                  go_upto_region 6 with (fail)
                  cases qa
                  · have HV := Lib.hid (show wldOk x = false by rw [HN.out, show Z = false from HST.out.symm]; rfl)
                    refine wp_region_below (by kernel_rfl) (by kernel_rfl) ?_; (repeat (first | go_big_quiet_skip | (go_big_quiet_want; first | (first | (refine quiet_row2 rfl rfl (fun W hW => BelC.cell hW (by assumption)) (fun W hW => BelC.cell hW (by assumption)) ?_; go_big_quiet_on; simp only [Act.put, List.setIfInBounds_toArray, List.set_cons_zero, List.set_cons_succ]) | (refine quiet_nod rfl rfl (fun W hW => BelC.cell hW (by assumption)) (fun W hW => BelC.cell hW (by assumption)) ?_; go_big_quiet_on; simp only [Act.put, List.setIfInBounds_toArray, List.set_cons_zero, List.set_cons_succ])) | (refine quiet_cell rfl rfl (fun W v hv => (by go_simp)) (fun W hW => BelC.cell hW (by assumption)) ?_; go_big_quiet_on; simp only [Act.put, List.setIfInBounds_toArray, List.set_cons_zero, List.set_cons_succ]) | (go_big_quiet_op; first | go_big_quiet_on | ((with_reducible refine ⟨_, fun W hW => (HX.out W (bel_trans HBw.out hW.bel)).mono (fun e w' hh => ⟨hh.1, hW.step hh.2⟩), ?_⟩); go_big_quiet_on) | (refine ⟨_, fun _ _ => rfl, ?_⟩; go_big_quiet_on))))); refine wpQuiet_nil ?_; intro w2 hw2
                    go_wp2
                    go_ret
                    exact ⟨ret_bool HV.out.symm, bel_trans HBw.out hw2.bel⟩
                  · have HV := Lib.hid (show nodesOk x.prog (k + 1) (x.nodes.drop (k + 1)) = Z from HST.out)
                    refine wp_region_below (by kernel_rfl) (by kernel_rfl) ?_; (repeat (first | go_big_quiet_skip | (go_big_quiet_want; first | (first | (refine quiet_row2 rfl rfl (fun W hW => BelC.cell hW (by assumption)) (fun W hW => BelC.cell hW (by assumption)) ?_; go_big_quiet_on; simp only [Act.put, List.setIfInBounds_toArray, List.set_cons_zero, List.set_cons_succ]) | (refine quiet_nod rfl rfl (fun W hW => BelC.cell hW (by assumption)) (fun W hW => BelC.cell hW (by assumption)) ?_; go_big_quiet_on; simp only [Act.put, List.setIfInBounds_toArray, List.set_cons_zero, List.set_cons_succ])) | (refine quiet_cell rfl rfl (fun W v hv => (by go_simp)) (fun W hW => BelC.cell hW (by assumption)) ?_; go_big_quiet_on; simp only [Act.put, List.setIfInBounds_toArray, List.set_cons_zero, List.set_cons_succ]) | (go_big_quiet_op; first | go_big_quiet_on | ((with_reducible refine ⟨_, fun W hW => (HX.out W (bel_trans HBw.out hW.bel)).mono (fun e w' hh => ⟨hh.1, hW.step hh.2⟩), ?_⟩); go_big_quiet_on) | (refine ⟨_, fun _ _ => rfl, ?_⟩; go_big_quiet_on))))); refine wpQuiet_nil ?_; intro w2 hw2
                    have HBn := Lib.hid (bel_trans HBr.out hw2.bel)
                    clear hw2
                    go_wp2
                    exact ⟨⟨k + 1, by go_num, hlt, HV, HBn⟩, by simp [intOf]; omega⟩
                · have hge3 : ¬ (k : Int) < 3 := by omega
                  have HN := Lib.hid (show wldOk x = Y by rw [HN.out, show Z = true by have := HRr.out; rw [List.drop_of_length_le (by have := HN3.out; omega)] at this; exact this.symm]; rfl)
                  go_wp2
                  go_loopw [4] (fun v4 wq => ∃ k : Nat, v4 = .int .i64 k ∧ k ≤ x.net.length ∧ Hid ((x.net.drop k).all netOk = Y) ∧ Hid (Below wr.heap.size wr wq)) (fun v4 _ => x.net.length - (intOf v4).toNat)
                  case atStart => exact ⟨0, rfl, Nat.zero_le _, HY0, Lib.hid (Below.refl _ _)⟩
                  case round =>
                    obtain ⟨j, rfl, hk2, HRq, HBq⟩ := hrel
                    have HBz := Lib.hid (bel_trans HBw.out HBq.out)
                    have HPq := Lib.hid (Bx.below HPr.out HBq.out)
                    have d8_0 := Bx.at' HPq.out 0 (p1) rfl
                    have d8_1 := Bx.at' HPq.out 1 (p2) rfl
                    have d8_2 := Bx.at' HPq.out 2 (.slice NA x.nodes.length nn) rfl
                    have d8_3 := Bx.at' HPq.out 3 (.slice TA x.top.length tn) rfl
                    have d8_4 := Bx.at' HPq.out 4 (.slice UA x.outs.length un) rfl
                    have d8_5 := Bx.at' HPq.out 5 (.slice MA x.net.length mn) rfl
                    clear c9_0 c9_1 c9_2 c9_3 c9_4 c9_5
                    by_cases hlt : j < x.net.length
                    · obtain ⟨m, hc⟩ : ∃ m, x.net[j]? = some m := ⟨_, List.getElem?_eq_getElem hlt⟩
                      obtain ⟨ad, v1, had, x0, x1, x2, h1⟩ := dnmsg_at HMC.out hc
                      have hfb := HFm.out m (List.mem_of_getElem? hc)
                      have HST := Lib.hid ((all_step (f := netOk) hc).symm.trans HRq.out)
                      have HNe := Lib.hid (netOk_eq m)
                      have HI := Lib.hid (fun W => lIn_c m.dst 0 3 W)
                      obtain ⟨BA, bn, rfl, -, -, -⟩ := h1
                      have x0 := cell_keep HBz.out x0
                      have x2 := cell_keep HBz.out x2
                      obtain ⟨qa, ea⟩ : ∃ q, (decide (0 ≤ m.dst) && decide (m.dst ≤ 3)) = q := ⟨_, rfl⟩
                      obtain ⟨qb, eb⟩ : ∃ q, decide ((1104 : Int) < (m.bytes.length : Int)) = q := ⟨_, rfl⟩
                      rw [ea, eb] at HNe
                      rw [ea] at HI
                      rw [HNe.out] at HST
                      clear ea hc x1
                      subst had
                      cases qa
                      · have HV := Lib.hid (show wldOk x = false by rw [HN.out, show Y = false from HST.out.symm])
                        go_wp2_with ((go_at_call 18; (with_reducible refine (HI.out _).mono ?_); rintro e w4 ⟨rfl, rfl⟩))
                        go_ret
                        exact ⟨ret_bool HV.out.symm, HBz.out⟩
                      · cases qb
                        · have HV := Lib.hid (show (x.net.drop (j + 1)).all netOk = Y from HST.out)
                          go_wp2_with ((go_at_call 18; (with_reducible refine (HI.out _).mono ?_); rintro e w4 ⟨rfl, rfl⟩))
                          exact ⟨⟨j + 1, by go_num, hlt, HV, HBq⟩, by simp [intOf]; omega⟩
                        · have HV := Lib.hid (show wldOk x = false by rw [HN.out, show Y = false from HST.out.symm])
                          go_wp2_with ((go_at_call 18; (with_reducible refine (HI.out _).mono ?_); rintro e w4 ⟨rfl, rfl⟩))
                          go_ret
                          exact ⟨ret_bool HV.out.symm, HBz.out⟩
                    · have HV := Lib.hid (show wldOk x = true by rw [HN.out, show Y = true by have := HRq.out; rw [List.drop_of_length_le (by omega)] at this; exact this.symm])
                      go_wp2
                      go_ret
                      exact ⟨ret_bool HV.out.symm, HBz.out⟩
end Go.Proofs.YtdoggcfdfkkedaaGreatDoor
namespace Go.Proofs.YtdoggcfdfkkedaaGreatDoor
open Go.RowKit
set_option maxRecDepth 100000
set_option maxHeartbeats 2000000
set_option linter.unusedVariables false
theorem cw_ixf (f : Work → Bool) (t : List Work) (A : Option Addr) (c : Nat) (pw : Addr) (w : World) (h : Kd.work.C 107 w A t) (hl : t.length ≤ 1000000000) (hA0 : ∀ (W : World) (x : Work), x ∈ t → Below w.heap.size w W → ∀ (v1 : Value) (v2 : Value) (v3 : Value) (v4 : Value) (v5 : Value) (v6 : Value), Kd.sout.S 99 W v1 x.outs → G0 W v2 x.slv.goals → B0 W v3 x.slv.binds → Kd.tch.S 183 W v4 x.slv.ch → T0 W v5 x.slv.top → T0 W v6 x.slv.out → Calls Tryz.prog 65 #[.agg #[v1, .int .i64 x.want, .bool x.asked, .int .i64 x.slv.st, v2, v3, .int .i64 x.slv.vars, v4, v5, v6], .pointer (some pw)] W fun e w' => e = .returned (.bool (f x)) ∧ Below W.heap.size W w') :
    Calls Tryz.prog 111 #[.slice A t.length c, .func (.func 65) #[] #[.pointer (some pw)]] w fun e w' => ∃ z : Int, e = .returned (.int .i64 z) ∧ (0 ≤ z ↔ t.any f = true) ∧ Below w.heap.size w w' := by
  have H := Lib.hid h
  have HA0 := Lib.hid hA0
  clear h hA0
  go_enter Tryz.func111, Tryz.ntmps111
  go_wp2
  go_loopw [8] (fun v8 wr => ∃ k : Nat, v8 = .int .i64 k ∧ k ≤ t.length ∧ Hid ((t.drop k).any f = t.any f) ∧ Hid (Below w.heap.size w wr)) (fun v8 _ => t.length - (intOf v8).toNat)
  case atStart => exact ⟨0, rfl, Nat.zero_le _, Lib.hid (by rw [List.drop_zero]), Lib.hid (Below.refl _ _)⟩
  case round =>
    obtain ⟨k, rfl, hk, HJ, HB⟩ := hrel
    by_cases hlt : k < t.length
    · obtain ⟨x, hc⟩ : ∃ x, t[k]? = some x := ⟨_, List.getElem?_eq_getElem hlt⟩
      have hC := H.out
      obtain ⟨ad, v1, v2, v3, v4, v5, v6, hA, x0, x1, x2, x3, x4, x5, x6, x7, x8, x9, t1, t2, t3, t4, t5, t6⟩ := dwork_at hC hc
      subst hA
      have y_0 := cell_keep HB.out x0
      have y_1 := cell_keep HB.out x1
      have y_2 := cell_keep HB.out x2
      have y_3 := cell_keep HB.out x3
      have y_4 := cell_keep HB.out x4
      have y_5 := cell_keep HB.out x5
      have y_6 := cell_keep HB.out x6
      have y_7 := cell_keep HB.out x7
      have y_8 := cell_keep HB.out x8
      have y_9 := cell_keep HB.out x9
      have hA0 := HA0.out
      have HK : Hid (∀ W, Below w.heap.size w W → Calls Tryz.prog 65 #[.agg #[v1, .int .i64 x.want, .bool x.asked, .int .i64 x.slv.st, v2, v3, .int .i64 x.slv.vars, v4, v5, v6], .pointer (some pw)] W fun e w' => e = .returned (.bool (f x)) ∧ Below W.heap.size W w') := Lib.hid (fun W hb => hA0 W x (List.mem_of_getElem? hc) hb v1 v2 v3 v4 v5 v6 (Kd.S_ext hb t1) (Kd.S_ext hb t2) (Kd.S_ext hb t3) (Kd.S_ext hb t4) (Kd.S_ext hb t5) (Kd.S_ext hb t6))
      have hJ := HJ.out
      rw [List.drop_eq_getElem_cons hlt, (List.getElem?_eq_some_iff.1 hc).2, List.any_cons] at hJ
      obtain ⟨q, hq⟩ : ∃ q, f x = q := ⟨_, rfl⟩
      rw [hq] at hJ HK
      clear hq hC hc hA0 x0 x1 x2 x3 x4 x5 x6 x7 x8 x9
      cases q with
      | true =>
        have HV := Lib.hid (show t.any f = true by rw [← hJ]; rfl)
        clear hJ
        go_wp2_with (go_at_call 65; (with_reducible refine (HK.out _ HB.out).mono ?_); rintro e w1 ⟨rfl, hb⟩)
        go_ret
        exact ⟨_, rfl, ⟨fun _ => HV.out, fun _ => by omega⟩, bel_trans HB.out hb⟩
      | false =>
        have HN := Lib.hid (show (t.drop (k + 1)).any f = t.any f by rw [← hJ]; rfl)
        clear hJ
        go_wp2_with (go_at_call 65; (with_reducible refine (HK.out _ HB.out).mono ?_); rintro e w1 ⟨rfl, hb⟩)
        exact ⟨⟨k + 1, by go_num, hlt, HN, Lib.hid (bel_trans HB.out hb)⟩, by simp [intOf]; omega⟩
    · have HV := Lib.hid (show t.any f = false by rw [← HJ.out, List.drop_of_length_le (by omega)]; rfl)
      go_wp2
      go_ret
      exact ⟨-1, rfl, ⟨fun h => by omega, fun h => by rw [HV.out] at h; cases h⟩, HB.out⟩
theorem cw_con (f : Work → Bool) (t : List Work) (A : Option Addr) (c : Nat) (pw : Addr) (w : World) (h : Kd.work.C 107 w A t) (hl : t.length ≤ 1000000000) (hA0 : ∀ (W : World) (x : Work), x ∈ t → Below w.heap.size w W → ∀ (v1 : Value) (v2 : Value) (v3 : Value) (v4 : Value) (v5 : Value) (v6 : Value), Kd.sout.S 99 W v1 x.outs → G0 W v2 x.slv.goals → B0 W v3 x.slv.binds → Kd.tch.S 183 W v4 x.slv.ch → T0 W v5 x.slv.top → T0 W v6 x.slv.out → Calls Tryz.prog 65 #[.agg #[v1, .int .i64 x.want, .bool x.asked, .int .i64 x.slv.st, v2, v3, .int .i64 x.slv.vars, v4, v5, v6], .pointer (some pw)] W fun e w' => e = .returned (.bool (f x)) ∧ Below W.heap.size W w') :
    Calls Tryz.prog 67 #[.slice A t.length c, .func (.func 65) #[] #[.pointer (some pw)]] w fun e w' => e = .returned (.bool (t.any f)) ∧ Below w.heap.size w w' := by
  have HX := Lib.hid (cw_ixf f t A c pw w h hl hA0)
  clear h hA0
  go_enter Tryz.func67, Tryz.ntmps67
  go_wp2_with (go_at_call 111; refine HX.out.mono ?_; rintro e w1 ⟨z, rfl, hzz, hb⟩; have HZ := Lib.hid hzz; clear hzz)
  go_ret
  refine ⟨ret_bool ?_, hb⟩
  cases hq : t.any f with
  | false => exact decide_eq_false (fun h => by have := HZ.out.1 h; rw [hq] at this; cases this)
  | true => exact decide_eq_true (HZ.out.2 hq)
theorem cn_ixf (f : NMsg → Bool) (t : List NMsg) (A : Option Addr) (c : Nat) (w : World) (h : Kd.nmsg.C 62 w A t) (hl : t.length ≤ 1000000000) (hA0 : ∀ (W : World) (x : NMsg), x ∈ t → Below w.heap.size w W → ∀ (v1 : Value), Kd.byte.S 5 W v1 x.bytes → Calls Tryz.prog 28 #[.agg #[.int .i64 x.dst, .bool x.bent, v1]] W fun e w' => e = .returned (.bool (f x)) ∧ Below W.heap.size W w') :
    Calls Tryz.prog 68 #[.slice A t.length c, .func (.func 28) #[] #[]] w fun e w' => ∃ z : Int, e = .returned (.int .i64 z) ∧ (0 ≤ z ↔ t.any f = true) ∧ Below w.heap.size w w' := by
  have H := Lib.hid h
  have HA0 := Lib.hid hA0
  clear h hA0
  go_enter Tryz.func68, Tryz.ntmps68
  go_wp2
  go_loopw [8] (fun v8 wr => ∃ k : Nat, v8 = .int .i64 k ∧ k ≤ t.length ∧ Hid ((t.drop k).any f = t.any f) ∧ Hid (Below w.heap.size w wr)) (fun v8 _ => t.length - (intOf v8).toNat)
  case atStart => exact ⟨0, rfl, Nat.zero_le _, Lib.hid (by rw [List.drop_zero]), Lib.hid (Below.refl _ _)⟩
  case round =>
    obtain ⟨k, rfl, hk, HJ, HB⟩ := hrel
    by_cases hlt : k < t.length
    · obtain ⟨x, hc⟩ : ∃ x, t[k]? = some x := ⟨_, List.getElem?_eq_getElem hlt⟩
      have hC := H.out
      obtain ⟨ad, v1, hA, x0, x1, x2, t1⟩ := dnmsg_at hC hc
      subst hA
      have y_0 := cell_keep HB.out x0
      have y_1 := cell_keep HB.out x1
      have y_2 := cell_keep HB.out x2
      have hA0 := HA0.out
      have HK : Hid (∀ W, Below w.heap.size w W → Calls Tryz.prog 28 #[.agg #[.int .i64 x.dst, .bool x.bent, v1]] W fun e w' => e = .returned (.bool (f x)) ∧ Below W.heap.size W w') := Lib.hid (fun W hb => hA0 W x (List.mem_of_getElem? hc) hb v1 (Kd.S_ext hb t1))
      have hJ := HJ.out
      rw [List.drop_eq_getElem_cons hlt, (List.getElem?_eq_some_iff.1 hc).2, List.any_cons] at hJ
      obtain ⟨q, hq⟩ : ∃ q, f x = q := ⟨_, rfl⟩
      rw [hq] at hJ HK
      clear hq hC hc hA0 x0 x1 x2
      cases q with
      | true =>
        have HV := Lib.hid (show t.any f = true by rw [← hJ]; rfl)
        clear hJ
        go_wp2_with (go_at_call 28; (with_reducible refine (HK.out _ HB.out).mono ?_); rintro e w1 ⟨rfl, hb⟩)
        go_ret
        exact ⟨_, rfl, ⟨fun _ => HV.out, fun _ => by omega⟩, bel_trans HB.out hb⟩
      | false =>
        have HN := Lib.hid (show (t.drop (k + 1)).any f = t.any f by rw [← hJ]; rfl)
        clear hJ
        go_wp2_with (go_at_call 28; (with_reducible refine (HK.out _ HB.out).mono ?_); rintro e w1 ⟨rfl, hb⟩)
        exact ⟨⟨k + 1, by go_num, hlt, HN, Lib.hid (bel_trans HB.out hb)⟩, by simp [intOf]; omega⟩
    · have HV := Lib.hid (show t.any f = false by rw [← HJ.out, List.drop_of_length_le (by omega)]; rfl)
      go_wp2
      go_ret
      exact ⟨-1, rfl, ⟨fun h => by omega, fun h => by rw [HV.out] at h; cases h⟩, HB.out⟩
theorem cn_con (f : NMsg → Bool) (t : List NMsg) (A : Option Addr) (c : Nat) (w : World) (h : Kd.nmsg.C 62 w A t) (hl : t.length ≤ 1000000000) (hA0 : ∀ (W : World) (x : NMsg), x ∈ t → Below w.heap.size w W → ∀ (v1 : Value), Kd.byte.S 5 W v1 x.bytes → Calls Tryz.prog 28 #[.agg #[.int .i64 x.dst, .bool x.bent, v1]] W fun e w' => e = .returned (.bool (f x)) ∧ Below W.heap.size W w') :
    Calls Tryz.prog 30 #[.slice A t.length c, .func (.func 28) #[] #[]] w fun e w' => e = .returned (.bool (t.any f)) ∧ Below w.heap.size w w' := by
  have HX := Lib.hid (cn_ixf f t A c w h hl hA0)
  clear h hA0
  go_enter Tryz.func30, Tryz.ntmps30
  go_wp2_with (go_at_call 68; refine HX.out.mono ?_; rintro e w1 ⟨z, rfl, hzz, hb⟩; have HZ := Lib.hid hzz; clear hzz)
  go_ret
  refine ⟨ret_bool ?_, hb⟩
  cases hq : t.any f with
  | false => exact decide_eq_false (fun h => by have := HZ.out.1 h; rw [hq] at this; cases this)
  | true => exact decide_eq_true (HZ.out.2 hq)
end Go.Proofs.YtdoggcfdfkkedaaGreatDoor
