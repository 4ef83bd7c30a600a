/- Lemmas and contracts for FnExactWldOk, part 17. -/
import Derived.IntWalk
import Derived.Test.YtdoggcfdfkkedaaGreatDoorW16
namespace Go.Proofs.YtdoggcfdfkkedaaGreatDoor
open Go.RowKit
set_option maxRecDepth 100000
set_option maxHeartbeats 16000000
set_option linter.unusedVariables false
theorem nothing_eq (s : TSt) : nothing s = ((((s.goals.length : Int) + (s.binds.length : Int) + (s.ch.length : Int) + (s.out.length : Int)) == 0) && (s.vars == 0)) := by
  unfold nothing
  have e : ∀ {α : Type} (l : List α), l.isEmpty = decide (l.length = 0) := fun l => by cases l <;> rfl
  rw [e, e, e, e, Bool.eq_iff_iff]
  simp only [Bool.and_eq_true, decide_eq_true_eq, beq_iff_eq]
  omega
theorem isEmpty_len {α : Type} (l : List α) : l.isEmpty = ((l.length : Int) == 0) := by
  cases l with
  | nil => rfl
  | cons a l => rw [List.length_cons]; exact (beq_eq_false_iff_ne.2 (by omega)).symm
theorem noFar_drop {cs : List TCh} {k : Nat} (hlt : k < cs.length) {c : TCh} (hc : cs[k]? = some c) : noFar (cs.drop k) = (decide (c.far = 0) && noFar (cs.drop (k + 1))) := by
  unfold noFar
  rw [List.drop_eq_getElem_cons hlt, (List.getElem?_eq_some_iff.1 hc).2, List.all_cons]
theorem trlOkS_c (p : Prog) (s : TSt) (node : Int) (p1 p2 gv bv cv tv ov : Value) (w : World) (hp : PrR w p p1 p2) (hs : StR w s gv bv cv tv ov) (hfp : fitP p) (hf : fitS s) :
    Calls Tryz.prog 88 #[.agg #[p1, p2], .int .i64 node, .agg #[.int .i64 s.st, gv, bv, .int .i64 s.vars, cv, tv, ov]] w fun e w' => e = .returned (.bool (tOkS p node s)) ∧ Below w.heap.size w w' := by
  have HPk := Lib.hid (fun w' hb => prgOkS_c p p1 p2 w' (hp.ext (w := w) hb).c (hp.ext hb).p hfp)
  have HI := Lib.hid (fun w' => lIn_c node (-1) 2 w')
  have HTo := Lib.hid (fun w' hb => topS_c s.top tv w' (hs.ext (w := w) hb).t (fit_len hf.2.2.2.1))
  have HFn := Lib.hid (fun w' hb => fineS_c s.goals s.binds s.vars s.ch.length gv bv w' (hs.ext (w := w) hb).g (hs.ext hb).b hf.1 hf.2.1)
  have HTt := Lib.hid (fun w' hb => termS_c s.top s.vars tv w' (hs.ext (w := w) hb).t (fit_len hf.2.2.2.1))
  have HNr := Lib.hid (fun w' hb hprg => nearS_c p s node p1 p2 gv bv cv tv ov w' (hp.ext (w := w) hb) (hs.ext hb) hprg hfp hf)
  have H0 := Lib.hid (fun o o' => bel_alloc (bel_alloc (Below.refl _ w) o) o')
  have HS := Lib.hid hs
  have lg := hf.1.1
  have lb := hf.2.1.1
  have lc := hf.2.2.1.1
  have lo := hf.2.2.2.2.1
  obtain ⟨GA, gn, rfl, g1, g2, -⟩ := hs.g
  obtain ⟨BA, bn, rfl, b1, b2, -⟩ := hs.b
  obtain ⟨CA, cn, rfl, c1, c2, -⟩ := hs.c
  obtain ⟨OA, on, rfl, o1, o2, -⟩ := hs.o
  obtain ⟨qp, ep⟩ : ∃ q, prgOk p = q := ⟨_, rfl⟩
  obtain ⟨qi, ei⟩ : ∃ q, (decide (-1 ≤ node) && decide (node ≤ 2)) = q := ⟨_, rfl⟩
  obtain ⟨qq, eq⟩ : ∃ q, isQ s.top = q := ⟨_, rfl⟩
  have hV : tOkS p node s = ((qp && qi && qq) && (if 3 ≤ s.st ∧ s.st ≤ 5 then nothing s else
    (fineOk s.goals s.binds s.vars s.ch.length && termV s.vars s.top && chAllS p node s.binds s.vars 0 0 0 s.ch) && (if node < 0 then noFar s.ch else true) && statOk s)) := by
    unfold tOkS inR; rw [ep, ei, eq]
  rw [ep] at HPk
  rw [ei] at HI
  rw [eq] at HTo
  by_cases hall : qp = true ∧ qi = true ∧ qq = true
  · obtain ⟨rfl, rfl, rfl⟩ := hall
    have HNp := Lib.hid (fun w' hb => HNr.out w' hb ep)
    rw [Bool.true_and, Bool.true_and, Bool.true_and] at hV
    have HQ := Lib.hid eq
    clear ei hp hs hfp hf HNr eq
    obtain ⟨z1, ez1⟩ : ∃ q, (((s.goals.length : Int) + (s.binds.length : Int) + (s.ch.length : Int) + (s.out.length : Int)) == 0) = q := ⟨_, rfl⟩
    obtain ⟨z2, ez2⟩ : ∃ q, (s.vars == 0) = q := ⟨_, rfl⟩
    have HNo := Lib.hid (show nothing s = (z1 && z2) by rw [nothing_eq, ez1, ez2])
    by_cases hst : 3 ≤ s.st ∧ s.st ≤ 5
    · have HV := Lib.hid (show tOkS p node s = (z1 && z2) by rw [hV, if_pos hst, HNo.out])
      clear hV ep
      obtain ⟨t3, e3⟩ : ∃ q, (s.st == 3) = q := ⟨_, rfl⟩
      obtain ⟨t4, e4⟩ : ∃ q, (s.st == 4) = q := ⟨_, rfl⟩
      obtain ⟨t5, e5⟩ : ∃ q, (s.st == 5) = q := ⟨_, rfl⟩
      have htt : (t3 = true) ∨ (t3 = false ∧ t4 = true) ∨ (t3 = false ∧ t4 = false ∧ t5 = true) := by
        cases t3 <;> cases t4 <;> cases t5 <;> simp_all <;> omega
      clear hst
      cases z1 <;> cases z2
      all_goals
        rcases htt with rfl | ⟨rfl, rfl⟩ | ⟨rfl, rfl, rfl⟩
        all_goals
          go_enter Tryz.func88, Tryz.ntmps88
          go_wp2_with (first | (go_at_call 14; (with_reducible refine (HPk.out _ (H0.out _ _)).mono ?_); rintro e w1 ⟨rfl, hb1⟩; obtain ⟨⟨x0, x1, x2, x3, x4⟩, x5, x6, x7, x8⟩ := near_box hb1; have Hb1 := Lib.hid hb1; have HB1 := Lib.hid (bel_trans (H0.out _ _) hb1); clear hb1) | (go_at_call 18; (with_reducible refine (HI.out _).mono ?_); rintro e w2 ⟨rfl, rfl⟩) | (go_at_call 15; (with_reducible refine (HTo.out _ HB1.out).mono ?_); rintro e w2 ⟨rfl, hb2⟩; obtain ⟨⟨y0, y1, y2, y3, y4⟩, y5, y6, y7, y8⟩ := near_box (bel_trans Hb1.out hb2); have Hb2 := Lib.hid (bel_trans Hb1.out hb2); have HB2 := Lib.hid (bel_trans HB1.out hb2); clear hb2))
          go_ret
          exact ⟨ret_bool HV.out.symm, HB2.out⟩
    · have e3 : (s.st == 3) = false := beq_eq_false_iff_ne.2 (by omega)
      have e4 : (s.st == 4) = false := beq_eq_false_iff_ne.2 (by omega)
      have e5 : (s.st == 5) = false := beq_eq_false_iff_ne.2 (by omega)
      rw [if_neg hst] at hV
      obtain ⟨qf, ef⟩ : ∃ q, fineOk s.goals s.binds s.vars s.ch.length = q := ⟨_, rfl⟩
      obtain ⟨qt, et⟩ : ∃ q, termV s.vars s.top = q := ⟨_, rfl⟩
      obtain ⟨qn, en⟩ : ∃ q, chAllS p node s.binds s.vars 0 0 0 s.ch = q := ⟨_, rfl⟩
      rw [ef, et, en] at hV
      rw [ef] at HFn
      rw [et] at HTt
      rw [en] at HNp
      have HFl := Lib.hid (show ∀ w', Below w.heap.size w w' → ∀ q, decide ((flat s.binds s.top).length ≤ 40) = q → qf = true → Calls Tryz.prog 125 #[.slice BA s.binds.length bn, tv] w' fun e w2 => ∃ v, e = .returned (.tuple #[v, .bool q]) ∧ (q = true → T0 w2 v (flat s.binds s.top)) ∧ Below w'.heap.size w' w2 from fun w' hb q hq hqf => by
        rw [hqf] at ef
        unfold fineOk at ef
        simp only [Bool.and_eq_true, inR_iff] at ef
        have hB := sub_binv (subOk_iff.1 ef.1.1.2)
        obtain ⟨k, f⟩ := flat_fl hB.bok s.top
        refine (fullS_c s.binds s.top _ k _ tv w' f (HS.out.ext hb).b (HS.out.ext hb).t (by omega) (trmOk_iff.1 (isQ_ok HQ.out).1).2.1 (bound_len hB)).mono ?_
        rintro e w2 ⟨v, rfl, ho, hb2⟩
        refine ⟨v, by rw [hq], fun h => ?_, hb2⟩
        have h40 := of_decide_eq_true (hq.trans h)
        rw [if_pos h40] at ho
        exact Kd.O_read ho)
      clear et en ep ez1 ez2 HNo hst ef
      by_cases hlive : qf = true ∧ qt = true ∧ qn = true
      · obtain ⟨rfl, rfl, rfl⟩ := hlive
        have HFm := Lib.hid (fun w' hb q hq => HFl.out w' hb q hq rfl)
        clear HFl
        have HV := Lib.hid (show tOkS p node s = ((if node < 0 then noFar s.ch else true) && statOk s) by rw [hV]; rfl)
        clear hV
        go_enter Tryz.func88, Tryz.ntmps88
        go_upto_region 7 with (first | (go_at_call 14; (with_reducible refine (HPk.out _ (H0.out _ _)).mono ?_); rintro e w1 ⟨rfl, hb1⟩; obtain ⟨⟨x0, x1, x2, x3, x4⟩, x5, x6, x7, x8⟩ := near_box hb1; have Hb1 := Lib.hid hb1; have HB1 := Lib.hid (bel_trans (H0.out _ _) hb1); clear hb1) | (go_at_call 18; (with_reducible refine (HI.out _).mono ?_); rintro e w2 ⟨rfl, rfl⟩) | (go_at_call 15; (with_reducible refine (HTo.out _ HB1.out).mono ?_); rintro e w2 ⟨rfl, hb2⟩; obtain ⟨⟨y0, y1, y2, y3, y4⟩, y5, y6, y7, y8⟩ := near_box (bel_trans Hb1.out hb2); have Hb2 := Lib.hid (bel_trans Hb1.out hb2); have HB2 := Lib.hid (bel_trans HB1.out hb2); clear hb2) | (go_at_call 122; (with_reducible refine (HFn.out _ HB2.out).mono ?_); rintro e w3 ⟨rfl, hb3⟩; obtain ⟨⟨u0, u1, u2, u3, u4⟩, u5, u6, u7, u8⟩ := near_box (bel_trans Hb2.out hb3); have Hb3 := Lib.hid (bel_trans Hb2.out hb3); have HB3 := Lib.hid (bel_trans HB2.out hb3); clear hb3) | (go_at_call 123; (with_reducible refine (HTt.out _ HB3.out).mono ?_); rintro e w4 ⟨rfl, hb4⟩; obtain ⟨⟨v0, v1, v2, v3, v4⟩, v5, v6, v7, v8⟩ := near_box (bel_trans Hb3.out hb4); have Hb4 := Lib.hid (bel_trans Hb3.out hb4); have HB4 := Lib.hid (bel_trans HB3.out hb4); clear hb4) | (go_at_call 124; (with_reducible refine (HNp.out _ HB4.out).mono ?_); rintro e w5 ⟨rfl, hb5⟩; obtain ⟨⟨r0, r1, r2, r3, r4⟩, r5, r6, r7, r8⟩ := near_box (bel_trans Hb4.out hb5); have Hb5 := Lib.hid (bel_trans Hb4.out hb5); have HB5 := Lib.hid (bel_trans HB4.out hb5); clear hb5))
        have HC := Lib.hid HS.out.c
        by_cases hneg : node < 0
        · have fg : decide (node < 0) = true := decide_eq_true hneg
          have HW0 := Lib.hid (show tOkS p node s = (noFar s.ch && statOk s) by rw [HV.out, if_pos hneg])
          clear hneg
          go_wp2
          go_loopw [7] (fun v7 wr => ∃ k : Nat, v7 = .int .i64 k ∧ k ≤ s.ch.length ∧ Hid (noFar (s.ch.drop k) = noFar s.ch) ∧ wr = w5) (fun v7 _ => s.ch.length - (intOf v7).toNat)
          case atStart => exact ⟨0, rfl, Nat.zero_le _, Lib.hid (by rw [List.drop_zero]), rfl⟩
          case round =>
            obtain ⟨k, rfl, hk, HA, rfl⟩ := hrel
            by_cases hlt : k < s.ch.length
            · obtain ⟨c, hc⟩ : ∃ c, s.ch[k]? = some c := ⟨_, List.getElem?_eq_getElem hlt⟩
              obtain ⟨CA', cn', ev, _, _, hCC⟩ := HC.out
              injection ev with i1 i2 i3
              obtain ⟨ad, xg, xa, hA, y0, y1, y2, y3, y4, y5, yg, ya⟩ := tch_at hCC hc
              obtain rfl := i1.trans hA
              have z5 := cell_keep HB5.out y5
              have hAA := HA.out
              rw [noFar_drop hlt hc] at hAA
              clear i1 i2 i3 hCC hA hc y0 y1 y2 y3 y4 y5 yg ya
              by_cases hf0 : c.far = 0
              · have e1 : (c.far != 0) = false := by simp [hf0]
                have HN := Lib.hid (show noFar (s.ch.drop (k + 1)) = noFar s.ch by rw [← hAA, decide_eq_true hf0]; rfl)
                clear hf0 hAA
                go_wp2
                exact ⟨⟨k + 1, by go_num, hlt, HN, trivial⟩, by simp [intOf]; omega⟩
              · have e1 : (c.far != 0) = true := by simp [hf0]
                have HN := Lib.hid (show tOkS p node s = false by rw [HW0.out, ← hAA, decide_eq_false hf0]; rfl)
                clear hf0 hAA
                go_wp2
                go_ret
                exact ⟨ret_bool HN.out.symm, HB5.out⟩
            · have HW := Lib.hid (show tOkS p node s = statOk s by rw [HW0.out, ← HA.out, List.drop_of_length_le (by omega)]; rfl)
              go_upto_region 13 with fail
              clear hlt hk HA
              by_cases k1 : s.st = 1
              · have f1 : (s.st == 1) = true := beq_iff_eq.2 k1
                have HZ := Lib.hid (show tOkS p node s = ((s.out.length : Int) == 0) by
                  rw [HW.out]; unfold statOk; rw [if_pos k1]
                  cases s.out with
                  | nil => rfl
                  | cons a l => rw [List.length_cons]; exact (beq_eq_false_iff_ne.2 (by omega)).symm)
                obtain ⟨zo, ezo⟩ : ∃ q, ((s.out.length : Int) == 0) = q := ⟨_, rfl⟩
                rw [ezo] at HZ
                clear k1
                cases zo
                all_goals
                  go_wp2
                  go_ret
                  exact ⟨ret_bool HZ.out.symm, HB5.out⟩
              · have f1 : (s.st == 1) = false := beq_eq_false_iff_ne.2 k1
                by_cases k6 : s.st = 6
                · have f6 : (s.st == 6) = true := beq_iff_eq.2 k6
                  have f2 : ¬ s.st = 2 := by omega
                  have HZ := Lib.hid (show tOkS p node s = waitsOk s by rw [HW.out]; unfold statOk; rw [if_neg k1, if_neg f2, if_pos k6])
                  clear k1 k6 f2
                  obtain ⟨zo, ezo⟩ : ∃ q, ((s.out.length : Int) == 0) = q := ⟨_, rfl⟩
                  obtain ⟨zg, ezg⟩ : ∃ q, ((s.goals.length : Int) == 0) = q := ⟨_, rfl⟩
                  have HY := Lib.hid (show waitsOk s = (zg && zo && (match s.ch.getLast? with | some c => decide (0 < c.far) && decide (c.mark = s.binds.length) && decide (c.vars = s.vars) | none => false)) by
                    unfold waitsOk; rw [isEmpty_len, isEmpty_len, ezo, ezg]; cases s.ch.getLast? <;> rfl)
                  cases zo with
                  | false =>
                    have HN := Lib.hid (show tOkS p node s = false by rw [HZ.out, HY.out]; cases zg <;> rfl)
                    clear ezg
                    go_upto_region 18 with fail
                    go_quiet (fail)
                    go_wp2
                    go_ret
                    exact ⟨ret_bool HN.out.symm, bel_drewN HB5.out _⟩
                  | true =>
                    cases zg with
                    | false =>
                      have HN := Lib.hid (show tOkS p node s = false by rw [HZ.out, HY.out]; rfl)
                      go_upto_region 18 with fail
                      go_quiet (fail)
                      go_wp2
                      go_ret
                      exact ⟨ret_bool HN.out.symm, bel_drewN HB5.out _⟩
                    | true =>
                      by_cases kn : 0 < s.ch.length
                      · have fn : decide ((0 : Int) < (s.ch.length : Int)) = true := decide_eq_true (by omega)
                        obtain ⟨m, hm⟩ : ∃ m, s.ch.length = m + 1 := ⟨s.ch.length - 1, by omega⟩
                        obtain ⟨c, hc⟩ : ∃ c, s.ch[m]? = some c := ⟨_, List.getElem?_eq_getElem (by omega)⟩
                        have hsub : (s.ch.length : Int) - 1 = (m : Int) := by omega
                        have hlt : m < s.ch.length := by omega
                        have hwr : IntKind.i64.wrap ((s.ch.length : Int) - 1) = (m : Int) := by rw [hsub]; exact IntWalk.i64_in _ (by omega)
                        have HY2 := Lib.hid (show waitsOk s = (decide (0 < c.far) && decide (c.mark = s.binds.length) && decide (c.vars = s.vars)) by
                          rw [HY.out, List.getLast?_eq_getElem?, show s.ch.length - 1 = m by omega, hc]; rfl)
                        obtain ⟨CA', cn', ev, _, _, hCC⟩ := HC.out
                        injection ev with i1 i2 i3
                        obtain ⟨ad, xg, xa, hA, y0, y1, y2, y3, y4, y5, yg, ya⟩ := tch_at hCC hc
                        obtain rfl := i1.trans hA
                        have l1 := cell_keep HB5.out y1
                        have l2 := cell_keep HB5.out y2
                        have l5 := cell_keep HB5.out y5
                        clear hm hc i1 i2 i3 hCC hA hsub y0 y1 y2 y3 y4 y5 yg ya
                        by_cases kf : 0 < c.far
                        · have ff : decide (0 < c.far) = true := decide_eq_true kf
                          by_cases km : c.mark = s.binds.length
                          · have fm : (c.mark == (s.binds.length : Int)) = true := beq_iff_eq.2 km
                            have HN := Lib.hid (show tOkS p node s = (c.vars == s.vars) by
                              rw [HZ.out, HY2.out, ff, decide_eq_true km]
                              rw [Bool.eq_iff_iff]; simp)
                            obtain ⟨zv, ezv⟩ : ∃ q, (c.vars == s.vars) = q := ⟨_, rfl⟩
                            rw [ezv] at HN
                            clear kf km
                            cases zv
                            all_goals
                              go_upto_region 18 with fail
                              go_quiet (fail)
                              go_wp2
                              go_ret
                              exact ⟨ret_bool HN.out.symm, bel_drewN HB5.out _⟩
                          · have fm : (c.mark == (s.binds.length : Int)) = false := beq_eq_false_iff_ne.2 km
                            have HN := Lib.hid (show tOkS p node s = false by rw [HZ.out, HY2.out, ff, decide_eq_false km]; rfl)
                            clear kf km
                            go_upto_region 18 with fail
                            go_quiet (fail)
                            go_wp2
                            go_ret
                            exact ⟨ret_bool HN.out.symm, bel_drewN HB5.out _⟩
                        · have ff : decide (0 < c.far) = false := decide_eq_false kf
                          have HN := Lib.hid (show tOkS p node s = false by rw [HZ.out, HY2.out, ff]; rfl)
                          clear kf
                          go_upto_region 18 with fail
                          go_quiet (fail)
                          go_wp2
                          go_ret
                          exact ⟨ret_bool HN.out.symm, bel_drewN HB5.out _⟩
                      · have fn : decide ((0 : Int) < (s.ch.length : Int)) = false := decide_eq_false (by omega)
                        have HN := Lib.hid (show tOkS p node s = false by
                          rw [HZ.out, HY.out, show s.ch = [] from List.eq_nil_of_length_eq_zero (by omega)]; rfl)
                        go_upto_region 18 with fail
                        go_quiet (fail)
                        go_wp2
                        go_ret
                        exact ⟨ret_bool HN.out.symm, bel_drewN HB5.out _⟩
                · have f6 : (s.st == 6) = false := beq_eq_false_iff_ne.2 k6
                  by_cases k2 : s.st = 2
                  · have f2 : (s.st == 2) = true := beq_iff_eq.2 k2
                    have HZ := Lib.hid (show tOkS p node s = ansOk s by rw [HW.out]; unfold statOk; rw [if_neg k1, if_pos k2])
                    clear k1 k2 k6
                    obtain ⟨zg, ezg⟩ : ∃ q, ((s.goals.length : Int) == 0) = q := ⟨_, rfl⟩
                    obtain ⟨zf, ezf⟩ : ∃ q, decide ((flat s.binds s.top).length ≤ 40) = q := ⟨_, rfl⟩
                    have HY := Lib.hid (show ansOk s = (zg && zf && decide (s.out = canon (flat s.binds s.top))) by
                      unfold ansOk; rw [isEmpty_len, ezg, ezf])
                    have HFu := Lib.hid (fun w' hb => HFm.out w' hb zf ezf)
                    by_cases hgf : zg = true ∧ zf = true
                    · obtain ⟨rfl, rfl⟩ := hgf
                      obtain ⟨zs, ezs⟩ : ∃ q, decide (s.out = canon (flat s.binds s.top)) = q := ⟨_, rfl⟩
                      have HN := Lib.hid (show tOkS p node s = zs by rw [HZ.out, HY.out, ezs]; rfl)
                      have Hl40 := Lib.hid (of_decide_eq_true ezf)
                      have HSm := Lib.hid (fun W uv (hb : Below w.heap.size w W) (hu : T0 W uv (canon (flat s.binds s.top))) => sameS_c s.out (canon (flat s.binds s.top)) (.slice OA s.out.length on) uv W (HS.out.ext hb).o hu (by omega) (by rw [canon_len]; have := Hl40.out; omega))
                      rw [ezs] at HSm
                      clear ezf ezs
                      cases zs
                      all_goals
                        go_upto_region 20 with (go_at_call 125; (with_reducible refine (HFu.out _ HB5.out).mono ?_); rintro e w6 ⟨fv, rfl, hfo, hb6⟩; obtain ⟨⟨q0, q1, q2, q3, q4⟩, q5, q6, q7, q8⟩ := near_box (bel_trans Hb5.out hb6); have HB6 := Lib.hid (bel_trans HB5.out hb6); have HFo := Lib.hid hfo; clear hb6 hfo)
                        have HCa := Lib.hid (fun W (hb : Below w6.heap.size w6 W) => canonS_c (flat s.binds s.top) fv W (Kd.S_ext hb (HFo.out (by trivial))) (by have := Hl40.out; omega))
                        have hst : ∀ W1 W2, Below W1.heap.size W1 W2 → (W1.cell? ⟨w.heap.size + 1, 6, none⟩ = some (.slice OA s.out.length on) ∧ W1.cell? ⟨w.heap.size + 1, 0, none⟩ = some (.int .i64 s.st) ∧ W1.cell? ⟨w.heap.size + 1, 1, none⟩ = some (.slice GA s.goals.length gn) ∧ Hid (Below w6.heap.size w6 W1)) → (W2.cell? ⟨w.heap.size + 1, 6, none⟩ = some (.slice OA s.out.length on) ∧ W2.cell? ⟨w.heap.size + 1, 0, none⟩ = some (.int .i64 s.st) ∧ W2.cell? ⟨w.heap.size + 1, 1, none⟩ = some (.slice GA s.goals.length gn) ∧ Hid (Below w6.heap.size w6 W2)) := fun W1 W2 hb h => ⟨cell_keep hb h.1, cell_keep hb h.2.1, cell_keep hb h.2.2.1, Lib.hid (bel_trans h.2.2.2.out hb)⟩
                        have hS0 := hst w6 w6.drew (bel_drew (Below.refl _ _)) ⟨q8, q5, q6, Lib.hid (Below.refl _ _)⟩
                        go_region_held3 (fun W => W.cell? ⟨w.heap.size + 1, 6, none⟩ = some (.slice OA s.out.length on) ∧ W.cell? ⟨w.heap.size + 1, 0, none⟩ = some (.int .i64 s.st) ∧ W.cell? ⟨w.heap.size + 1, 1, none⟩ = some (.slice GA s.goals.length gn) ∧ Hid (Below w6.heap.size w6 W)) (assumption) (first | (go_at_call 47; refine (HCa.out _ (by have := hS0.2.2.2.out; exact this)).mono ?_; rintro e w7 ⟨v7, rfl, hv7, hb7⟩; have hS7 := hst _ _ hb7 (by assumption); have HV7 := Lib.hid hv7; clear hb7 hv7) | (go_at_call 46; refine (HSm.out _ _ (bel_trans HB6.out (by have := hS7.2.2.2.out; exact this)) HV7.out).mono ?_; rintro e w8 ⟨rfl, hb8⟩; have hS8 := hst _ _ hb8 (by assumption); clear hb8))
                        all_goals
                          have HB8 := hS8.2.2.2
                          clear hS0 hst
                          go_wp2
                          go_ret
                          exact ⟨ret_bool HN.out.symm, bel_trans HB6.out HB8.out⟩
                    · have HN := Lib.hid (show tOkS p node s = false by
                        rw [HZ.out, HY.out]
                        cases zg <;> cases zf <;> simp_all)
                      have hgg : zg = false ∨ (zg = true ∧ zf = false) := by cases zg <;> cases zf <;> simp_all
                      clear hgf ezf
                      rcases hgg with rfl | ⟨rfl, rfl⟩
                      · cases zf
                        all_goals
                          go_upto_region 20 with (go_at_call 125; (with_reducible refine (HFu.out _ HB5.out).mono ?_); rintro e w6 ⟨fv, rfl, hfo, hb6⟩; obtain ⟨⟨q0, q1, q2, q3, q4⟩, q5, q6, q7, q8⟩ := near_box (bel_trans Hb5.out hb6); have HB6 := Lib.hid (bel_trans HB5.out hb6); clear hb6 hfo)
                          go_quiet (fail)
                          go_wp2
                          go_ret
                          exact ⟨ret_bool HN.out.symm, bel_drewN HB6.out _⟩
                      · go_upto_region 20 with (go_at_call 125; (with_reducible refine (HFu.out _ HB5.out).mono ?_); rintro e w6 ⟨fv, rfl, hfo, hb6⟩; obtain ⟨⟨q0, q1, q2, q3, q4⟩, q5, q6, q7, q8⟩ := near_box (bel_trans Hb5.out hb6); have HB6 := Lib.hid (bel_trans HB5.out hb6); clear hb6 hfo)
                        go_quiet (fail)
                        go_wp2
                        go_ret
                        exact ⟨ret_bool HN.out.symm, bel_drewN HB6.out _⟩
                  · have f2 : (s.st == 2) = false := beq_eq_false_iff_ne.2 k2
                    have HN := Lib.hid (show tOkS p node s = false by rw [HW.out]; unfold statOk; rw [if_neg k1, if_neg k2, if_neg k6])
                    clear k1 k2 k6
                    obtain ⟨zf, ezf⟩ : ∃ q, decide ((flat s.binds s.top).length ≤ 40) = q := ⟨_, rfl⟩
                    have HFu := Lib.hid (fun w' hb => HFm.out w' hb zf ezf)
                    clear ezf
                    cases zf
                    all_goals
                      go_upto_region 20 with (go_at_call 125; (with_reducible refine (HFu.out _ HB5.out).mono ?_); rintro e w6 ⟨fv, rfl, hfo, hb6⟩; obtain ⟨⟨q0, q1, q2, q3, q4⟩, q5, q6, q7, q8⟩ := near_box (bel_trans Hb5.out hb6); have HB6 := Lib.hid (bel_trans HB5.out hb6); clear hb6 hfo)
                      go_quiet (fail)
                      go_wp2
                      go_ret
                      exact ⟨ret_bool HN.out.symm, bel_drewN HB6.out _⟩
        · have fg : decide (node < 0) = false := decide_eq_false hneg
          have HW := Lib.hid (show tOkS p node s = statOk s by rw [HV.out, if_neg hneg]; rfl)
          clear hneg
          go_upto_region 13 with fail
          by_cases k1 : s.st = 1
          · have f1 : (s.st == 1) = true := beq_iff_eq.2 k1
            have HZ := Lib.hid (show tOkS p node s = ((s.out.length : Int) == 0) by
              rw [HW.out]; unfold statOk; rw [if_pos k1]
              cases s.out with
              | nil => rfl
              | cons a l => rw [List.length_cons]; exact (beq_eq_false_iff_ne.2 (by omega)).symm)
            obtain ⟨zo, ezo⟩ : ∃ q, ((s.out.length : Int) == 0) = q := ⟨_, rfl⟩
            rw [ezo] at HZ
            clear k1
            cases zo
            all_goals
              go_wp2
              go_ret
              exact ⟨ret_bool HZ.out.symm, HB5.out⟩
          · have f1 : (s.st == 1) = false := beq_eq_false_iff_ne.2 k1
            by_cases k6 : s.st = 6
            · have f6 : (s.st == 6) = true := beq_iff_eq.2 k6
              have f2 : ¬ s.st = 2 := by omega
              have HZ := Lib.hid (show tOkS p node s = waitsOk s by rw [HW.out]; unfold statOk; rw [if_neg k1, if_neg f2, if_pos k6])
              clear k1 k6 f2
              obtain ⟨zo, ezo⟩ : ∃ q, ((s.out.length : Int) == 0) = q := ⟨_, rfl⟩
              obtain ⟨zg, ezg⟩ : ∃ q, ((s.goals.length : Int) == 0) = q := ⟨_, rfl⟩
              have HY := Lib.hid (show waitsOk s = (zg && zo && (match s.ch.getLast? with | some c => decide (0 < c.far) && decide (c.mark = s.binds.length) && decide (c.vars = s.vars) | none => false)) by
                unfold waitsOk; rw [isEmpty_len, isEmpty_len, ezo, ezg]; cases s.ch.getLast? <;> rfl)
              cases zo with
              | false =>
                have HN := Lib.hid (show tOkS p node s = false by rw [HZ.out, HY.out]; cases zg <;> rfl)
                clear ezg
                go_upto_region 18 with fail
                go_quiet (fail)
                go_wp2
                go_ret
                exact ⟨ret_bool HN.out.symm, bel_drewN HB5.out _⟩
              | true =>
                cases zg with
                | false =>
                  have HN := Lib.hid (show tOkS p node s = false by rw [HZ.out, HY.out]; rfl)
                  go_upto_region 18 with fail
                  go_quiet (fail)
                  go_wp2
                  go_ret
                  exact ⟨ret_bool HN.out.symm, bel_drewN HB5.out _⟩
                | true =>
                  by_cases kn : 0 < s.ch.length
                  · have fn : decide ((0 : Int) < (s.ch.length : Int)) = true := decide_eq_true (by omega)
                    obtain ⟨m, hm⟩ : ∃ m, s.ch.length = m + 1 := ⟨s.ch.length - 1, by omega⟩
                    obtain ⟨c, hc⟩ : ∃ c, s.ch[m]? = some c := ⟨_, List.getElem?_eq_getElem (by omega)⟩
                    have hsub : (s.ch.length : Int) - 1 = (m : Int) := by omega
                    have hlt : m < s.ch.length := by omega
                    have hwr : IntKind.i64.wrap ((s.ch.length : Int) - 1) = (m : Int) := by rw [hsub]; exact IntWalk.i64_in _ (by omega)
                    have HY2 := Lib.hid (show waitsOk s = (decide (0 < c.far) && decide (c.mark = s.binds.length) && decide (c.vars = s.vars)) by
                      rw [HY.out, List.getLast?_eq_getElem?, show s.ch.length - 1 = m by omega, hc]; rfl)
                    obtain ⟨CA', cn', ev, _, _, hCC⟩ := HC.out
                    injection ev with i1 i2 i3
                    obtain ⟨ad, xg, xa, hA, y0, y1, y2, y3, y4, y5, yg, ya⟩ := tch_at hCC hc
                    obtain rfl := i1.trans hA
                    have l1 := cell_keep HB5.out y1
                    have l2 := cell_keep HB5.out y2
                    have l5 := cell_keep HB5.out y5
                    clear hm hc i1 i2 i3 hCC hA hsub y0 y1 y2 y3 y4 y5 yg ya
                    by_cases kf : 0 < c.far
                    · have ff : decide (0 < c.far) = true := decide_eq_true kf
                      by_cases km : c.mark = s.binds.length
                      · have fm : (c.mark == (s.binds.length : Int)) = true := beq_iff_eq.2 km
                        have HN := Lib.hid (show tOkS p node s = (c.vars == s.vars) by
                          rw [HZ.out, HY2.out, ff, decide_eq_true km]
                          rw [Bool.eq_iff_iff]; simp)
                        obtain ⟨zv, ezv⟩ : ∃ q, (c.vars == s.vars) = q := ⟨_, rfl⟩
                        rw [ezv] at HN
                        clear kf km
                        cases zv
                        all_goals
                          go_upto_region 18 with fail
                          go_quiet (fail)
                          go_wp2
                          go_ret
                          exact ⟨ret_bool HN.out.symm, bel_drewN HB5.out _⟩
                      · have fm : (c.mark == (s.binds.length : Int)) = false := beq_eq_false_iff_ne.2 km
                        have HN := Lib.hid (show tOkS p node s = false by rw [HZ.out, HY2.out, ff, decide_eq_false km]; rfl)
                        clear kf km
                        go_upto_region 18 with fail
                        go_quiet (fail)
                        go_wp2
                        go_ret
                        exact ⟨ret_bool HN.out.symm, bel_drewN HB5.out _⟩
                    · have ff : decide (0 < c.far) = false := decide_eq_false kf
                      have HN := Lib.hid (show tOkS p node s = false by rw [HZ.out, HY2.out, ff]; rfl)
                      clear kf
                      go_upto_region 18 with fail
                      go_quiet (fail)
                      go_wp2
                      go_ret
                      exact ⟨ret_bool HN.out.symm, bel_drewN HB5.out _⟩
                  · have fn : decide ((0 : Int) < (s.ch.length : Int)) = false := decide_eq_false (by omega)
                    have HN := Lib.hid (show tOkS p node s = false by
                      rw [HZ.out, HY.out, show s.ch = [] from List.eq_nil_of_length_eq_zero (by omega)]; rfl)
                    go_upto_region 18 with fail
                    go_quiet (fail)
                    go_wp2
                    go_ret
                    exact ⟨ret_bool HN.out.symm, bel_drewN HB5.out _⟩
            · have f6 : (s.st == 6) = false := beq_eq_false_iff_ne.2 k6
              by_cases k2 : s.st = 2
              · have f2 : (s.st == 2) = true := beq_iff_eq.2 k2
                have HZ := Lib.hid (show tOkS p node s = ansOk s by rw [HW.out]; unfold statOk; rw [if_neg k1, if_pos k2])
                clear k1 k2 k6
                obtain ⟨zg, ezg⟩ : ∃ q, ((s.goals.length : Int) == 0) = q := ⟨_, rfl⟩
                obtain ⟨zf, ezf⟩ : ∃ q, decide ((flat s.binds s.top).length ≤ 40) = q := ⟨_, rfl⟩
                have HY := Lib.hid (show ansOk s = (zg && zf && decide (s.out = canon (flat s.binds s.top))) by
                  unfold ansOk; rw [isEmpty_len, ezg, ezf])
                have HFu := Lib.hid (fun w' hb => HFm.out w' hb zf ezf)
                by_cases hgf : zg = true ∧ zf = true
                · obtain ⟨rfl, rfl⟩ := hgf
                  obtain ⟨zs, ezs⟩ : ∃ q, decide (s.out = canon (flat s.binds s.top)) = q := ⟨_, rfl⟩
                  have HN := Lib.hid (show tOkS p node s = zs by rw [HZ.out, HY.out, ezs]; rfl)
                  have Hl40 := Lib.hid (of_decide_eq_true ezf)
                  have HSm := Lib.hid (fun W uv (hb : Below w.heap.size w W) (hu : T0 W uv (canon (flat s.binds s.top))) => sameS_c s.out (canon (flat s.binds s.top)) (.slice OA s.out.length on) uv W (HS.out.ext hb).o hu (by omega) (by rw [canon_len]; have := Hl40.out; omega))
                  rw [ezs] at HSm
                  clear ezf ezs
                  cases zs
                  all_goals
                    go_upto_region 20 with (go_at_call 125; (with_reducible refine (HFu.out _ HB5.out).mono ?_); rintro e w6 ⟨fv, rfl, hfo, hb6⟩; obtain ⟨⟨q0, q1, q2, q3, q4⟩, q5, q6, q7, q8⟩ := near_box (bel_trans Hb5.out hb6); have HB6 := Lib.hid (bel_trans HB5.out hb6); have HFo := Lib.hid hfo; clear hb6 hfo)
                    have HCa := Lib.hid (fun W (hb : Below w6.heap.size w6 W) => canonS_c (flat s.binds s.top) fv W (Kd.S_ext hb (HFo.out (by trivial))) (by have := Hl40.out; omega))
                    have hst : ∀ W1 W2, Below W1.heap.size W1 W2 → (W1.cell? ⟨w.heap.size + 1, 6, none⟩ = some (.slice OA s.out.length on) ∧ W1.cell? ⟨w.heap.size + 1, 0, none⟩ = some (.int .i64 s.st) ∧ W1.cell? ⟨w.heap.size + 1, 1, none⟩ = some (.slice GA s.goals.length gn) ∧ Hid (Below w6.heap.size w6 W1)) → (W2.cell? ⟨w.heap.size + 1, 6, none⟩ = some (.slice OA s.out.length on) ∧ W2.cell? ⟨w.heap.size + 1, 0, none⟩ = some (.int .i64 s.st) ∧ W2.cell? ⟨w.heap.size + 1, 1, none⟩ = some (.slice GA s.goals.length gn) ∧ Hid (Below w6.heap.size w6 W2)) := fun W1 W2 hb h => ⟨cell_keep hb h.1, cell_keep hb h.2.1, cell_keep hb h.2.2.1, Lib.hid (bel_trans h.2.2.2.out hb)⟩
                    have hS0 := hst w6 w6.drew (bel_drew (Below.refl _ _)) ⟨q8, q5, q6, Lib.hid (Below.refl _ _)⟩
                    go_region_held3 (fun W => W.cell? ⟨w.heap.size + 1, 6, none⟩ = some (.slice OA s.out.length on) ∧ W.cell? ⟨w.heap.size + 1, 0, none⟩ = some (.int .i64 s.st) ∧ W.cell? ⟨w.heap.size + 1, 1, none⟩ = some (.slice GA s.goals.length gn) ∧ Hid (Below w6.heap.size w6 W)) (assumption) (first | (go_at_call 47; refine (HCa.out _ (by have := hS0.2.2.2.out; exact this)).mono ?_; rintro e w7 ⟨v7, rfl, hv7, hb7⟩; have hS7 := hst _ _ hb7 (by assumption); have HV7 := Lib.hid hv7; clear hb7 hv7) | (go_at_call 46; refine (HSm.out _ _ (bel_trans HB6.out (by have := hS7.2.2.2.out; exact this)) HV7.out).mono ?_; rintro e w8 ⟨rfl, hb8⟩; have hS8 := hst _ _ hb8 (by assumption); clear hb8))
                    all_goals
                      have HB8 := hS8.2.2.2
                      clear hS0 hst
                      go_wp2
                      go_ret
                      exact ⟨ret_bool HN.out.symm, bel_trans HB6.out HB8.out⟩
                · have HN := Lib.hid (show tOkS p node s = false by
                    rw [HZ.out, HY.out]
                    cases zg <;> cases zf <;> simp_all)
                  have hgg : zg = false ∨ (zg = true ∧ zf = false) := by cases zg <;> cases zf <;> simp_all
                  clear hgf ezf
                  rcases hgg with rfl | ⟨rfl, rfl⟩
                  · cases zf
                    all_goals
                      go_upto_region 20 with (go_at_call 125; (with_reducible refine (HFu.out _ HB5.out).mono ?_); rintro e w6 ⟨fv, rfl, hfo, hb6⟩; obtain ⟨⟨q0, q1, q2, q3, q4⟩, q5, q6, q7, q8⟩ := near_box (bel_trans Hb5.out hb6); have HB6 := Lib.hid (bel_trans HB5.out hb6); clear hb6 hfo)
                      go_quiet (fail)
                      go_wp2
                      go_ret
                      exact ⟨ret_bool HN.out.symm, bel_drewN HB6.out _⟩
                  · go_upto_region 20 with (go_at_call 125; (with_reducible refine (HFu.out _ HB5.out).mono ?_); rintro e w6 ⟨fv, rfl, hfo, hb6⟩; obtain ⟨⟨q0, q1, q2, q3, q4⟩, q5, q6, q7, q8⟩ := near_box (bel_trans Hb5.out hb6); have HB6 := Lib.hid (bel_trans HB5.out hb6); clear hb6 hfo)
                    go_quiet (fail)
                    go_wp2
                    go_ret
                    exact ⟨ret_bool HN.out.symm, bel_drewN HB6.out _⟩
              · have f2 : (s.st == 2) = false := beq_eq_false_iff_ne.2 k2
                have HN := Lib.hid (show tOkS p node s = false by rw [HW.out]; unfold statOk; rw [if_neg k1, if_neg k2, if_neg k6])
                clear k1 k2 k6
                obtain ⟨zf, ezf⟩ : ∃ q, decide ((flat s.binds s.top).length ≤ 40) = q := ⟨_, rfl⟩
                have HFu := Lib.hid (fun w' hb => HFm.out w' hb zf ezf)
                clear ezf
                cases zf
                all_goals
                  go_upto_region 20 with (go_at_call 125; (with_reducible refine (HFu.out _ HB5.out).mono ?_); rintro e w6 ⟨fv, rfl, hfo, hb6⟩; obtain ⟨⟨q0, q1, q2, q3, q4⟩, q5, q6, q7, q8⟩ := near_box (bel_trans Hb5.out hb6); have HB6 := Lib.hid (bel_trans HB5.out hb6); clear hb6 hfo)
                  go_quiet (fail)
                  go_wp2
                  go_ret
                  exact ⟨ret_bool HN.out.symm, bel_drewN HB6.out _⟩
      · have HV := Lib.hid (show tOkS p node s = false by
          rw [hV]
          cases qf
          · rfl
          · cases qt
            · rfl
            · cases qn
              · rfl
              · exact absurd ⟨rfl, rfl, rfl⟩ hlive)
        have hqq : qf = false ∨ (qf = true ∧ qt = false) ∨ (qf = true ∧ qt = true ∧ qn = false) := by cases qf <;> cases qt <;> cases qn <;> simp_all
        clear hV hlive
        rcases hqq with rfl | ⟨rfl, rfl⟩ | ⟨rfl, rfl, rfl⟩
        all_goals
          go_enter Tryz.func88, Tryz.ntmps88
          go_wp2_with (first | (go_at_call 14; (with_reducible refine (HPk.out _ (H0.out _ _)).mono ?_); rintro e w1 ⟨rfl, hb1⟩; obtain ⟨⟨x0, x1, x2, x3, x4⟩, x5, x6, x7, x8⟩ := near_box hb1; have Hb1 := Lib.hid hb1; have HB1 := Lib.hid (bel_trans (H0.out _ _) hb1); clear hb1) | (go_at_call 18; (with_reducible refine (HI.out _).mono ?_); rintro e w2 ⟨rfl, rfl⟩) | (go_at_call 15; (with_reducible refine (HTo.out _ HB1.out).mono ?_); rintro e w2 ⟨rfl, hb2⟩; obtain ⟨⟨y0, y1, y2, y3, y4⟩, y5, y6, y7, y8⟩ := near_box (bel_trans Hb1.out hb2); have Hb2 := Lib.hid (bel_trans Hb1.out hb2); have HB2 := Lib.hid (bel_trans HB1.out hb2); clear hb2) | (go_at_call 122; (with_reducible refine (HFn.out _ HB2.out).mono ?_); rintro e w3 ⟨rfl, hb3⟩; obtain ⟨⟨u0, u1, u2, u3, u4⟩, u5, u6, u7, u8⟩ := near_box (bel_trans Hb2.out hb3); have Hb3 := Lib.hid (bel_trans Hb2.out hb3); have HB3 := Lib.hid (bel_trans HB2.out hb3); clear hb3) | (go_at_call 123; (with_reducible refine (HTt.out _ HB3.out).mono ?_); rintro e w4 ⟨rfl, hb4⟩; obtain ⟨⟨v0, v1, v2, v3, v4⟩, v5, v6, v7, v8⟩ := near_box (bel_trans Hb3.out hb4); have Hb4 := Lib.hid (bel_trans Hb3.out hb4); have HB4 := Lib.hid (bel_trans HB3.out hb4); clear hb4) | (go_at_call 124; (with_reducible refine (HNp.out _ HB4.out).mono ?_); rintro e w5 ⟨rfl, hb5⟩; obtain ⟨⟨r0, r1, r2, r3, r4⟩, r5, r6, r7, r8⟩ := near_box (bel_trans Hb4.out hb5); have Hb5 := Lib.hid (bel_trans Hb4.out hb5); have HB5 := Lib.hid (bel_trans HB4.out hb5); clear hb5))
          go_ret
          exact ⟨ret_bool HV.out.symm, (by first | exact HB5.out | exact HB4.out | exact HB3.out)⟩
  · have HV := Lib.hid (show tOkS p node s = false by
      rw [hV]
      cases qp
      · rfl
      · cases qi
        · rfl
        · cases qq
          · rfl
          · exact absurd ⟨rfl, rfl, rfl⟩ hall)
    have hqq : qp = false ∨ (qp = true ∧ qi = false) ∨ (qp = true ∧ qi = true ∧ qq = false) := by cases qp <;> cases qi <;> cases qq <;> simp_all
    clear hV hall ep ei eq hp hs hf hfp
    rcases hqq with rfl | ⟨rfl, rfl⟩ | ⟨rfl, rfl, rfl⟩
    all_goals
      go_enter Tryz.func88, Tryz.ntmps88
      go_wp2_with (first | (go_at_call 14; (with_reducible refine (HPk.out _ (H0.out _ _)).mono ?_); rintro e w1 ⟨rfl, hb1⟩; obtain ⟨⟨x0, x1, x2, x3, x4⟩, x5, x6, x7, x8⟩ := near_box hb1; have Hb1 := Lib.hid hb1; have HB1 := Lib.hid (bel_trans (H0.out _ _) hb1); clear hb1) | (go_at_call 18; (with_reducible refine (HI.out _).mono ?_); rintro e w2 ⟨rfl, rfl⟩) | (go_at_call 15; (with_reducible refine (HTo.out _ HB1.out).mono ?_); rintro e w2 ⟨rfl, hb2⟩; obtain ⟨⟨y0, y1, y2, y3, y4⟩, y5, y6, y7, y8⟩ := near_box (bel_trans Hb1.out hb2); have Hb2 := Lib.hid (bel_trans Hb1.out hb2); have HB2 := Lib.hid (bel_trans HB1.out hb2); clear hb2))
      go_ret
      exact ⟨ret_bool HV.out.symm, (by first | exact HB2.out | exact HB1.out)⟩
end Go.Proofs.YtdoggcfdfkkedaaGreatDoor
