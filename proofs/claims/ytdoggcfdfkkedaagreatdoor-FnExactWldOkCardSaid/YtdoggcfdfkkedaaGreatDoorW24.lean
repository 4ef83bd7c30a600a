/- Lemmas and contracts for FnExactWldOk, part 24. -/
import Derived.Test.YtdoggcfdfkkedaaGreatDoorW22
import Derived.Test.YtdoggcfdfkkedaaGreatDoorW23
namespace Go.Proofs.YtdoggcfdfkkedaaGreatDoor
open Go.RowKit
set_option maxRecDepth 100000
set_option maxHeartbeats 8000000
set_option linter.unusedVariables false
theorem trlOkI_c (p : Prog) (s : TSt) (node : Int) (p1 p2 gv bv cv tv ov : Value) (w : World) (hp : PrR w p p1 p2) (hs : StR w s gv bv cv tv ov) (hfp : fitP p) (hf : fitS s) (hkw : keysWf s.binds) :
    Calls Tryz.prog 108 #[.agg #[p1, p2], .int .i64 node, .agg #[.int .i64 s.st, gv, bv, .int .i64 s.vars, cv, tv, ov]] w fun e w' => e = .returned (.bool (tOk p node s)) ∧ Below w.heap.size w w' := by
  have HPk := Lib.hid (fun w' hb => prgOkI_c p p1 p2 w' (hp.ext (w := w) hb).c (hp.ext hb).p hfp)
  have HI := Lib.hid (fun w' => imIn_c node (-1) 2 w')
  have HTo := Lib.hid (fun w' hb => isQI_c s.top tv w' (hs.ext (w := w) hb).t (fit_len hf.2.2.2.1) hf.2.2.2.1.2)
  have HSt := Lib.hid (fun w' => imIn_c s.st 3 5 w')
  have HNo := Lib.hid (fun w' hb => nothingI_c s gv bv cv tv ov w' (hs.ext (w := w) hb) hf)
  have H0 := Lib.hid (fun o o' => bel_alloc (bel_alloc (Below.refl _ w) o) o')
  have HV := Lib.hid (show tOk p node s = ((prgOk p && inR node (-1) 2 && isQ s.top) && (if 3 ≤ s.st ∧ s.st ≤ 5 then nothing s else liveOk p node s && statOk s)) from rfl)
  obtain ⟨q1, e1⟩ : ∃ q, prgOk p = q := ⟨_, rfl⟩
  obtain ⟨q2, e2⟩ : ∃ q, inR node (-1) 2 = q := ⟨_, rfl⟩
  obtain ⟨q3, e3⟩ : ∃ q, isQ s.top = q := ⟨_, rfl⟩
  have HE1 := Lib.hid e1
  have HQt := Lib.hid e3
  rw [e1, e2, e3] at HV
  rw [e1] at HPk
  rw [show (decide (-1 ≤ node) && decide (node ≤ 2)) = q2 from e2] at HI
  rw [e3] at HTo
  clear e1 e2 e3
  by_cases hq : (q1 && q2 && q3) = true
  · simp only [Bool.and_eq_true] at hq
    obtain ⟨⟨rfl, rfl⟩, rfl⟩ := hq
    by_cases h35 : 3 ≤ s.st ∧ s.st ≤ 5
    · have HR := Lib.hid (show tOk p node s = nothing s by rw [HV.out, if_pos h35]; rfl)
      rw [show (decide (3 ≤ s.st) && decide (s.st ≤ 5)) = true by rw [decide_eq_true h35.1, decide_eq_true h35.2]; rfl] at HSt
      clear h35
      go_enter Tryz.func108, Tryz.ntmps108
      go_wp2_with (first | (go_at_call 24; (with_reducible refine (HPk.out _ (H0.out _ _)).mono ?_); rintro e w1 ⟨rfl, hb1⟩; obtain ⟨⟨n0, n1, n2, n3, n4⟩, n5, n6, n7, n8⟩ := near_box hb1; have HB1 := Lib.hid (bel_trans (H0.out _ _) hb1); have Hb1 := Lib.hid hb1; clear hb1) | (go_at_call 29; (with_reducible refine (HI.out _).mono ?_); rintro e w2 ⟨rfl, rfl⟩) | (go_at_call 25; (with_reducible refine (HTo.out _ HB1.out).mono ?_); rintro e w3 ⟨rfl, hb3⟩; have HB3 := Lib.hid (bel_trans HB1.out hb3); obtain ⟨⟨m0, m1, m2, m3, m4⟩, m5, m6, m7, m8⟩ := near_box (bel_trans Hb1.out hb3); clear hb3) | (go_at_call 29; (with_reducible refine (HSt.out _).mono ?_); rintro e w4 ⟨rfl, rfl⟩) | (go_at_call 146; (with_reducible refine (HNo.out _ HB3.out).mono ?_); rintro e w5 ⟨rfl, hb5⟩))
      go_ret
      exact ⟨ret_bool HR.out.symm, bel_trans HB3.out hb5⟩
    · have HR := Lib.hid (show tOk p node s = (liveOk p node s && statOk s) by rw [HV.out, if_neg h35]; rfl)
      rw [show (decide (3 ≤ s.st) && decide (s.st ≤ 5)) = false by rw [Bool.eq_false_iff]; intro h; simp only [Bool.and_eq_true, decide_eq_true_eq] at h; exact h35 h] at HSt
      have HS := Lib.hid hs
      have HLo := Lib.hid (show s.out.length ≤ 1000000000 from fit_len hf.2.2.2.2)
      have lg := hf.1.1
      have lc := hf.2.2.1.1
      have lo := hf.2.2.2.2.1
      have HI6 := Lib.hid (fun w' => imIn_c s.vars 0 99999 w')
      have HSu := Lib.hid (fun w' (hb : Below w.heap.size w w') => subOkI_c s.binds bv w' (hs.ext hb).b hf.2.1 hkw)
      have HBb := Lib.hid (fun w' (hb : Below w.heap.size w w') => bbI_c s.binds s.vars bv w' (hs.ext hb).b hf.2.1)
      have HGo := Lib.hid (fun w' (hb : Below w.heap.size w w') => goalsI_c s.goals s.vars s.ch.length gv w' (hs.ext hb).g hf.1)
      have HCh := Lib.hid (fun w' (hb : Below w.heap.size w w') b (hsl : SlvB w' b s node p1 p2 gv bv cv tv ov) => choicesI_c p s node b p1 p2 gv bv cv tv ov w' hsl (hp.ext hb) (hs.ext hb) HE1.out hfp hf)
      have HBe := Lib.hid (fun w' (hb : Below w.heap.size w w') => belowI_c s.top s.vars tv w' (hs.ext hb).t (fit_len hf.2.2.2.1))
      have HWa := Lib.hid (fun w' (hb : Below w.heap.size w w') b (hsl : SlvB w' b s node p1 p2 gv bv cv tv ov) => waitsI_c s node b p1 p2 gv bv cv tv ov w' hsl (hs.ext hb) hf)
      have HFm := Lib.hid (show ∀ w', Below w.heap.size w w' → ∀ q, decide ((flat s.binds s.top).length ≤ 40) = q → subOk s.binds = true → Calls Tryz.prog 151 #[bv, tv] w' fun e w2 => ∃ v, e = .returned (.tuple #[v, .bool q]) ∧ (q = true → T0 w2 v (flat s.binds s.top)) ∧ Below w'.heap.size w' w2 from fun w' hb q hq hsub => by
          have hB := sub_binv (subOk_iff.1 hsub)
          obtain ⟨k, f⟩ := flat_fl hB.bok s.top
          refine (fullI_c s.binds s.top _ k bv tv w' f (HS.out.ext hb).b (HS.out.ext hb).t (by have := hf.2.1.1; omega) hB.nod (trmOk_iff.1 (isQ_ok HQt.out).1).2.1 (bound_len hB)).mono ?_
          rintro e w2 ⟨v, rfl, ho, hb2⟩
          refine ⟨v, by rw [hq], fun h => ?_, hb2⟩
          have h40 := of_decide_eq_true (hq.trans h)
          rw [if_pos h40] at ho
          exact Kd.O_read ho)
      obtain ⟨z1, e1⟩ : ∃ q, inR s.vars 0 99999 = q := ⟨_, rfl⟩
      obtain ⟨z2, e2⟩ : ∃ q, subOk s.binds = q := ⟨_, rfl⟩
      obtain ⟨z3, e3⟩ : ∃ q, bindsBelow s.binds s.vars = q := ⟨_, rfl⟩
      obtain ⟨z4, e4⟩ : ∃ q, s.goals.all (sgOk s.vars s.ch.length) = q := ⟨_, rfl⟩
      obtain ⟨z5, e5⟩ : ∃ q, chAll p node s.binds s.vars 0 0 0 s.ch = q := ⟨_, rfl⟩
      obtain ⟨z6, e6⟩ : ∃ q, belowV s.vars s.top = q := ⟨_, rfl⟩
      have HL := Lib.hid (show tOk p node s = (((z1 && z2 && z4 && z3) && z6 && z5) && statOk s) by rw [HR.out]; unfold liveOk fineOk; rw [e1, e2, e3, e4, e5, e6])
      rw [show (decide (0 ≤ s.vars) && decide (s.vars ≤ 99999)) = z1 from e1] at HI6
      rw [e2] at HSu
      rw [e3] at HBb
      rw [e4] at HGo
      rw [e5] at HCh
      rw [e6] at HBe
      have HE2 := Lib.hid e2
      have hg := hs.g
      have hc := hs.c
      have ho := hs.o
      obtain ⟨GA, gn, rfl, g1, g2, -⟩ := hg
      obtain ⟨CA, cn, rfl, c1, c2, -⟩ := hc
      obtain ⟨OA, on, rfl, o1, o2, -⟩ := ho
      clear e1 e2 e3 e4 e5 e6 hs hf
      have H10 := Lib.hid (fun W => heap_alloc_new W (.cells #[.int .i64 s.st, .slice GA s.goals.length gn, bv, .int .i64 s.vars, .slice CA s.ch.length cn, tv, .slice OA s.out.length on, p1, p2, .int .i64 node] 202))
      clear h35
      go_enter Tryz.func108, Tryz.ntmps108
      go_upto_region 6 with (first | (go_at_call 24; (with_reducible refine (HPk.out _ (H0.out _ _)).mono ?_); rintro e w1 ⟨rfl, hb1⟩; obtain ⟨⟨n0, n1, n2, n3, n4⟩, n5, n6, n7, n8⟩ := near_box hb1; have HB1 := Lib.hid (bel_trans (H0.out _ _) hb1); have Hb1 := Lib.hid hb1; clear hb1) | (go_at_call 29; (with_reducible refine (HI.out _).mono ?_); rintro e w2 ⟨rfl, rfl⟩) | (go_at_call 25; (with_reducible refine (HTo.out _ HB1.out).mono ?_); rintro e w3 ⟨rfl, hb3⟩; have HB3 := Lib.hid (bel_trans HB1.out hb3); have Hb3 := Lib.hid (bel_trans Hb1.out hb3); obtain ⟨⟨m0, m1, m2, m3, m4⟩, m5, m6, m7, m8⟩ := near_box (bel_trans Hb1.out hb3); clear hb3) | (go_at_call 29; (with_reducible refine (HSt.out _).mono ?_); rintro e w4 ⟨rfl, rfl⟩))
      have hSl := SlvB.mk (w := w3.alloc (.cells #[.int .i64 s.st, .slice GA s.goals.length gn, bv, .int .i64 s.vars, .slice CA s.ch.length cn, tv, .slice OA s.out.length on, p1, p2, .int .i64 node] 202)) (b := w3.heap.size) (Lib.cell_of_heap (H10.out w3) 0) (Lib.cell_of_heap (H10.out w3) 1) (Lib.cell_of_heap (H10.out w3) 2) (Lib.cell_of_heap (H10.out w3) 3) (Lib.cell_of_heap (H10.out w3) 4) (Lib.cell_of_heap (H10.out w3) 5) (Lib.cell_of_heap (H10.out w3) 6) (Lib.cell_of_heap (H10.out w3) 7) (Lib.cell_of_heap (H10.out w3) 8) (Lib.cell_of_heap (H10.out w3) 9)
      have h4 := bel_alloc (Below.refl _ w3) (.cells #[.int .i64 s.st, .slice GA s.goals.length gn, bv, .int .i64 s.vars, .slice CA s.ch.length cn, tv, .slice OA s.out.length on, p1, p2, .int .i64 node] 202)
      clear H10 m0 m1 m2 m3 m4 m5 m6 m7 m8 n0 n1 n2 n3 n4 n5 n6 n7 n8
      generalize World.alloc w3 _ = W4 at *
      have HB4 := Lib.hid (bel_trans HB3.out h4)
      have Hb4 := Lib.hid (bel_trans Hb3.out h4)
      have HSl4 := Lib.hid hSl
      obtain ⟨⟨x40, x41, x42, x43, x44⟩, x45, x46, x47, x48⟩ := near_box Hb4.out
      clear h4 hSl
      cases z1
      ·
        have HN := Lib.hid (show tOk p node s = false by rw [HL.out]; simp)
        go_wp2_with (first | (go_at_call 29; (with_reducible refine (HI6.out _).mono ?_); rintro e w5 ⟨rfl, rfl⟩) | (go_at_call 147; (with_reducible refine (HSu.out _ HB4.out).mono ?_); rintro e w5 ⟨rfl, hb⟩; have HB5 := Lib.hid (bel_trans HB4.out hb); have Hb5 := Lib.hid (bel_trans Hb4.out hb); have HSl5 := Lib.hid (HSl4.out.ext hb); obtain ⟨⟨x50, x51, x52, x53, x54⟩, x55, x56, x57, x58⟩ := near_box (bel_trans Hb4.out hb); clear hb) | (go_at_call 148; (with_reducible refine (HBb.out _ HB5.out).mono ?_); rintro e w6 ⟨rfl, hb⟩; have HB6 := Lib.hid (bel_trans HB5.out hb); have Hb6 := Lib.hid (bel_trans Hb5.out hb); have HSl6 := Lib.hid (HSl5.out.ext hb); obtain ⟨⟨x60, x61, x62, x63, x64⟩, x65, x66, x67, x68⟩ := near_box (bel_trans Hb5.out hb); clear hb) | (go_at_call 149; (with_reducible refine (HGo.out _ HB6.out).mono ?_); rintro e w7 ⟨rfl, hb⟩; have HB7 := Lib.hid (bel_trans HB6.out hb); have Hb7 := Lib.hid (bel_trans Hb6.out hb); have HSl7 := Lib.hid (HSl6.out.ext hb); obtain ⟨⟨x70, x71, x72, x73, x74⟩, x75, x76, x77, x78⟩ := near_box (bel_trans Hb6.out hb); clear hb) | (go_at_call 150; (with_reducible refine (HCh.out _ HB7.out _ HSl7.out).mono ?_); rintro e w8 ⟨rfl, hb⟩; have HB8 := Lib.hid (bel_trans HB7.out hb); have Hb8 := Lib.hid (bel_trans Hb7.out hb); have HSl8 := Lib.hid (HSl7.out.ext hb); obtain ⟨⟨x80, x81, x82, x83, x84⟩, x85, x86, x87, x88⟩ := near_box (bel_trans Hb7.out hb); clear hb) | (go_at_call 136; (with_reducible refine (HBe.out _ HB8.out).mono ?_); rintro e w9 ⟨rfl, hb⟩; have HB9 := Lib.hid (bel_trans HB8.out hb); have Hb9 := Lib.hid (bel_trans Hb8.out hb); have HSl9 := Lib.hid (HSl8.out.ext hb); obtain ⟨⟨x90, x91, x92, x93, x94⟩, x95, x96, x97, x98⟩ := near_box (bel_trans Hb8.out hb); clear hb))
        go_ret
        first | exact ⟨ret_bool HN.out.symm, HB9.out⟩ | exact ⟨ret_bool HN.out.symm, HB8.out⟩ | exact ⟨ret_bool HN.out.symm, HB7.out⟩ | exact ⟨ret_bool HN.out.symm, HB6.out⟩ | exact ⟨ret_bool HN.out.symm, HB5.out⟩ | exact ⟨ret_bool HN.out.symm, HB4.out⟩
      ·
        cases z2
        ·
          have HN := Lib.hid (show tOk p node s = false by rw [HL.out]; simp)
          go_wp2_with (first | (go_at_call 29; (with_reducible refine (HI6.out _).mono ?_); rintro e w5 ⟨rfl, rfl⟩) | (go_at_call 147; (with_reducible refine (HSu.out _ HB4.out).mono ?_); rintro e w5 ⟨rfl, hb⟩; have HB5 := Lib.hid (bel_trans HB4.out hb); have Hb5 := Lib.hid (bel_trans Hb4.out hb); have HSl5 := Lib.hid (HSl4.out.ext hb); obtain ⟨⟨x50, x51, x52, x53, x54⟩, x55, x56, x57, x58⟩ := near_box (bel_trans Hb4.out hb); clear hb) | (go_at_call 148; (with_reducible refine (HBb.out _ HB5.out).mono ?_); rintro e w6 ⟨rfl, hb⟩; have HB6 := Lib.hid (bel_trans HB5.out hb); have Hb6 := Lib.hid (bel_trans Hb5.out hb); have HSl6 := Lib.hid (HSl5.out.ext hb); obtain ⟨⟨x60, x61, x62, x63, x64⟩, x65, x66, x67, x68⟩ := near_box (bel_trans Hb5.out hb); clear hb) | (go_at_call 149; (with_reducible refine (HGo.out _ HB6.out).mono ?_); rintro e w7 ⟨rfl, hb⟩; have HB7 := Lib.hid (bel_trans HB6.out hb); have Hb7 := Lib.hid (bel_trans Hb6.out hb); have HSl7 := Lib.hid (HSl6.out.ext hb); obtain ⟨⟨x70, x71, x72, x73, x74⟩, x75, x76, x77, x78⟩ := near_box (bel_trans Hb6.out hb); clear hb) | (go_at_call 150; (with_reducible refine (HCh.out _ HB7.out _ HSl7.out).mono ?_); rintro e w8 ⟨rfl, hb⟩; have HB8 := Lib.hid (bel_trans HB7.out hb); have Hb8 := Lib.hid (bel_trans Hb7.out hb); have HSl8 := Lib.hid (HSl7.out.ext hb); obtain ⟨⟨x80, x81, x82, x83, x84⟩, x85, x86, x87, x88⟩ := near_box (bel_trans Hb7.out hb); clear hb) | (go_at_call 136; (with_reducible refine (HBe.out _ HB8.out).mono ?_); rintro e w9 ⟨rfl, hb⟩; have HB9 := Lib.hid (bel_trans HB8.out hb); have Hb9 := Lib.hid (bel_trans Hb8.out hb); have HSl9 := Lib.hid (HSl8.out.ext hb); obtain ⟨⟨x90, x91, x92, x93, x94⟩, x95, x96, x97, x98⟩ := near_box (bel_trans Hb8.out hb); clear hb))
          go_ret
          first | exact ⟨ret_bool HN.out.symm, HB9.out⟩ | exact ⟨ret_bool HN.out.symm, HB8.out⟩ | exact ⟨ret_bool HN.out.symm, HB7.out⟩ | exact ⟨ret_bool HN.out.symm, HB6.out⟩ | exact ⟨ret_bool HN.out.symm, HB5.out⟩ | exact ⟨ret_bool HN.out.symm, HB4.out⟩
        ·
          cases z3
          ·
            have HN := Lib.hid (show tOk p node s = false by rw [HL.out]; simp)
            go_wp2_with (first | (go_at_call 29; (with_reducible refine (HI6.out _).mono ?_); rintro e w5 ⟨rfl, rfl⟩) | (go_at_call 147; (with_reducible refine (HSu.out _ HB4.out).mono ?_); rintro e w5 ⟨rfl, hb⟩; have HB5 := Lib.hid (bel_trans HB4.out hb); have Hb5 := Lib.hid (bel_trans Hb4.out hb); have HSl5 := Lib.hid (HSl4.out.ext hb); obtain ⟨⟨x50, x51, x52, x53, x54⟩, x55, x56, x57, x58⟩ := near_box (bel_trans Hb4.out hb); clear hb) | (go_at_call 148; (with_reducible refine (HBb.out _ HB5.out).mono ?_); rintro e w6 ⟨rfl, hb⟩; have HB6 := Lib.hid (bel_trans HB5.out hb); have Hb6 := Lib.hid (bel_trans Hb5.out hb); have HSl6 := Lib.hid (HSl5.out.ext hb); obtain ⟨⟨x60, x61, x62, x63, x64⟩, x65, x66, x67, x68⟩ := near_box (bel_trans Hb5.out hb); clear hb) | (go_at_call 149; (with_reducible refine (HGo.out _ HB6.out).mono ?_); rintro e w7 ⟨rfl, hb⟩; have HB7 := Lib.hid (bel_trans HB6.out hb); have Hb7 := Lib.hid (bel_trans Hb6.out hb); have HSl7 := Lib.hid (HSl6.out.ext hb); obtain ⟨⟨x70, x71, x72, x73, x74⟩, x75, x76, x77, x78⟩ := near_box (bel_trans Hb6.out hb); clear hb) | (go_at_call 150; (with_reducible refine (HCh.out _ HB7.out _ HSl7.out).mono ?_); rintro e w8 ⟨rfl, hb⟩; have HB8 := Lib.hid (bel_trans HB7.out hb); have Hb8 := Lib.hid (bel_trans Hb7.out hb); have HSl8 := Lib.hid (HSl7.out.ext hb); obtain ⟨⟨x80, x81, x82, x83, x84⟩, x85, x86, x87, x88⟩ := near_box (bel_trans Hb7.out hb); clear hb) | (go_at_call 136; (with_reducible refine (HBe.out _ HB8.out).mono ?_); rintro e w9 ⟨rfl, hb⟩; have HB9 := Lib.hid (bel_trans HB8.out hb); have Hb9 := Lib.hid (bel_trans Hb8.out hb); have HSl9 := Lib.hid (HSl8.out.ext hb); obtain ⟨⟨x90, x91, x92, x93, x94⟩, x95, x96, x97, x98⟩ := near_box (bel_trans Hb8.out hb); clear hb))
            go_ret
            first | exact ⟨ret_bool HN.out.symm, HB9.out⟩ | exact ⟨ret_bool HN.out.symm, HB8.out⟩ | exact ⟨ret_bool HN.out.symm, HB7.out⟩ | exact ⟨ret_bool HN.out.symm, HB6.out⟩ | exact ⟨ret_bool HN.out.symm, HB5.out⟩ | exact ⟨ret_bool HN.out.symm, HB4.out⟩
          ·
            cases z4
            ·
              have HN := Lib.hid (show tOk p node s = false by rw [HL.out]; simp)
              go_wp2_with (first | (go_at_call 29; (with_reducible refine (HI6.out _).mono ?_); rintro e w5 ⟨rfl, rfl⟩) | (go_at_call 147; (with_reducible refine (HSu.out _ HB4.out).mono ?_); rintro e w5 ⟨rfl, hb⟩; have HB5 := Lib.hid (bel_trans HB4.out hb); have Hb5 := Lib.hid (bel_trans Hb4.out hb); have HSl5 := Lib.hid (HSl4.out.ext hb); obtain ⟨⟨x50, x51, x52, x53, x54⟩, x55, x56, x57, x58⟩ := near_box (bel_trans Hb4.out hb); clear hb) | (go_at_call 148; (with_reducible refine (HBb.out _ HB5.out).mono ?_); rintro e w6 ⟨rfl, hb⟩; have HB6 := Lib.hid (bel_trans HB5.out hb); have Hb6 := Lib.hid (bel_trans Hb5.out hb); have HSl6 := Lib.hid (HSl5.out.ext hb); obtain ⟨⟨x60, x61, x62, x63, x64⟩, x65, x66, x67, x68⟩ := near_box (bel_trans Hb5.out hb); clear hb) | (go_at_call 149; (with_reducible refine (HGo.out _ HB6.out).mono ?_); rintro e w7 ⟨rfl, hb⟩; have HB7 := Lib.hid (bel_trans HB6.out hb); have Hb7 := Lib.hid (bel_trans Hb6.out hb); have HSl7 := Lib.hid (HSl6.out.ext hb); obtain ⟨⟨x70, x71, x72, x73, x74⟩, x75, x76, x77, x78⟩ := near_box (bel_trans Hb6.out hb); clear hb) | (go_at_call 150; (with_reducible refine (HCh.out _ HB7.out _ HSl7.out).mono ?_); rintro e w8 ⟨rfl, hb⟩; have HB8 := Lib.hid (bel_trans HB7.out hb); have Hb8 := Lib.hid (bel_trans Hb7.out hb); have HSl8 := Lib.hid (HSl7.out.ext hb); obtain ⟨⟨x80, x81, x82, x83, x84⟩, x85, x86, x87, x88⟩ := near_box (bel_trans Hb7.out hb); clear hb) | (go_at_call 136; (with_reducible refine (HBe.out _ HB8.out).mono ?_); rintro e w9 ⟨rfl, hb⟩; have HB9 := Lib.hid (bel_trans HB8.out hb); have Hb9 := Lib.hid (bel_trans Hb8.out hb); have HSl9 := Lib.hid (HSl8.out.ext hb); obtain ⟨⟨x90, x91, x92, x93, x94⟩, x95, x96, x97, x98⟩ := near_box (bel_trans Hb8.out hb); clear hb))
              go_ret
              first | exact ⟨ret_bool HN.out.symm, HB9.out⟩ | exact ⟨ret_bool HN.out.symm, HB8.out⟩ | exact ⟨ret_bool HN.out.symm, HB7.out⟩ | exact ⟨ret_bool HN.out.symm, HB6.out⟩ | exact ⟨ret_bool HN.out.symm, HB5.out⟩ | exact ⟨ret_bool HN.out.symm, HB4.out⟩
            ·
              cases z5
              ·
                have HN := Lib.hid (show tOk p node s = false by rw [HL.out]; simp)
                go_wp2_with (first | (go_at_call 29; (with_reducible refine (HI6.out _).mono ?_); rintro e w5 ⟨rfl, rfl⟩) | (go_at_call 147; (with_reducible refine (HSu.out _ HB4.out).mono ?_); rintro e w5 ⟨rfl, hb⟩; have HB5 := Lib.hid (bel_trans HB4.out hb); have Hb5 := Lib.hid (bel_trans Hb4.out hb); have HSl5 := Lib.hid (HSl4.out.ext hb); obtain ⟨⟨x50, x51, x52, x53, x54⟩, x55, x56, x57, x58⟩ := near_box (bel_trans Hb4.out hb); clear hb) | (go_at_call 148; (with_reducible refine (HBb.out _ HB5.out).mono ?_); rintro e w6 ⟨rfl, hb⟩; have HB6 := Lib.hid (bel_trans HB5.out hb); have Hb6 := Lib.hid (bel_trans Hb5.out hb); have HSl6 := Lib.hid (HSl5.out.ext hb); obtain ⟨⟨x60, x61, x62, x63, x64⟩, x65, x66, x67, x68⟩ := near_box (bel_trans Hb5.out hb); clear hb) | (go_at_call 149; (with_reducible refine (HGo.out _ HB6.out).mono ?_); rintro e w7 ⟨rfl, hb⟩; have HB7 := Lib.hid (bel_trans HB6.out hb); have Hb7 := Lib.hid (bel_trans Hb6.out hb); have HSl7 := Lib.hid (HSl6.out.ext hb); obtain ⟨⟨x70, x71, x72, x73, x74⟩, x75, x76, x77, x78⟩ := near_box (bel_trans Hb6.out hb); clear hb) | (go_at_call 150; (with_reducible refine (HCh.out _ HB7.out _ HSl7.out).mono ?_); rintro e w8 ⟨rfl, hb⟩; have HB8 := Lib.hid (bel_trans HB7.out hb); have Hb8 := Lib.hid (bel_trans Hb7.out hb); have HSl8 := Lib.hid (HSl7.out.ext hb); obtain ⟨⟨x80, x81, x82, x83, x84⟩, x85, x86, x87, x88⟩ := near_box (bel_trans Hb7.out hb); clear hb) | (go_at_call 136; (with_reducible refine (HBe.out _ HB8.out).mono ?_); rintro e w9 ⟨rfl, hb⟩; have HB9 := Lib.hid (bel_trans HB8.out hb); have Hb9 := Lib.hid (bel_trans Hb8.out hb); have HSl9 := Lib.hid (HSl8.out.ext hb); obtain ⟨⟨x90, x91, x92, x93, x94⟩, x95, x96, x97, x98⟩ := near_box (bel_trans Hb8.out hb); clear hb))
                go_ret
                first | exact ⟨ret_bool HN.out.symm, HB9.out⟩ | exact ⟨ret_bool HN.out.symm, HB8.out⟩ | exact ⟨ret_bool HN.out.symm, HB7.out⟩ | exact ⟨ret_bool HN.out.symm, HB6.out⟩ | exact ⟨ret_bool HN.out.symm, HB5.out⟩ | exact ⟨ret_bool HN.out.symm, HB4.out⟩
              ·
                cases z6
                ·
                  have HN := Lib.hid (show tOk p node s = false by rw [HL.out]; simp)
                  go_wp2_with (first | (go_at_call 29; (with_reducible refine (HI6.out _).mono ?_); rintro e w5 ⟨rfl, rfl⟩) | (go_at_call 147; (with_reducible refine (HSu.out _ HB4.out).mono ?_); rintro e w5 ⟨rfl, hb⟩; have HB5 := Lib.hid (bel_trans HB4.out hb); have Hb5 := Lib.hid (bel_trans Hb4.out hb); have HSl5 := Lib.hid (HSl4.out.ext hb); obtain ⟨⟨x50, x51, x52, x53, x54⟩, x55, x56, x57, x58⟩ := near_box (bel_trans Hb4.out hb); clear hb) | (go_at_call 148; (with_reducible refine (HBb.out _ HB5.out).mono ?_); rintro e w6 ⟨rfl, hb⟩; have HB6 := Lib.hid (bel_trans HB5.out hb); have Hb6 := Lib.hid (bel_trans Hb5.out hb); have HSl6 := Lib.hid (HSl5.out.ext hb); obtain ⟨⟨x60, x61, x62, x63, x64⟩, x65, x66, x67, x68⟩ := near_box (bel_trans Hb5.out hb); clear hb) | (go_at_call 149; (with_reducible refine (HGo.out _ HB6.out).mono ?_); rintro e w7 ⟨rfl, hb⟩; have HB7 := Lib.hid (bel_trans HB6.out hb); have Hb7 := Lib.hid (bel_trans Hb6.out hb); have HSl7 := Lib.hid (HSl6.out.ext hb); obtain ⟨⟨x70, x71, x72, x73, x74⟩, x75, x76, x77, x78⟩ := near_box (bel_trans Hb6.out hb); clear hb) | (go_at_call 150; (with_reducible refine (HCh.out _ HB7.out _ HSl7.out).mono ?_); rintro e w8 ⟨rfl, hb⟩; have HB8 := Lib.hid (bel_trans HB7.out hb); have Hb8 := Lib.hid (bel_trans Hb7.out hb); have HSl8 := Lib.hid (HSl7.out.ext hb); obtain ⟨⟨x80, x81, x82, x83, x84⟩, x85, x86, x87, x88⟩ := near_box (bel_trans Hb7.out hb); clear hb) | (go_at_call 136; (with_reducible refine (HBe.out _ HB8.out).mono ?_); rintro e w9 ⟨rfl, hb⟩; have HB9 := Lib.hid (bel_trans HB8.out hb); have Hb9 := Lib.hid (bel_trans Hb8.out hb); have HSl9 := Lib.hid (HSl8.out.ext hb); obtain ⟨⟨x90, x91, x92, x93, x94⟩, x95, x96, x97, x98⟩ := near_box (bel_trans Hb8.out hb); clear hb))
                  go_ret
                  first | exact ⟨ret_bool HN.out.symm, HB9.out⟩ | exact ⟨ret_bool HN.out.symm, HB8.out⟩ | exact ⟨ret_bool HN.out.symm, HB7.out⟩ | exact ⟨ret_bool HN.out.symm, HB6.out⟩ | exact ⟨ret_bool HN.out.symm, HB5.out⟩ | exact ⟨ret_bool HN.out.symm, HB4.out⟩
                ·
                  have HZ := Lib.hid (show tOk p node s = statOk s by rw [HL.out]; rfl)
                  by_cases k1 : s.st = 1
                  · have f1 : (s.st == 1) = true := beq_iff_eq.2 k1
                    have HN := Lib.hid (show tOk p node s = ((s.out.length : Int) == 0) by rw [HZ.out]; unfold statOk; rw [if_pos k1, isEmpty_len])
                    clear k1
                    go_wp2_with (first | (go_at_call 29; (with_reducible refine (HI6.out _).mono ?_); rintro e w5 ⟨rfl, rfl⟩) | (go_at_call 147; (with_reducible refine (HSu.out _ HB4.out).mono ?_); rintro e w5 ⟨rfl, hb⟩; have HB5 := Lib.hid (bel_trans HB4.out hb); have Hb5 := Lib.hid (bel_trans Hb4.out hb); have HSl5 := Lib.hid (HSl4.out.ext hb); obtain ⟨⟨x50, x51, x52, x53, x54⟩, x55, x56, x57, x58⟩ := near_box (bel_trans Hb4.out hb); clear hb) | (go_at_call 148; (with_reducible refine (HBb.out _ HB5.out).mono ?_); rintro e w6 ⟨rfl, hb⟩; have HB6 := Lib.hid (bel_trans HB5.out hb); have Hb6 := Lib.hid (bel_trans Hb5.out hb); have HSl6 := Lib.hid (HSl5.out.ext hb); obtain ⟨⟨x60, x61, x62, x63, x64⟩, x65, x66, x67, x68⟩ := near_box (bel_trans Hb5.out hb); clear hb) | (go_at_call 149; (with_reducible refine (HGo.out _ HB6.out).mono ?_); rintro e w7 ⟨rfl, hb⟩; have HB7 := Lib.hid (bel_trans HB6.out hb); have Hb7 := Lib.hid (bel_trans Hb6.out hb); have HSl7 := Lib.hid (HSl6.out.ext hb); obtain ⟨⟨x70, x71, x72, x73, x74⟩, x75, x76, x77, x78⟩ := near_box (bel_trans Hb6.out hb); clear hb) | (go_at_call 150; (with_reducible refine (HCh.out _ HB7.out _ HSl7.out).mono ?_); rintro e w8 ⟨rfl, hb⟩; have HB8 := Lib.hid (bel_trans HB7.out hb); have Hb8 := Lib.hid (bel_trans Hb7.out hb); have HSl8 := Lib.hid (HSl7.out.ext hb); obtain ⟨⟨x80, x81, x82, x83, x84⟩, x85, x86, x87, x88⟩ := near_box (bel_trans Hb7.out hb); clear hb) | (go_at_call 136; (with_reducible refine (HBe.out _ HB8.out).mono ?_); rintro e w9 ⟨rfl, hb⟩; have HB9 := Lib.hid (bel_trans HB8.out hb); have Hb9 := Lib.hid (bel_trans Hb8.out hb); have HSl9 := Lib.hid (HSl8.out.ext hb); obtain ⟨⟨x90, x91, x92, x93, x94⟩, x95, x96, x97, x98⟩ := near_box (bel_trans Hb8.out hb); clear hb))
                    go_ret
                    exact ⟨ret_bool HN.out.symm, HB9.out⟩
                  · have f1 : (s.st == 1) = false := beq_eq_false_iff_ne.2 k1
                    by_cases k2 : s.st = 2
                    · have f2 : (s.st == 2) = true := beq_iff_eq.2 k2
                      have HY := Lib.hid (show tOk p node s = (((s.goals.length : Int) == 0) && decide ((flat s.binds s.top).length ≤ 40) && decide (s.out = canon (flat s.binds s.top))) by rw [HZ.out]; unfold statOk; rw [if_neg k1, if_pos k2]; unfold ansOk; rw [isEmpty_len])
                      clear k1 k2
                      obtain ⟨zg, ezg⟩ : ∃ q, ((s.goals.length : Int) == 0) = q := ⟨_, rfl⟩
                      obtain ⟨zf, ezf⟩ : ∃ q, decide ((flat s.binds s.top).length ≤ 40) = q := ⟨_, rfl⟩
                      rw [ezg, ezf] at HY
                      have HFu := Lib.hid (fun w' hb => HFm.out w' hb zf ezf HE2.out)
                      cases zf
                      · have HN := Lib.hid (show tOk p node s = false by rw [HY.out]; simp)
                        clear ezf
                        go_upto_region 13 with (first | (go_at_call 29; (with_reducible refine (HI6.out _).mono ?_); rintro e w5 ⟨rfl, rfl⟩) | (go_at_call 147; (with_reducible refine (HSu.out _ HB4.out).mono ?_); rintro e w5 ⟨rfl, hb⟩; have HB5 := Lib.hid (bel_trans HB4.out hb); have Hb5 := Lib.hid (bel_trans Hb4.out hb); have HSl5 := Lib.hid (HSl4.out.ext hb); obtain ⟨⟨x50, x51, x52, x53, x54⟩, x55, x56, x57, x58⟩ := near_box (bel_trans Hb4.out hb); clear hb) | (go_at_call 148; (with_reducible refine (HBb.out _ HB5.out).mono ?_); rintro e w6 ⟨rfl, hb⟩; have HB6 := Lib.hid (bel_trans HB5.out hb); have Hb6 := Lib.hid (bel_trans Hb5.out hb); have HSl6 := Lib.hid (HSl5.out.ext hb); obtain ⟨⟨x60, x61, x62, x63, x64⟩, x65, x66, x67, x68⟩ := near_box (bel_trans Hb5.out hb); clear hb) | (go_at_call 149; (with_reducible refine (HGo.out _ HB6.out).mono ?_); rintro e w7 ⟨rfl, hb⟩; have HB7 := Lib.hid (bel_trans HB6.out hb); have Hb7 := Lib.hid (bel_trans Hb6.out hb); have HSl7 := Lib.hid (HSl6.out.ext hb); obtain ⟨⟨x70, x71, x72, x73, x74⟩, x75, x76, x77, x78⟩ := near_box (bel_trans Hb6.out hb); clear hb) | (go_at_call 150; (with_reducible refine (HCh.out _ HB7.out _ HSl7.out).mono ?_); rintro e w8 ⟨rfl, hb⟩; have HB8 := Lib.hid (bel_trans HB7.out hb); have Hb8 := Lib.hid (bel_trans Hb7.out hb); have HSl8 := Lib.hid (HSl7.out.ext hb); obtain ⟨⟨x80, x81, x82, x83, x84⟩, x85, x86, x87, x88⟩ := near_box (bel_trans Hb7.out hb); clear hb) | (go_at_call 136; (with_reducible refine (HBe.out _ HB8.out).mono ?_); rintro e w9 ⟨rfl, hb⟩; have HB9 := Lib.hid (bel_trans HB8.out hb); have Hb9 := Lib.hid (bel_trans Hb8.out hb); have HSl9 := Lib.hid (HSl8.out.ext hb); obtain ⟨⟨x90, x91, x92, x93, x94⟩, x95, x96, x97, x98⟩ := near_box (bel_trans Hb8.out hb); clear hb) | (go_at_call 151; (with_reducible refine (HFu.out _ HB9.out).mono ?_); rintro e w10 ⟨fv, rfl, hfo, hb⟩; have HFo := Lib.hid hfo; clear hfo; have HB10 := Lib.hid (bel_trans HB9.out hb); have Hb10 := Lib.hid (bel_trans Hb9.out hb); have HSl10 := Lib.hid (HSl9.out.ext hb); obtain ⟨⟨x100, x101, x102, x103, x104⟩, x105, x106, x107, x108⟩ := near_box (bel_trans Hb9.out hb); clear hb))
                        go_quiet (fail)
                        go_wp2
                        go_ret
                        exact ⟨ret_bool HN.out.symm, bel_drewN HB10.out _⟩
                      · have Hl40 := Lib.hid (of_decide_eq_true ezf)
                        clear ezf
                        cases zg
                        · have HN := Lib.hid (show tOk p node s = false by rw [HY.out]; simp)
                          go_upto_region 13 with (first | (go_at_call 29; (with_reducible refine (HI6.out _).mono ?_); rintro e w5 ⟨rfl, rfl⟩) | (go_at_call 147; (with_reducible refine (HSu.out _ HB4.out).mono ?_); rintro e w5 ⟨rfl, hb⟩; have HB5 := Lib.hid (bel_trans HB4.out hb); have Hb5 := Lib.hid (bel_trans Hb4.out hb); have HSl5 := Lib.hid (HSl4.out.ext hb); obtain ⟨⟨x50, x51, x52, x53, x54⟩, x55, x56, x57, x58⟩ := near_box (bel_trans Hb4.out hb); clear hb) | (go_at_call 148; (with_reducible refine (HBb.out _ HB5.out).mono ?_); rintro e w6 ⟨rfl, hb⟩; have HB6 := Lib.hid (bel_trans HB5.out hb); have Hb6 := Lib.hid (bel_trans Hb5.out hb); have HSl6 := Lib.hid (HSl5.out.ext hb); obtain ⟨⟨x60, x61, x62, x63, x64⟩, x65, x66, x67, x68⟩ := near_box (bel_trans Hb5.out hb); clear hb) | (go_at_call 149; (with_reducible refine (HGo.out _ HB6.out).mono ?_); rintro e w7 ⟨rfl, hb⟩; have HB7 := Lib.hid (bel_trans HB6.out hb); have Hb7 := Lib.hid (bel_trans Hb6.out hb); have HSl7 := Lib.hid (HSl6.out.ext hb); obtain ⟨⟨x70, x71, x72, x73, x74⟩, x75, x76, x77, x78⟩ := near_box (bel_trans Hb6.out hb); clear hb) | (go_at_call 150; (with_reducible refine (HCh.out _ HB7.out _ HSl7.out).mono ?_); rintro e w8 ⟨rfl, hb⟩; have HB8 := Lib.hid (bel_trans HB7.out hb); have Hb8 := Lib.hid (bel_trans Hb7.out hb); have HSl8 := Lib.hid (HSl7.out.ext hb); obtain ⟨⟨x80, x81, x82, x83, x84⟩, x85, x86, x87, x88⟩ := near_box (bel_trans Hb7.out hb); clear hb) | (go_at_call 136; (with_reducible refine (HBe.out _ HB8.out).mono ?_); rintro e w9 ⟨rfl, hb⟩; have HB9 := Lib.hid (bel_trans HB8.out hb); have Hb9 := Lib.hid (bel_trans Hb8.out hb); have HSl9 := Lib.hid (HSl8.out.ext hb); obtain ⟨⟨x90, x91, x92, x93, x94⟩, x95, x96, x97, x98⟩ := near_box (bel_trans Hb8.out hb); clear hb) | (go_at_call 151; (with_reducible refine (HFu.out _ HB9.out).mono ?_); rintro e w10 ⟨fv, rfl, hfo, hb⟩; have HFo := Lib.hid hfo; clear hfo; have HB10 := Lib.hid (bel_trans HB9.out hb); have Hb10 := Lib.hid (bel_trans Hb9.out hb); have HSl10 := Lib.hid (HSl9.out.ext hb); obtain ⟨⟨x100, x101, x102, x103, x104⟩, x105, x106, x107, x108⟩ := near_box (bel_trans Hb9.out hb); clear hb))
                          go_quiet (fail)
                          go_wp2
                          go_ret
                          exact ⟨ret_bool HN.out.symm, bel_drewN HB10.out _⟩
                        · obtain ⟨zs, ezs⟩ : ∃ q, decide (s.out = canon (flat s.binds s.top)) = q := ⟨_, rfl⟩
                          have HN := Lib.hid (show tOk p node s = zs by rw [HY.out, ezs]; rfl)
                          have HSm := Lib.hid (fun W uv (hb : Below w.heap.size w W) (hu : T0 W uv (canon (flat s.binds s.top))) => sameI_c s.out (canon (flat s.binds s.top)) (.slice OA s.out.length on) uv W (HS.out.ext hb).o hu (by have := HLo.out; omega) (by rw [canon_len]; have := Hl40.out; omega))
                          rw [ezs] at HSm
                          clear ezs
                          go_upto_region 13 with (first | (go_at_call 29; (with_reducible refine (HI6.out _).mono ?_); rintro e w5 ⟨rfl, rfl⟩) | (go_at_call 147; (with_reducible refine (HSu.out _ HB4.out).mono ?_); rintro e w5 ⟨rfl, hb⟩; have HB5 := Lib.hid (bel_trans HB4.out hb); have Hb5 := Lib.hid (bel_trans Hb4.out hb); have HSl5 := Lib.hid (HSl4.out.ext hb); obtain ⟨⟨x50, x51, x52, x53, x54⟩, x55, x56, x57, x58⟩ := near_box (bel_trans Hb4.out hb); clear hb) | (go_at_call 148; (with_reducible refine (HBb.out _ HB5.out).mono ?_); rintro e w6 ⟨rfl, hb⟩; have HB6 := Lib.hid (bel_trans HB5.out hb); have Hb6 := Lib.hid (bel_trans Hb5.out hb); have HSl6 := Lib.hid (HSl5.out.ext hb); obtain ⟨⟨x60, x61, x62, x63, x64⟩, x65, x66, x67, x68⟩ := near_box (bel_trans Hb5.out hb); clear hb) | (go_at_call 149; (with_reducible refine (HGo.out _ HB6.out).mono ?_); rintro e w7 ⟨rfl, hb⟩; have HB7 := Lib.hid (bel_trans HB6.out hb); have Hb7 := Lib.hid (bel_trans Hb6.out hb); have HSl7 := Lib.hid (HSl6.out.ext hb); obtain ⟨⟨x70, x71, x72, x73, x74⟩, x75, x76, x77, x78⟩ := near_box (bel_trans Hb6.out hb); clear hb) | (go_at_call 150; (with_reducible refine (HCh.out _ HB7.out _ HSl7.out).mono ?_); rintro e w8 ⟨rfl, hb⟩; have HB8 := Lib.hid (bel_trans HB7.out hb); have Hb8 := Lib.hid (bel_trans Hb7.out hb); have HSl8 := Lib.hid (HSl7.out.ext hb); obtain ⟨⟨x80, x81, x82, x83, x84⟩, x85, x86, x87, x88⟩ := near_box (bel_trans Hb7.out hb); clear hb) | (go_at_call 136; (with_reducible refine (HBe.out _ HB8.out).mono ?_); rintro e w9 ⟨rfl, hb⟩; have HB9 := Lib.hid (bel_trans HB8.out hb); have Hb9 := Lib.hid (bel_trans Hb8.out hb); have HSl9 := Lib.hid (HSl8.out.ext hb); obtain ⟨⟨x90, x91, x92, x93, x94⟩, x95, x96, x97, x98⟩ := near_box (bel_trans Hb8.out hb); clear hb) | (go_at_call 151; (with_reducible refine (HFu.out _ HB9.out).mono ?_); rintro e w10 ⟨fv, rfl, hfo, hb⟩; have HFo := Lib.hid hfo; clear hfo; have HB10 := Lib.hid (bel_trans HB9.out hb); have Hb10 := Lib.hid (bel_trans Hb9.out hb); have HSl10 := Lib.hid (HSl9.out.ext hb); obtain ⟨⟨x100, x101, x102, x103, x104⟩, x105, x106, x107, x108⟩ := near_box (bel_trans Hb9.out hb); clear hb))
                          have HCa := Lib.hid (fun W (hb : Below w10.heap.size w10 W) => canonI_c (flat s.binds s.top) fv W (Kd.S_ext hb (HFo.out (by trivial))) (by have := Hl40.out; omega))
                          have hst : ∀ W1 W2, Below W1.heap.size W1 W2 → (W1.cell? ⟨w.heap.size + 1, 6, none⟩ = some (.slice OA s.out.length on) ∧ W1.cell? ⟨w.heap.size + 1, 1, none⟩ = some (.slice GA s.goals.length gn) ∧ Hid (Below w10.heap.size w10 W1)) → (W2.cell? ⟨w.heap.size + 1, 6, none⟩ = some (.slice OA s.out.length on) ∧ W2.cell? ⟨w.heap.size + 1, 1, none⟩ = some (.slice GA s.goals.length gn) ∧ Hid (Below w10.heap.size w10 W2)) := fun W1 W2 hb h => ⟨cell_keep hb h.1, cell_keep hb h.2.1, Lib.hid (bel_trans h.2.2.out hb)⟩
                          have hS0 := hst w10 w10.drew (bel_drew (Below.refl _ _)) ⟨x108, x106, Lib.hid (Below.refl _ _)⟩
                          go_region_held3 (fun W1 => W1.cell? ⟨w.heap.size + 1, 6, none⟩ = some (.slice OA s.out.length on) ∧ W1.cell? ⟨w.heap.size + 1, 1, none⟩ = some (.slice GA s.goals.length gn) ∧ Hid (Below w10.heap.size w10 W1)) (assumption) (first | (go_at_call 63; refine (HCa.out _ (by have := hS0.2.2.out; exact this)).mono ?_; rintro e w11 ⟨v11, rfl, hv11, hb11⟩; have hS11 := hst _ _ hb11 (by assumption); have HV11 := Lib.hid (Kd.O_read hv11); clear hb11 hv11) | (go_at_call 62; refine (HSm.out _ _ (bel_trans HB10.out (by have := hS11.2.2.out; exact this)) HV11.out).mono ?_; rintro e w12 ⟨rfl, hb12⟩; have hS12 := hst _ _ hb12 (by assumption); clear hb12))
                          all_goals
                            have HB12 := hS12.2.2
                            clear hS0 hst
                            go_wp2
                            go_ret
                            exact ⟨ret_bool HN.out.symm, bel_trans HB10.out HB12.out⟩
                    · have f2 : (s.st == 2) = false := beq_eq_false_iff_ne.2 k2
                      by_cases k6 : s.st = 6
                      · have f6 : (s.st == 6) = true := beq_iff_eq.2 k6
                        have HN := Lib.hid (show tOk p node s = waitsOk s by rw [HZ.out]; unfold statOk; rw [if_neg k1, if_neg k2, if_pos k6])
                        clear k1 k2 k6
                        go_wp2_with (first | (go_at_call 29; (with_reducible refine (HI6.out _).mono ?_); rintro e w5 ⟨rfl, rfl⟩) | (go_at_call 147; (with_reducible refine (HSu.out _ HB4.out).mono ?_); rintro e w5 ⟨rfl, hb⟩; have HB5 := Lib.hid (bel_trans HB4.out hb); have Hb5 := Lib.hid (bel_trans Hb4.out hb); have HSl5 := Lib.hid (HSl4.out.ext hb); obtain ⟨⟨x50, x51, x52, x53, x54⟩, x55, x56, x57, x58⟩ := near_box (bel_trans Hb4.out hb); clear hb) | (go_at_call 148; (with_reducible refine (HBb.out _ HB5.out).mono ?_); rintro e w6 ⟨rfl, hb⟩; have HB6 := Lib.hid (bel_trans HB5.out hb); have Hb6 := Lib.hid (bel_trans Hb5.out hb); have HSl6 := Lib.hid (HSl5.out.ext hb); obtain ⟨⟨x60, x61, x62, x63, x64⟩, x65, x66, x67, x68⟩ := near_box (bel_trans Hb5.out hb); clear hb) | (go_at_call 149; (with_reducible refine (HGo.out _ HB6.out).mono ?_); rintro e w7 ⟨rfl, hb⟩; have HB7 := Lib.hid (bel_trans HB6.out hb); have Hb7 := Lib.hid (bel_trans Hb6.out hb); have HSl7 := Lib.hid (HSl6.out.ext hb); obtain ⟨⟨x70, x71, x72, x73, x74⟩, x75, x76, x77, x78⟩ := near_box (bel_trans Hb6.out hb); clear hb) | (go_at_call 150; (with_reducible refine (HCh.out _ HB7.out _ HSl7.out).mono ?_); rintro e w8 ⟨rfl, hb⟩; have HB8 := Lib.hid (bel_trans HB7.out hb); have Hb8 := Lib.hid (bel_trans Hb7.out hb); have HSl8 := Lib.hid (HSl7.out.ext hb); obtain ⟨⟨x80, x81, x82, x83, x84⟩, x85, x86, x87, x88⟩ := near_box (bel_trans Hb7.out hb); clear hb) | (go_at_call 136; (with_reducible refine (HBe.out _ HB8.out).mono ?_); rintro e w9 ⟨rfl, hb⟩; have HB9 := Lib.hid (bel_trans HB8.out hb); have Hb9 := Lib.hid (bel_trans Hb8.out hb); have HSl9 := Lib.hid (HSl8.out.ext hb); obtain ⟨⟨x90, x91, x92, x93, x94⟩, x95, x96, x97, x98⟩ := near_box (bel_trans Hb8.out hb); clear hb) | (go_at_call 152; (with_reducible refine (HWa.out _ HB9.out _ HSl9.out).mono ?_); rintro e w10 ⟨rfl, hb⟩; have HB10 := Lib.hid (bel_trans HB9.out hb); clear hb))
                        go_ret
                        exact ⟨ret_bool HN.out.symm, HB10.out⟩
                      · have f6 : (s.st == 6) = false := beq_eq_false_iff_ne.2 k6
                        have HN := Lib.hid (show tOk p node s = false by rw [HZ.out]; unfold statOk; rw [if_neg k1, if_neg k2, if_neg k6])
                        clear k1 k2 k6
                        go_wp2_with (first | (go_at_call 29; (with_reducible refine (HI6.out _).mono ?_); rintro e w5 ⟨rfl, rfl⟩) | (go_at_call 147; (with_reducible refine (HSu.out _ HB4.out).mono ?_); rintro e w5 ⟨rfl, hb⟩; have HB5 := Lib.hid (bel_trans HB4.out hb); have Hb5 := Lib.hid (bel_trans Hb4.out hb); have HSl5 := Lib.hid (HSl4.out.ext hb); obtain ⟨⟨x50, x51, x52, x53, x54⟩, x55, x56, x57, x58⟩ := near_box (bel_trans Hb4.out hb); clear hb) | (go_at_call 148; (with_reducible refine (HBb.out _ HB5.out).mono ?_); rintro e w6 ⟨rfl, hb⟩; have HB6 := Lib.hid (bel_trans HB5.out hb); have Hb6 := Lib.hid (bel_trans Hb5.out hb); have HSl6 := Lib.hid (HSl5.out.ext hb); obtain ⟨⟨x60, x61, x62, x63, x64⟩, x65, x66, x67, x68⟩ := near_box (bel_trans Hb5.out hb); clear hb) | (go_at_call 149; (with_reducible refine (HGo.out _ HB6.out).mono ?_); rintro e w7 ⟨rfl, hb⟩; have HB7 := Lib.hid (bel_trans HB6.out hb); have Hb7 := Lib.hid (bel_trans Hb6.out hb); have HSl7 := Lib.hid (HSl6.out.ext hb); obtain ⟨⟨x70, x71, x72, x73, x74⟩, x75, x76, x77, x78⟩ := near_box (bel_trans Hb6.out hb); clear hb) | (go_at_call 150; (with_reducible refine (HCh.out _ HB7.out _ HSl7.out).mono ?_); rintro e w8 ⟨rfl, hb⟩; have HB8 := Lib.hid (bel_trans HB7.out hb); have Hb8 := Lib.hid (bel_trans Hb7.out hb); have HSl8 := Lib.hid (HSl7.out.ext hb); obtain ⟨⟨x80, x81, x82, x83, x84⟩, x85, x86, x87, x88⟩ := near_box (bel_trans Hb7.out hb); clear hb) | (go_at_call 136; (with_reducible refine (HBe.out _ HB8.out).mono ?_); rintro e w9 ⟨rfl, hb⟩; have HB9 := Lib.hid (bel_trans HB8.out hb); have Hb9 := Lib.hid (bel_trans Hb8.out hb); have HSl9 := Lib.hid (HSl8.out.ext hb); obtain ⟨⟨x90, x91, x92, x93, x94⟩, x95, x96, x97, x98⟩ := near_box (bel_trans Hb8.out hb); clear hb))
                        go_ret
                        exact ⟨ret_bool HN.out.symm, HB9.out⟩
  · have HR := Lib.hid (show tOk p node s = false by rw [HV.out, Bool.eq_false_iff.2 hq]; rfl)
    cases q1 <;> cases q2 <;> cases q3
    all_goals (try exact absurd rfl hq)
    all_goals
      clear hq
      go_enter Tryz.func108, Tryz.ntmps108
      go_wp2_with (first | (go_at_call 24; (with_reducible refine (HPk.out _ (H0.out _ _)).mono ?_); rintro e w1 ⟨rfl, hb1⟩; obtain ⟨⟨n0, n1, n2, n3, n4⟩, n5, n6, n7, n8⟩ := near_box hb1; have HB1 := Lib.hid (bel_trans (H0.out _ _) hb1); clear hb1) | (go_at_call 29; (with_reducible refine (HI.out _).mono ?_); rintro e w2 ⟨rfl, rfl⟩) | (go_at_call 25; (with_reducible refine (HTo.out _ HB1.out).mono ?_); rintro e w3 ⟨rfl, hb3⟩; have HB3 := Lib.hid (bel_trans HB1.out hb3); clear hb3))
      go_ret
      first | exact ⟨ret_bool HR.out.symm, HB3.out⟩ | exact ⟨ret_bool HR.out.symm, HB1.out⟩
end Go.Proofs.YtdoggcfdfkkedaaGreatDoor
