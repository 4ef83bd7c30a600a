/- Lemmas and contracts for FnExactWldOk, part 18. -/
import Derived.Test.YtdoggcfdfkkedaaGreatDoorW14
import Derived.Test.YtdoggcfdfkkedaaGreatDoorW17
namespace Go.Proofs.YtdoggcfdfkkedaaGreatDoor
open Go.RowKit
set_option maxRecDepth 100000
set_option maxHeartbeats 8000000
set_option linter.unusedVariables false
def fitW (w : Work) : Prop := fitOs w.outs ∧ fitS w.slv
def findW (top : Trm) : Nat → List Work → Int
  | _, [] => -1
  | i, x :: xs => if decide (x.slv.top = top) = true then i else findW top (i + 1) xs
theorem findW_any (top : Trm) : ∀ (i : Nat) (ws : List Work), decide (0 ≤ findW top i ws) = ws.any (fun x => decide (x.slv.top = top))
  | _, [] => rfl
  | i, x :: xs => by
    unfold findW
    rw [List.any_cons]
    cases h : decide (x.slv.top = top)
    · rw [if_neg (by simp), findW_any top (i + 1) xs]; rfl
    · rw [if_pos rfl, decide_eq_true (by omega)]; rfl
theorem findW_step {top : Trm} {ws : List Work} {k : Nat} {x : Work} (h : ws[k]? = some x) : findW top k (ws.drop k) = if decide (x.slv.top = top) = true then (k : Int) else findW top (k + 1) (ws.drop (k + 1)) := by
  rw [drop_one h]; rfl
theorem findS_c (top : Trm) (ws : List Work) (wv tv : Value) (w : World) (hw : Kd.work.S 107 w wv ws) (ht : Kd.cell.S 112 w tv top) (hl : ws.length ≤ 4000000) (hlt : top.length ≤ 1000000000) (hf : ∀ x ∈ ws, x.slv.top.length ≤ 1000000000) :
    Calls Tryz.prog 50 #[wv, tv] w fun e w' => e = .returned (.int .i64 (findW top 0 ws)) ∧ Below w.heap.size w w' := by
  have HT := Lib.hid ht
  have HS := Lib.hid hw
  have HF := Lib.hid hf
  have H0 := Lib.hid (Below.refl w.heap.size w)
  obtain ⟨A, c, rfl, a1, a2, -⟩ := hw
  obtain ⟨TA, tc, rfl, -, -, -⟩ := ht
  obtain ⟨Z, hZ⟩ : ∃ Z, findW top 0 ws = Z := ⟨_, rfl⟩
  have HZ0 := Lib.hid (show findW top 0 (ws.drop 0) = Z from hZ)
  rw [hZ]
  clear hZ hf
  go_enter Tryz.func50, Tryz.ntmps50
  go_wp2
  go_loopw [5] (fun v5 wr => ∃ k : Nat, v5 = .int .i64 k ∧ k ≤ ws.length ∧ Hid (findW top k (ws.drop k) = Z) ∧ Hid (Below w.heap.size w wr)) (fun v5 _ => ws.length - (intOf v5).toNat)
  case atStart => exact ⟨0, rfl, Nat.zero_le _, HZ0, H0⟩
  case round =>
    obtain ⟨k, rfl, hk, HRr, HBr⟩ := hrel
    by_cases hlt2 : k < ws.length
    · obtain ⟨x, hc⟩ : ∃ x, ws[k]? = some x := ⟨_, List.getElem?_eq_getElem hlt2⟩
      obtain ⟨A', c', ev, _, _, hC⟩ := HS.out
      injection ev with z1 z2 z3
      obtain ⟨ad, v1, v2, v3, v4, v5, v6, had, x0, x1, x2, x3, x4, x5, x6, x7, x8, x9, h1, h2, h3, h4, h5, h6⟩ := dwork_at hC hc
      have had2 := z1.trans had
      have HX := Lib.hid (fun W hb => sameS_c x.slv.top top v5 (.slice TA top.length tc) W (Kd.S_ext (w := w) hb h5) (Kd.S_ext (w := w) hb HT.out) (HF.out x (List.mem_of_getElem? hc)) hlt)
      have HST := Lib.hid ((findW_step (top := top) hc).symm.trans HRr.out)
      obtain ⟨OA, oc, rfl, -, -, -⟩ := h5
      have x8 := cell_keep HBr.out x8
      clear z1 z2 z3 had hC hc h1 h2 h3 h4 h6 x0 x1 x2 x3 x4 x5 x6 x7 x9
      subst had2
      obtain ⟨q1, e1⟩ : ∃ q, decide (x.slv.top = top) = q := ⟨_, rfl⟩
      rw [e1] at HX HST
      clear e1
      cases q1
      · have HV := Lib.hid (show findW top (k + 1) (ws.drop (k + 1)) = Z from HST.out)
        go_wp2_with (go_at_call 46; (with_reducible refine (HX.out _ HBr.out).mono ?_); rintro e w2 ⟨rfl, hb2⟩; have HB2 := Lib.hid (bel_trans HBr.out hb2); clear hb2)
        exact ⟨⟨k + 1, by go_num, hlt2, HV, HB2⟩, by simp [intOf]; omega⟩
      · have HV := Lib.hid (show (k : Int) = Z from HST.out)
        go_wp2_with (go_at_call 46; (with_reducible refine (HX.out _ HBr.out).mono ?_); rintro e w2 ⟨rfl, hb2⟩; have HB2 := Lib.hid (bel_trans HBr.out hb2); clear hb2)
        go_ret
        exact ⟨congrArg (fun z => Ending.returned (.int .i64 z)) HV.out, HB2.out⟩
    · have HV := Lib.hid (show (-1 : Int) = Z by have := HRr.out; rwa [List.drop_of_length_le (by omega)] at this)
      go_wp2
      go_ret
      exact ⟨congrArg (fun z => Ending.returned (.int .i64 z)) HV.out, HBr.out⟩
structure WkR (w : World) (x : Work) (uv gv bv cv tv ov : Value) : Prop where
  u : Kd.sout.S 99 w uv x.outs
  s : StR w x.slv gv bv cv tv ov
theorem WkR.ext {w w' : World} {x : Work} {uv gv bv cv tv ov : Value} (h : WkR w x uv gv bv cv tv ov) (hb : Below w.heap.size w w') : WkR w' x uv gv bv cv tv ov := ⟨Kd.S_ext hb h.u, h.s.ext hb⟩
def endPart (x : Work) : Bool := if x.slv.st = 1 ∨ x.slv.st = 6 then !endedO x.outs else lastIs x.outs x.slv.st x.slv.out
theorem workOk_eq (p : Prog) (node : Int) (x : Work) : workOk p node x = (tOk p node x.slv && decide (nodeOf p x.slv.top = node) && outsAll x.slv.top x.outs && inR x.want 1 12000 && decide (x.outs.length ≤ 12000) && endPart x) := by
  unfold workOk outsOk endPart
  cases tOk p node x.slv <;> cases decide (nodeOf p x.slv.top = node) <;> cases outsAll x.slv.top x.outs <;> cases decide (x.outs.length ≤ 12000) <;> cases inR x.want 1 12000 <;> rfl
theorem bx2_0 (w : World) (t1 t2 : Nat) (c1 c2 : Array Value) : Bx ((w.alloc (.cells c1 t1)).alloc (.cells c2 t2)) w.heap.size t1 c1 := Bx.alloc (Bx.new w t1 c1) _
theorem bx2_1 (w : World) (t1 t2 : Nat) (c1 c2 : Array Value) : Bx ((w.alloc (.cells c1 t1)).alloc (.cells c2 t2)) (w.heap.size + 1) t2 c2 := by
  have := Bx.new (w.alloc (.cells c1 t1)) t2 c2; rwa [size_alloc] at this
theorem workS_c (p : Prog) (node : Int) (x : Work) (p1 p2 uv gv bv cv tv ov : Value) (w : World) (hp : PrR w p p1 p2) (hx : WkR w x uv gv bv cv tv ov) (hfp : fitP p) (hf : fitW x) :
    Calls Tryz.prog 49 #[.agg #[p1, p2], .int .i64 node, .agg #[uv, .int .i64 x.want, .bool x.asked, .int .i64 x.slv.st, gv, bv, .int .i64 x.slv.vars, cv, tv, ov]] w fun e w' => e = .returned (.bool (workOk p node x)) ∧ Below w.heap.size w w' := by
  have HP := Lib.hid hp
  have HX := Lib.hid hx
  have hul := hf.1.1
  have HOut := Lib.hid hf.1.2
  have HFS := Lib.hid hf.2
  have HTr := Lib.hid (fun W hb => tOkS_eq p node x.slv ▸ trlOkS_c p x.slv node p1 p2 gv bv cv tv ov W (hp.ext (w := w) hb) (hx.s.ext hb) hfp hf.2)
  have HOs := Lib.hid (fun W hb => outsS_c x.slv.top x.outs tv uv W (hx.s.ext (w := w) hb).t (hx.ext hb).u (fit_len hf.2.2.2.2.1) hf.1)
  have HIn := Lib.hid (fun W => lIn_c x.want 1 12000 W)
  have HEn := Lib.hid (fun W hb => endedS_c x.outs uv W (hx.ext (w := w) hb).u hf.1.1)
  have HNd := Lib.hid (fun W (hb : Below w.heap.size w W) (hc : calls x.slv.top = true) => nodeS_c p x.slv.top p1 p2 tv W (hp.ext hb).p (hx.s.ext hb).t hc hfp.2.2.1)
  have HV := Lib.hid (workOk_eq p node x)
  obtain ⟨UA, un, rfl, u1, u2, hUC⟩ := hx.u
  obtain ⟨OA, on, rfl, o1, o2, -⟩ := hx.s.o
  have HUC := Lib.hid hUC
  have hwant : (decide (1 ≤ x.want) && decide (x.want ≤ 12000)) = inR x.want 1 12000 := rfl
  rw [hwant] at HIn
  clear hwant hUC
  obtain ⟨q1, e1⟩ : ∃ q, tOk p node x.slv = q := ⟨_, rfl⟩
  have HE1 := Lib.hid e1
  obtain ⟨q2, e2⟩ : ∃ q, nodeOf p x.slv.top = q := ⟨_, rfl⟩
  obtain ⟨q3, e3⟩ : ∃ q, outsAll x.slv.top x.outs = q := ⟨_, rfl⟩
  have HE3 := Lib.hid e3
  obtain ⟨q4, e4⟩ : ∃ q, inR x.want 1 12000 = q := ⟨_, rfl⟩
  rw [e1, e2, e3, e4] at HV
  rw [e1] at HTr
  rw [e3] at HOs
  rw [e4] at HIn
  rw [e2] at HNd
  clear e1 e2 e3 e4 hf hp hx
  have HB0 := Lib.hid (fun c1 c2 => bel_alloc (bel_alloc (Below.refl w.heap.size w) (.cells c1 37)) (.cells c2 107))
  have HP0 := Lib.hid (fun c1 c2 => bx2_0 w 37 107 c1 c2)
  have HQ0 := Lib.hid (fun c1 c2 => bx2_1 w 37 107 c1 c2)
  cases q1
  · have HN := Lib.hid (show workOk p node x = false by rw [HV.out]; simp)
    go_enter Tryz.func49, Tryz.ntmps49
    go_wp2_with (first | (go_at_call 88; (with_reducible refine (HTr.out _ (HB0.out _ _)).mono ?_); rintro e w1 ⟨rfl, hb⟩; have HB1 := Lib.hid (bel_trans (HB0.out _ _) hb); have HP1 := Lib.hid (Bx.below (HP0.out _ _) hb); have HQ1 := Lib.hid (Bx.below (HQ0.out _ _) hb); have a1_0 := Bx.at' HP1.out 0 (p1) rfl; have a1_1 := Bx.at' HP1.out 1 (p2) rfl; have b1_0 := Bx.at' HQ1.out 0 (.slice UA x.outs.length un) rfl; have b1_1 := Bx.at' HQ1.out 1 (.int .i64 x.want) rfl; have b1_2 := Bx.at' HQ1.out 2 (.bool x.asked) rfl; have b1_3 := Bx.at' HQ1.out 3 (.int .i64 x.slv.st) rfl; have b1_4 := Bx.at' HQ1.out 4 (gv) rfl; have b1_5 := Bx.at' HQ1.out 5 (bv) rfl; have b1_6 := Bx.at' HQ1.out 6 (.int .i64 x.slv.vars) rfl; have b1_7 := Bx.at' HQ1.out 7 (cv) rfl; have b1_8 := Bx.at' HQ1.out 8 (tv) rfl; have b1_9 := Bx.at' HQ1.out 9 (.slice OA x.slv.out.length on) rfl; clear hb) | (go_at_call 89; (with_reducible refine (HNd.out _ HB1.out HCl.out).mono ?_); rintro e w2 ⟨rfl, hb⟩; have HB2 := Lib.hid (bel_trans HB1.out hb); have HP2 := Lib.hid (Bx.below HP1.out hb); have HQ2 := Lib.hid (Bx.below HQ1.out hb); have a2_0 := Bx.at' HP2.out 0 (p1) rfl; have a2_1 := Bx.at' HP2.out 1 (p2) rfl; have b2_0 := Bx.at' HQ2.out 0 (.slice UA x.outs.length un) rfl; have b2_1 := Bx.at' HQ2.out 1 (.int .i64 x.want) rfl; have b2_2 := Bx.at' HQ2.out 2 (.bool x.asked) rfl; have b2_3 := Bx.at' HQ2.out 3 (.int .i64 x.slv.st) rfl; have b2_4 := Bx.at' HQ2.out 4 (gv) rfl; have b2_5 := Bx.at' HQ2.out 5 (bv) rfl; have b2_6 := Bx.at' HQ2.out 6 (.int .i64 x.slv.vars) rfl; have b2_7 := Bx.at' HQ2.out 7 (cv) rfl; have b2_8 := Bx.at' HQ2.out 8 (tv) rfl; have b2_9 := Bx.at' HQ2.out 9 (.slice OA x.slv.out.length on) rfl; clear hb) | (go_at_call 16; (with_reducible refine (HOs.out _ HB2.out).mono ?_); rintro e w3 ⟨rfl, hb⟩; have HB3 := Lib.hid (bel_trans HB2.out hb); have HP3 := Lib.hid (Bx.below HP2.out hb); have HQ3 := Lib.hid (Bx.below HQ2.out hb); have a3_0 := Bx.at' HP3.out 0 (p1) rfl; have a3_1 := Bx.at' HP3.out 1 (p2) rfl; have b3_0 := Bx.at' HQ3.out 0 (.slice UA x.outs.length un) rfl; have b3_1 := Bx.at' HQ3.out 1 (.int .i64 x.want) rfl; have b3_2 := Bx.at' HQ3.out 2 (.bool x.asked) rfl; have b3_3 := Bx.at' HQ3.out 3 (.int .i64 x.slv.st) rfl; have b3_4 := Bx.at' HQ3.out 4 (gv) rfl; have b3_5 := Bx.at' HQ3.out 5 (bv) rfl; have b3_6 := Bx.at' HQ3.out 6 (.int .i64 x.slv.vars) rfl; have b3_7 := Bx.at' HQ3.out 7 (cv) rfl; have b3_8 := Bx.at' HQ3.out 8 (tv) rfl; have b3_9 := Bx.at' HQ3.out 9 (.slice OA x.slv.out.length on) rfl; clear hb) | (go_at_call 18; (with_reducible refine (HIn.out _).mono ?_); rintro e w4 ⟨rfl, rfl⟩))
    go_ret
    exact ⟨ret_bool HN.out.symm, HB1.out⟩
  · have HCl := Lib.hid (isQ_ok (tOk_tok HE1.out).2.2.1).2.2
    by_cases hnd : q2 = node
    rotate_left
    · have f2 : (q2 != node) = true := by simp [hnd]
      have HV := Lib.hid (show workOk p node x = false by rw [HV.out, decide_eq_false hnd]; simp)
      clear hnd
      go_enter Tryz.func49, Tryz.ntmps49
      go_wp2_with (first | (go_at_call 88; (with_reducible refine (HTr.out _ (HB0.out _ _)).mono ?_); rintro e w1 ⟨rfl, hb⟩; have HB1 := Lib.hid (bel_trans (HB0.out _ _) hb); have HP1 := Lib.hid (Bx.below (HP0.out _ _) hb); have HQ1 := Lib.hid (Bx.below (HQ0.out _ _) hb); have a1_0 := Bx.at' HP1.out 0 (p1) rfl; have a1_1 := Bx.at' HP1.out 1 (p2) rfl; have b1_0 := Bx.at' HQ1.out 0 (.slice UA x.outs.length un) rfl; have b1_1 := Bx.at' HQ1.out 1 (.int .i64 x.want) rfl; have b1_2 := Bx.at' HQ1.out 2 (.bool x.asked) rfl; have b1_3 := Bx.at' HQ1.out 3 (.int .i64 x.slv.st) rfl; have b1_4 := Bx.at' HQ1.out 4 (gv) rfl; have b1_5 := Bx.at' HQ1.out 5 (bv) rfl; have b1_6 := Bx.at' HQ1.out 6 (.int .i64 x.slv.vars) rfl; have b1_7 := Bx.at' HQ1.out 7 (cv) rfl; have b1_8 := Bx.at' HQ1.out 8 (tv) rfl; have b1_9 := Bx.at' HQ1.out 9 (.slice OA x.slv.out.length on) rfl; clear hb) | (go_at_call 89; (with_reducible refine (HNd.out _ HB1.out HCl.out).mono ?_); rintro e w2 ⟨rfl, hb⟩; have HB2 := Lib.hid (bel_trans HB1.out hb); have HP2 := Lib.hid (Bx.below HP1.out hb); have HQ2 := Lib.hid (Bx.below HQ1.out hb); have a2_0 := Bx.at' HP2.out 0 (p1) rfl; have a2_1 := Bx.at' HP2.out 1 (p2) rfl; have b2_0 := Bx.at' HQ2.out 0 (.slice UA x.outs.length un) rfl; have b2_1 := Bx.at' HQ2.out 1 (.int .i64 x.want) rfl; have b2_2 := Bx.at' HQ2.out 2 (.bool x.asked) rfl; have b2_3 := Bx.at' HQ2.out 3 (.int .i64 x.slv.st) rfl; have b2_4 := Bx.at' HQ2.out 4 (gv) rfl; have b2_5 := Bx.at' HQ2.out 5 (bv) rfl; have b2_6 := Bx.at' HQ2.out 6 (.int .i64 x.slv.vars) rfl; have b2_7 := Bx.at' HQ2.out 7 (cv) rfl; have b2_8 := Bx.at' HQ2.out 8 (tv) rfl; have b2_9 := Bx.at' HQ2.out 9 (.slice OA x.slv.out.length on) rfl; clear hb) | (go_at_call 16; (with_reducible refine (HOs.out _ HB2.out).mono ?_); rintro e w3 ⟨rfl, hb⟩; have HB3 := Lib.hid (bel_trans HB2.out hb); have HP3 := Lib.hid (Bx.below HP2.out hb); have HQ3 := Lib.hid (Bx.below HQ2.out hb); have a3_0 := Bx.at' HP3.out 0 (p1) rfl; have a3_1 := Bx.at' HP3.out 1 (p2) rfl; have b3_0 := Bx.at' HQ3.out 0 (.slice UA x.outs.length un) rfl; have b3_1 := Bx.at' HQ3.out 1 (.int .i64 x.want) rfl; have b3_2 := Bx.at' HQ3.out 2 (.bool x.asked) rfl; have b3_3 := Bx.at' HQ3.out 3 (.int .i64 x.slv.st) rfl; have b3_4 := Bx.at' HQ3.out 4 (gv) rfl; have b3_5 := Bx.at' HQ3.out 5 (bv) rfl; have b3_6 := Bx.at' HQ3.out 6 (.int .i64 x.slv.vars) rfl; have b3_7 := Bx.at' HQ3.out 7 (cv) rfl; have b3_8 := Bx.at' HQ3.out 8 (tv) rfl; have b3_9 := Bx.at' HQ3.out 9 (.slice OA x.slv.out.length on) rfl; clear hb) | (go_at_call 18; (with_reducible refine (HIn.out _).mono ?_); rintro e w4 ⟨rfl, rfl⟩))
      go_ret
      exact ⟨ret_bool HV.out.symm, HB2.out⟩
    have f2 : (q2 != node) = false := by simp [hnd]
    have HV := Lib.hid (show workOk p node x = (q3 && q4 && decide (x.outs.length ≤ 12000) && endPart x) by rw [HV.out, decide_eq_true hnd]; simp)
    clear hnd
    cases q3
    · have HN := Lib.hid (show workOk p node x = false by rw [HV.out]; simp)
      go_enter Tryz.func49, Tryz.ntmps49
      go_wp2_with (first | (go_at_call 88; (with_reducible refine (HTr.out _ (HB0.out _ _)).mono ?_); rintro e w1 ⟨rfl, hb⟩; have HB1 := Lib.hid (bel_trans (HB0.out _ _) hb); have HP1 := Lib.hid (Bx.below (HP0.out _ _) hb); have HQ1 := Lib.hid (Bx.below (HQ0.out _ _) hb); have a1_0 := Bx.at' HP1.out 0 (p1) rfl; have a1_1 := Bx.at' HP1.out 1 (p2) rfl; have b1_0 := Bx.at' HQ1.out 0 (.slice UA x.outs.length un) rfl; have b1_1 := Bx.at' HQ1.out 1 (.int .i64 x.want) rfl; have b1_2 := Bx.at' HQ1.out 2 (.bool x.asked) rfl; have b1_3 := Bx.at' HQ1.out 3 (.int .i64 x.slv.st) rfl; have b1_4 := Bx.at' HQ1.out 4 (gv) rfl; have b1_5 := Bx.at' HQ1.out 5 (bv) rfl; have b1_6 := Bx.at' HQ1.out 6 (.int .i64 x.slv.vars) rfl; have b1_7 := Bx.at' HQ1.out 7 (cv) rfl; have b1_8 := Bx.at' HQ1.out 8 (tv) rfl; have b1_9 := Bx.at' HQ1.out 9 (.slice OA x.slv.out.length on) rfl; clear hb) | (go_at_call 89; (with_reducible refine (HNd.out _ HB1.out HCl.out).mono ?_); rintro e w2 ⟨rfl, hb⟩; have HB2 := Lib.hid (bel_trans HB1.out hb); have HP2 := Lib.hid (Bx.below HP1.out hb); have HQ2 := Lib.hid (Bx.below HQ1.out hb); have a2_0 := Bx.at' HP2.out 0 (p1) rfl; have a2_1 := Bx.at' HP2.out 1 (p2) rfl; have b2_0 := Bx.at' HQ2.out 0 (.slice UA x.outs.length un) rfl; have b2_1 := Bx.at' HQ2.out 1 (.int .i64 x.want) rfl; have b2_2 := Bx.at' HQ2.out 2 (.bool x.asked) rfl; have b2_3 := Bx.at' HQ2.out 3 (.int .i64 x.slv.st) rfl; have b2_4 := Bx.at' HQ2.out 4 (gv) rfl; have b2_5 := Bx.at' HQ2.out 5 (bv) rfl; have b2_6 := Bx.at' HQ2.out 6 (.int .i64 x.slv.vars) rfl; have b2_7 := Bx.at' HQ2.out 7 (cv) rfl; have b2_8 := Bx.at' HQ2.out 8 (tv) rfl; have b2_9 := Bx.at' HQ2.out 9 (.slice OA x.slv.out.length on) rfl; clear hb) | (go_at_call 16; (with_reducible refine (HOs.out _ HB2.out).mono ?_); rintro e w3 ⟨rfl, hb⟩; have HB3 := Lib.hid (bel_trans HB2.out hb); have HP3 := Lib.hid (Bx.below HP2.out hb); have HQ3 := Lib.hid (Bx.below HQ2.out hb); have a3_0 := Bx.at' HP3.out 0 (p1) rfl; have a3_1 := Bx.at' HP3.out 1 (p2) rfl; have b3_0 := Bx.at' HQ3.out 0 (.slice UA x.outs.length un) rfl; have b3_1 := Bx.at' HQ3.out 1 (.int .i64 x.want) rfl; have b3_2 := Bx.at' HQ3.out 2 (.bool x.asked) rfl; have b3_3 := Bx.at' HQ3.out 3 (.int .i64 x.slv.st) rfl; have b3_4 := Bx.at' HQ3.out 4 (gv) rfl; have b3_5 := Bx.at' HQ3.out 5 (bv) rfl; have b3_6 := Bx.at' HQ3.out 6 (.int .i64 x.slv.vars) rfl; have b3_7 := Bx.at' HQ3.out 7 (cv) rfl; have b3_8 := Bx.at' HQ3.out 8 (tv) rfl; have b3_9 := Bx.at' HQ3.out 9 (.slice OA x.slv.out.length on) rfl; clear hb) | (go_at_call 18; (with_reducible refine (HIn.out _).mono ?_); rintro e w4 ⟨rfl, rfl⟩))
      go_ret
      exact ⟨ret_bool HN.out.symm, HB3.out⟩
    ·
      cases q4
      · have HN := Lib.hid (show workOk p node x = false by rw [HV.out]; simp)
        go_enter Tryz.func49, Tryz.ntmps49
        go_wp2_with (first | (go_at_call 88; (with_reducible refine (HTr.out _ (HB0.out _ _)).mono ?_); rintro e w1 ⟨rfl, hb⟩; have HB1 := Lib.hid (bel_trans (HB0.out _ _) hb); have HP1 := Lib.hid (Bx.below (HP0.out _ _) hb); have HQ1 := Lib.hid (Bx.below (HQ0.out _ _) hb); have a1_0 := Bx.at' HP1.out 0 (p1) rfl; have a1_1 := Bx.at' HP1.out 1 (p2) rfl; have b1_0 := Bx.at' HQ1.out 0 (.slice UA x.outs.length un) rfl; have b1_1 := Bx.at' HQ1.out 1 (.int .i64 x.want) rfl; have b1_2 := Bx.at' HQ1.out 2 (.bool x.asked) rfl; have b1_3 := Bx.at' HQ1.out 3 (.int .i64 x.slv.st) rfl; have b1_4 := Bx.at' HQ1.out 4 (gv) rfl; have b1_5 := Bx.at' HQ1.out 5 (bv) rfl; have b1_6 := Bx.at' HQ1.out 6 (.int .i64 x.slv.vars) rfl; have b1_7 := Bx.at' HQ1.out 7 (cv) rfl; have b1_8 := Bx.at' HQ1.out 8 (tv) rfl; have b1_9 := Bx.at' HQ1.out 9 (.slice OA x.slv.out.length on) rfl; clear hb) | (go_at_call 89; (with_reducible refine (HNd.out _ HB1.out HCl.out).mono ?_); rintro e w2 ⟨rfl, hb⟩; have HB2 := Lib.hid (bel_trans HB1.out hb); have HP2 := Lib.hid (Bx.below HP1.out hb); have HQ2 := Lib.hid (Bx.below HQ1.out hb); have a2_0 := Bx.at' HP2.out 0 (p1) rfl; have a2_1 := Bx.at' HP2.out 1 (p2) rfl; have b2_0 := Bx.at' HQ2.out 0 (.slice UA x.outs.length un) rfl; have b2_1 := Bx.at' HQ2.out 1 (.int .i64 x.want) rfl; have b2_2 := Bx.at' HQ2.out 2 (.bool x.asked) rfl; have b2_3 := Bx.at' HQ2.out 3 (.int .i64 x.slv.st) rfl; have b2_4 := Bx.at' HQ2.out 4 (gv) rfl; have b2_5 := Bx.at' HQ2.out 5 (bv) rfl; have b2_6 := Bx.at' HQ2.out 6 (.int .i64 x.slv.vars) rfl; have b2_7 := Bx.at' HQ2.out 7 (cv) rfl; have b2_8 := Bx.at' HQ2.out 8 (tv) rfl; have b2_9 := Bx.at' HQ2.out 9 (.slice OA x.slv.out.length on) rfl; clear hb) | (go_at_call 16; (with_reducible refine (HOs.out _ HB2.out).mono ?_); rintro e w3 ⟨rfl, hb⟩; have HB3 := Lib.hid (bel_trans HB2.out hb); have HP3 := Lib.hid (Bx.below HP2.out hb); have HQ3 := Lib.hid (Bx.below HQ2.out hb); have a3_0 := Bx.at' HP3.out 0 (p1) rfl; have a3_1 := Bx.at' HP3.out 1 (p2) rfl; have b3_0 := Bx.at' HQ3.out 0 (.slice UA x.outs.length un) rfl; have b3_1 := Bx.at' HQ3.out 1 (.int .i64 x.want) rfl; have b3_2 := Bx.at' HQ3.out 2 (.bool x.asked) rfl; have b3_3 := Bx.at' HQ3.out 3 (.int .i64 x.slv.st) rfl; have b3_4 := Bx.at' HQ3.out 4 (gv) rfl; have b3_5 := Bx.at' HQ3.out 5 (bv) rfl; have b3_6 := Bx.at' HQ3.out 6 (.int .i64 x.slv.vars) rfl; have b3_7 := Bx.at' HQ3.out 7 (cv) rfl; have b3_8 := Bx.at' HQ3.out 8 (tv) rfl; have b3_9 := Bx.at' HQ3.out 9 (.slice OA x.slv.out.length on) rfl; clear hb) | (go_at_call 18; (with_reducible refine (HIn.out _).mono ?_); rintro e w4 ⟨rfl, rfl⟩))
        go_ret
        exact ⟨ret_bool HN.out.symm, HB3.out⟩
      ·
        by_cases hn : (12000 : Int) < (x.outs.length : Int)
        · have f5 : decide ((12000 : Int) < (x.outs.length : Int)) = true := decide_eq_true hn
          have HV := Lib.hid (show workOk p node x = false by rw [HV.out, decide_eq_false (by omega : ¬ x.outs.length ≤ 12000)]; simp)
          clear hn
          go_enter Tryz.func49, Tryz.ntmps49
          go_wp2_with (first | (go_at_call 88; (with_reducible refine (HTr.out _ (HB0.out _ _)).mono ?_); rintro e w1 ⟨rfl, hb⟩; have HB1 := Lib.hid (bel_trans (HB0.out _ _) hb); have HP1 := Lib.hid (Bx.below (HP0.out _ _) hb); have HQ1 := Lib.hid (Bx.below (HQ0.out _ _) hb); have a1_0 := Bx.at' HP1.out 0 (p1) rfl; have a1_1 := Bx.at' HP1.out 1 (p2) rfl; have b1_0 := Bx.at' HQ1.out 0 (.slice UA x.outs.length un) rfl; have b1_1 := Bx.at' HQ1.out 1 (.int .i64 x.want) rfl; have b1_2 := Bx.at' HQ1.out 2 (.bool x.asked) rfl; have b1_3 := Bx.at' HQ1.out 3 (.int .i64 x.slv.st) rfl; have b1_4 := Bx.at' HQ1.out 4 (gv) rfl; have b1_5 := Bx.at' HQ1.out 5 (bv) rfl; have b1_6 := Bx.at' HQ1.out 6 (.int .i64 x.slv.vars) rfl; have b1_7 := Bx.at' HQ1.out 7 (cv) rfl; have b1_8 := Bx.at' HQ1.out 8 (tv) rfl; have b1_9 := Bx.at' HQ1.out 9 (.slice OA x.slv.out.length on) rfl; clear hb) | (go_at_call 89; (with_reducible refine (HNd.out _ HB1.out HCl.out).mono ?_); rintro e w2 ⟨rfl, hb⟩; have HB2 := Lib.hid (bel_trans HB1.out hb); have HP2 := Lib.hid (Bx.below HP1.out hb); have HQ2 := Lib.hid (Bx.below HQ1.out hb); have a2_0 := Bx.at' HP2.out 0 (p1) rfl; have a2_1 := Bx.at' HP2.out 1 (p2) rfl; have b2_0 := Bx.at' HQ2.out 0 (.slice UA x.outs.length un) rfl; have b2_1 := Bx.at' HQ2.out 1 (.int .i64 x.want) rfl; have b2_2 := Bx.at' HQ2.out 2 (.bool x.asked) rfl; have b2_3 := Bx.at' HQ2.out 3 (.int .i64 x.slv.st) rfl; have b2_4 := Bx.at' HQ2.out 4 (gv) rfl; have b2_5 := Bx.at' HQ2.out 5 (bv) rfl; have b2_6 := Bx.at' HQ2.out 6 (.int .i64 x.slv.vars) rfl; have b2_7 := Bx.at' HQ2.out 7 (cv) rfl; have b2_8 := Bx.at' HQ2.out 8 (tv) rfl; have b2_9 := Bx.at' HQ2.out 9 (.slice OA x.slv.out.length on) rfl; clear hb) | (go_at_call 16; (with_reducible refine (HOs.out _ HB2.out).mono ?_); rintro e w3 ⟨rfl, hb⟩; have HB3 := Lib.hid (bel_trans HB2.out hb); have HP3 := Lib.hid (Bx.below HP2.out hb); have HQ3 := Lib.hid (Bx.below HQ2.out hb); have a3_0 := Bx.at' HP3.out 0 (p1) rfl; have a3_1 := Bx.at' HP3.out 1 (p2) rfl; have b3_0 := Bx.at' HQ3.out 0 (.slice UA x.outs.length un) rfl; have b3_1 := Bx.at' HQ3.out 1 (.int .i64 x.want) rfl; have b3_2 := Bx.at' HQ3.out 2 (.bool x.asked) rfl; have b3_3 := Bx.at' HQ3.out 3 (.int .i64 x.slv.st) rfl; have b3_4 := Bx.at' HQ3.out 4 (gv) rfl; have b3_5 := Bx.at' HQ3.out 5 (bv) rfl; have b3_6 := Bx.at' HQ3.out 6 (.int .i64 x.slv.vars) rfl; have b3_7 := Bx.at' HQ3.out 7 (cv) rfl; have b3_8 := Bx.at' HQ3.out 8 (tv) rfl; have b3_9 := Bx.at' HQ3.out 9 (.slice OA x.slv.out.length on) rfl; clear hb) | (go_at_call 18; (with_reducible refine (HIn.out _).mono ?_); rintro e w4 ⟨rfl, rfl⟩))
          go_ret
          exact ⟨ret_bool HV.out.symm, HB3.out⟩
        · have f5 : decide ((12000 : Int) < (x.outs.length : Int)) = false := decide_eq_false hn
          have HZ := Lib.hid (show workOk p node x = endPart x by rw [HV.out, decide_eq_true (by omega : x.outs.length ≤ 12000)]; simp)
          clear hn
          by_cases k16 : x.slv.st = 1 ∨ x.slv.st = 6
          · obtain ⟨qe, ee⟩ : ∃ q, endedO x.outs = q := ⟨_, rfl⟩
            have HN := Lib.hid (show workOk p node x = !qe by rw [HZ.out]; unfold endPart; rw [if_pos k16, ee])
            rw [ee] at HEn
            clear ee
            by_cases k1 : x.slv.st = 1
            · have f1 : (x.slv.st == 1) = true := beq_iff_eq.2 k1
              clear k1 k16
              go_enter Tryz.func49, Tryz.ntmps49
              go_wp2_with (first | (go_at_call 88; (with_reducible refine (HTr.out _ (HB0.out _ _)).mono ?_); rintro e w1 ⟨rfl, hb⟩; have HB1 := Lib.hid (bel_trans (HB0.out _ _) hb); have HP1 := Lib.hid (Bx.below (HP0.out _ _) hb); have HQ1 := Lib.hid (Bx.below (HQ0.out _ _) hb); have a1_0 := Bx.at' HP1.out 0 (p1) rfl; have a1_1 := Bx.at' HP1.out 1 (p2) rfl; have b1_0 := Bx.at' HQ1.out 0 (.slice UA x.outs.length un) rfl; have b1_1 := Bx.at' HQ1.out 1 (.int .i64 x.want) rfl; have b1_2 := Bx.at' HQ1.out 2 (.bool x.asked) rfl; have b1_3 := Bx.at' HQ1.out 3 (.int .i64 x.slv.st) rfl; have b1_4 := Bx.at' HQ1.out 4 (gv) rfl; have b1_5 := Bx.at' HQ1.out 5 (bv) rfl; have b1_6 := Bx.at' HQ1.out 6 (.int .i64 x.slv.vars) rfl; have b1_7 := Bx.at' HQ1.out 7 (cv) rfl; have b1_8 := Bx.at' HQ1.out 8 (tv) rfl; have b1_9 := Bx.at' HQ1.out 9 (.slice OA x.slv.out.length on) rfl; clear hb) | (go_at_call 89; (with_reducible refine (HNd.out _ HB1.out HCl.out).mono ?_); rintro e w2 ⟨rfl, hb⟩; have HB2 := Lib.hid (bel_trans HB1.out hb); have HP2 := Lib.hid (Bx.below HP1.out hb); have HQ2 := Lib.hid (Bx.below HQ1.out hb); have a2_0 := Bx.at' HP2.out 0 (p1) rfl; have a2_1 := Bx.at' HP2.out 1 (p2) rfl; have b2_0 := Bx.at' HQ2.out 0 (.slice UA x.outs.length un) rfl; have b2_1 := Bx.at' HQ2.out 1 (.int .i64 x.want) rfl; have b2_2 := Bx.at' HQ2.out 2 (.bool x.asked) rfl; have b2_3 := Bx.at' HQ2.out 3 (.int .i64 x.slv.st) rfl; have b2_4 := Bx.at' HQ2.out 4 (gv) rfl; have b2_5 := Bx.at' HQ2.out 5 (bv) rfl; have b2_6 := Bx.at' HQ2.out 6 (.int .i64 x.slv.vars) rfl; have b2_7 := Bx.at' HQ2.out 7 (cv) rfl; have b2_8 := Bx.at' HQ2.out 8 (tv) rfl; have b2_9 := Bx.at' HQ2.out 9 (.slice OA x.slv.out.length on) rfl; clear hb) | (go_at_call 16; (with_reducible refine (HOs.out _ HB2.out).mono ?_); rintro e w3 ⟨rfl, hb⟩; have HB3 := Lib.hid (bel_trans HB2.out hb); have HP3 := Lib.hid (Bx.below HP2.out hb); have HQ3 := Lib.hid (Bx.below HQ2.out hb); have a3_0 := Bx.at' HP3.out 0 (p1) rfl; have a3_1 := Bx.at' HP3.out 1 (p2) rfl; have b3_0 := Bx.at' HQ3.out 0 (.slice UA x.outs.length un) rfl; have b3_1 := Bx.at' HQ3.out 1 (.int .i64 x.want) rfl; have b3_2 := Bx.at' HQ3.out 2 (.bool x.asked) rfl; have b3_3 := Bx.at' HQ3.out 3 (.int .i64 x.slv.st) rfl; have b3_4 := Bx.at' HQ3.out 4 (gv) rfl; have b3_5 := Bx.at' HQ3.out 5 (bv) rfl; have b3_6 := Bx.at' HQ3.out 6 (.int .i64 x.slv.vars) rfl; have b3_7 := Bx.at' HQ3.out 7 (cv) rfl; have b3_8 := Bx.at' HQ3.out 8 (tv) rfl; have b3_9 := Bx.at' HQ3.out 9 (.slice OA x.slv.out.length on) rfl; clear hb) | (go_at_call 18; (with_reducible refine (HIn.out _).mono ?_); rintro e w4 ⟨rfl, rfl⟩) | (go_at_call 90; (with_reducible refine (HEn.out _ HB3.out).mono ?_); rintro e w5 ⟨rfl, rfl⟩))
              go_ret
              exact ⟨ret_bool HN.out.symm, HB3.out⟩
            · have f1 : (x.slv.st == 1) = false := beq_eq_false_iff_ne.2 k1
              have f6 : (x.slv.st == 6) = true := beq_iff_eq.2 (k16.resolve_left k1)
              clear k1 k16
              go_enter Tryz.func49, Tryz.ntmps49
              go_wp2_with (first | (go_at_call 88; (with_reducible refine (HTr.out _ (HB0.out _ _)).mono ?_); rintro e w1 ⟨rfl, hb⟩; have HB1 := Lib.hid (bel_trans (HB0.out _ _) hb); have HP1 := Lib.hid (Bx.below (HP0.out _ _) hb); have HQ1 := Lib.hid (Bx.below (HQ0.out _ _) hb); have a1_0 := Bx.at' HP1.out 0 (p1) rfl; have a1_1 := Bx.at' HP1.out 1 (p2) rfl; have b1_0 := Bx.at' HQ1.out 0 (.slice UA x.outs.length un) rfl; have b1_1 := Bx.at' HQ1.out 1 (.int .i64 x.want) rfl; have b1_2 := Bx.at' HQ1.out 2 (.bool x.asked) rfl; have b1_3 := Bx.at' HQ1.out 3 (.int .i64 x.slv.st) rfl; have b1_4 := Bx.at' HQ1.out 4 (gv) rfl; have b1_5 := Bx.at' HQ1.out 5 (bv) rfl; have b1_6 := Bx.at' HQ1.out 6 (.int .i64 x.slv.vars) rfl; have b1_7 := Bx.at' HQ1.out 7 (cv) rfl; have b1_8 := Bx.at' HQ1.out 8 (tv) rfl; have b1_9 := Bx.at' HQ1.out 9 (.slice OA x.slv.out.length on) rfl; clear hb) | (go_at_call 89; (with_reducible refine (HNd.out _ HB1.out HCl.out).mono ?_); rintro e w2 ⟨rfl, hb⟩; have HB2 := Lib.hid (bel_trans HB1.out hb); have HP2 := Lib.hid (Bx.below HP1.out hb); have HQ2 := Lib.hid (Bx.below HQ1.out hb); have a2_0 := Bx.at' HP2.out 0 (p1) rfl; have a2_1 := Bx.at' HP2.out 1 (p2) rfl; have b2_0 := Bx.at' HQ2.out 0 (.slice UA x.outs.length un) rfl; have b2_1 := Bx.at' HQ2.out 1 (.int .i64 x.want) rfl; have b2_2 := Bx.at' HQ2.out 2 (.bool x.asked) rfl; have b2_3 := Bx.at' HQ2.out 3 (.int .i64 x.slv.st) rfl; have b2_4 := Bx.at' HQ2.out 4 (gv) rfl; have b2_5 := Bx.at' HQ2.out 5 (bv) rfl; have b2_6 := Bx.at' HQ2.out 6 (.int .i64 x.slv.vars) rfl; have b2_7 := Bx.at' HQ2.out 7 (cv) rfl; have b2_8 := Bx.at' HQ2.out 8 (tv) rfl; have b2_9 := Bx.at' HQ2.out 9 (.slice OA x.slv.out.length on) rfl; clear hb) | (go_at_call 16; (with_reducible refine (HOs.out _ HB2.out).mono ?_); rintro e w3 ⟨rfl, hb⟩; have HB3 := Lib.hid (bel_trans HB2.out hb); have HP3 := Lib.hid (Bx.below HP2.out hb); have HQ3 := Lib.hid (Bx.below HQ2.out hb); have a3_0 := Bx.at' HP3.out 0 (p1) rfl; have a3_1 := Bx.at' HP3.out 1 (p2) rfl; have b3_0 := Bx.at' HQ3.out 0 (.slice UA x.outs.length un) rfl; have b3_1 := Bx.at' HQ3.out 1 (.int .i64 x.want) rfl; have b3_2 := Bx.at' HQ3.out 2 (.bool x.asked) rfl; have b3_3 := Bx.at' HQ3.out 3 (.int .i64 x.slv.st) rfl; have b3_4 := Bx.at' HQ3.out 4 (gv) rfl; have b3_5 := Bx.at' HQ3.out 5 (bv) rfl; have b3_6 := Bx.at' HQ3.out 6 (.int .i64 x.slv.vars) rfl; have b3_7 := Bx.at' HQ3.out 7 (cv) rfl; have b3_8 := Bx.at' HQ3.out 8 (tv) rfl; have b3_9 := Bx.at' HQ3.out 9 (.slice OA x.slv.out.length on) rfl; clear hb) | (go_at_call 18; (with_reducible refine (HIn.out _).mono ?_); rintro e w4 ⟨rfl, rfl⟩) | (go_at_call 90; (with_reducible refine (HEn.out _ HB3.out).mono ?_); rintro e w5 ⟨rfl, rfl⟩))
              go_ret
              exact ⟨ret_bool HN.out.symm, HB3.out⟩
          · have f1 : (x.slv.st == 1) = false := beq_eq_false_iff_ne.2 (fun h => k16 (.inl h))
            have f6 : (x.slv.st == 6) = false := beq_eq_false_iff_ne.2 (fun h => k16 (.inr h))
            have HZ := Lib.hid (show workOk p node x = (if x.slv.st = 2 then lastIs x.outs 2 x.slv.out else (match x.outs.getLast? with | none => false | some o => !decide (o.1 = 2) && decide (o.1 = x.slv.st))) by rw [HZ.out]; unfold endPart; rw [if_neg k16, work_ref HE1.out HE3.out k16]; rfl)
            clear k16
            by_cases k2 : x.slv.st = 2
            · have f2' : (x.slv.st == 2) = true := beq_iff_eq.2 k2
              have HZ := Lib.hid (show workOk p node x = lastIs x.outs 2 x.slv.out by rw [HZ.out, if_pos k2])
              clear k2
              by_cases hm : x.outs.length = 0
              ·
                have HN := Lib.hid (show workOk p node x = false by rw [HZ.out, show x.outs = [] from List.eq_nil_of_length_eq_zero hm]; rfl)
                have e0 : decide ((0 : Int) < (x.outs.length : Int)) = false := decide_eq_false (by omega)
                have e0n : decide (0 < x.outs.length) = false := decide_eq_false (by omega)
                clear hm
                go_enter Tryz.func49, Tryz.ntmps49
                go_upto_region 8 with (first | (go_at_call 88; (with_reducible refine (HTr.out _ (HB0.out _ _)).mono ?_); rintro e w1 ⟨rfl, hb⟩; have HB1 := Lib.hid (bel_trans (HB0.out _ _) hb); have HP1 := Lib.hid (Bx.below (HP0.out _ _) hb); have HQ1 := Lib.hid (Bx.below (HQ0.out _ _) hb); have a1_0 := Bx.at' HP1.out 0 (p1) rfl; have a1_1 := Bx.at' HP1.out 1 (p2) rfl; have b1_0 := Bx.at' HQ1.out 0 (.slice UA x.outs.length un) rfl; have b1_1 := Bx.at' HQ1.out 1 (.int .i64 x.want) rfl; have b1_2 := Bx.at' HQ1.out 2 (.bool x.asked) rfl; have b1_3 := Bx.at' HQ1.out 3 (.int .i64 x.slv.st) rfl; have b1_4 := Bx.at' HQ1.out 4 (gv) rfl; have b1_5 := Bx.at' HQ1.out 5 (bv) rfl; have b1_6 := Bx.at' HQ1.out 6 (.int .i64 x.slv.vars) rfl; have b1_7 := Bx.at' HQ1.out 7 (cv) rfl; have b1_8 := Bx.at' HQ1.out 8 (tv) rfl; have b1_9 := Bx.at' HQ1.out 9 (.slice OA x.slv.out.length on) rfl; clear hb) | (go_at_call 89; (with_reducible refine (HNd.out _ HB1.out HCl.out).mono ?_); rintro e w2 ⟨rfl, hb⟩; have HB2 := Lib.hid (bel_trans HB1.out hb); have HP2 := Lib.hid (Bx.below HP1.out hb); have HQ2 := Lib.hid (Bx.below HQ1.out hb); have a2_0 := Bx.at' HP2.out 0 (p1) rfl; have a2_1 := Bx.at' HP2.out 1 (p2) rfl; have b2_0 := Bx.at' HQ2.out 0 (.slice UA x.outs.length un) rfl; have b2_1 := Bx.at' HQ2.out 1 (.int .i64 x.want) rfl; have b2_2 := Bx.at' HQ2.out 2 (.bool x.asked) rfl; have b2_3 := Bx.at' HQ2.out 3 (.int .i64 x.slv.st) rfl; have b2_4 := Bx.at' HQ2.out 4 (gv) rfl; have b2_5 := Bx.at' HQ2.out 5 (bv) rfl; have b2_6 := Bx.at' HQ2.out 6 (.int .i64 x.slv.vars) rfl; have b2_7 := Bx.at' HQ2.out 7 (cv) rfl; have b2_8 := Bx.at' HQ2.out 8 (tv) rfl; have b2_9 := Bx.at' HQ2.out 9 (.slice OA x.slv.out.length on) rfl; clear hb) | (go_at_call 16; (with_reducible refine (HOs.out _ HB2.out).mono ?_); rintro e w3 ⟨rfl, hb⟩; have HB3 := Lib.hid (bel_trans HB2.out hb); have HP3 := Lib.hid (Bx.below HP2.out hb); have HQ3 := Lib.hid (Bx.below HQ2.out hb); have a3_0 := Bx.at' HP3.out 0 (p1) rfl; have a3_1 := Bx.at' HP3.out 1 (p2) rfl; have b3_0 := Bx.at' HQ3.out 0 (.slice UA x.outs.length un) rfl; have b3_1 := Bx.at' HQ3.out 1 (.int .i64 x.want) rfl; have b3_2 := Bx.at' HQ3.out 2 (.bool x.asked) rfl; have b3_3 := Bx.at' HQ3.out 3 (.int .i64 x.slv.st) rfl; have b3_4 := Bx.at' HQ3.out 4 (gv) rfl; have b3_5 := Bx.at' HQ3.out 5 (bv) rfl; have b3_6 := Bx.at' HQ3.out 6 (.int .i64 x.slv.vars) rfl; have b3_7 := Bx.at' HQ3.out 7 (cv) rfl; have b3_8 := Bx.at' HQ3.out 8 (tv) rfl; have b3_9 := Bx.at' HQ3.out 9 (.slice OA x.slv.out.length on) rfl; clear hb) | (go_at_call 18; (with_reducible refine (HIn.out _).mono ?_); rintro e w4 ⟨rfl, rfl⟩))
                go_quiet (fail)
                go_wp2
                go_ret
                exact ⟨ret_bool HN.out.symm, bel_drewN HB3.out _⟩
              ·
                obtain ⟨m, hm⟩ : ∃ m, x.outs.length = m + 1 := ⟨x.outs.length - 1, by omega⟩
                obtain ⟨o, ho⟩ : ∃ o, x.outs[m]? = some o := ⟨_, List.getElem?_eq_getElem (by omega)⟩
                have HLast := Lib.hid (show x.outs.getLast? = some o by rw [List.getLast?_eq_getElem?, show x.outs.length - 1 = m by omega]; exact ho)
                have hsub : (x.outs.length : Int) - 1 = (m : Int) := by omega
                have hlt : m < x.outs.length := by omega
                have hwr : IntKind.i64.wrap ((x.outs.length : Int) - 1) = (m : Int) := by rw [hsub]; exact IntWalk.i64_in _ (by omega)
                have e0 : decide ((0 : Int) < (x.outs.length : Int)) = true := decide_eq_true (by omega)
                have e0n : decide (0 < x.outs.length) = true := decide_eq_true (by omega)
                obtain ⟨ad, v1, rfl, z0, z1, hz⟩ := dbind_at HUC.out ho
                have HO1 := Lib.hid hz
                have HOl := Lib.hid (fit_len (HOut.out o (List.mem_of_getElem? ho)))
                obtain ⟨VA, vc, rfl, -, -, -⟩ := hz
                clear hm ho hsub
                by_cases ko : o.1 = 2
                · have fo : (o.1 == 2) = true := beq_iff_eq.2 ko
                  obtain ⟨zs, ezs⟩ : ∃ q, decide (o.2 = x.slv.out) = q := ⟨_, rfl⟩
                  have HN := Lib.hid (show workOk p node x = zs by rw [HZ.out]; unfold lastIs; rw [HLast.out]; simp [ko, ezs])
                  have HSm := Lib.hid (fun W (hb : Below w.heap.size w W) => sameS_c o.2 x.slv.out (.slice VA o.2.length vc) (.slice OA x.slv.out.length on) W (Kd.S_ext hb HO1.out) (HX.out.ext hb).s.o HOl.out (fit_len HFS.out.2.2.2.2))
                  rw [ezs] at HSm
                  clear ezs ko
                  cases zs
                  all_goals
                    go_enter Tryz.func49, Tryz.ntmps49
                    go_upto_region 8 with (first | (go_at_call 88; (with_reducible refine (HTr.out _ (HB0.out _ _)).mono ?_); rintro e w1 ⟨rfl, hb⟩; have HB1 := Lib.hid (bel_trans (HB0.out _ _) hb); have HP1 := Lib.hid (Bx.below (HP0.out _ _) hb); have HQ1 := Lib.hid (Bx.below (HQ0.out _ _) hb); have a1_0 := Bx.at' HP1.out 0 (p1) rfl; have a1_1 := Bx.at' HP1.out 1 (p2) rfl; have b1_0 := Bx.at' HQ1.out 0 (.slice (some ad) x.outs.length un) rfl; have b1_1 := Bx.at' HQ1.out 1 (.int .i64 x.want) rfl; have b1_2 := Bx.at' HQ1.out 2 (.bool x.asked) rfl; have b1_3 := Bx.at' HQ1.out 3 (.int .i64 x.slv.st) rfl; have b1_4 := Bx.at' HQ1.out 4 (gv) rfl; have b1_5 := Bx.at' HQ1.out 5 (bv) rfl; have b1_6 := Bx.at' HQ1.out 6 (.int .i64 x.slv.vars) rfl; have b1_7 := Bx.at' HQ1.out 7 (cv) rfl; have b1_8 := Bx.at' HQ1.out 8 (tv) rfl; have b1_9 := Bx.at' HQ1.out 9 (.slice OA x.slv.out.length on) rfl; clear hb) | (go_at_call 89; (with_reducible refine (HNd.out _ HB1.out HCl.out).mono ?_); rintro e w2 ⟨rfl, hb⟩; have HB2 := Lib.hid (bel_trans HB1.out hb); have HP2 := Lib.hid (Bx.below HP1.out hb); have HQ2 := Lib.hid (Bx.below HQ1.out hb); have a2_0 := Bx.at' HP2.out 0 (p1) rfl; have a2_1 := Bx.at' HP2.out 1 (p2) rfl; have b2_0 := Bx.at' HQ2.out 0 (.slice (some ad) x.outs.length un) rfl; have b2_1 := Bx.at' HQ2.out 1 (.int .i64 x.want) rfl; have b2_2 := Bx.at' HQ2.out 2 (.bool x.asked) rfl; have b2_3 := Bx.at' HQ2.out 3 (.int .i64 x.slv.st) rfl; have b2_4 := Bx.at' HQ2.out 4 (gv) rfl; have b2_5 := Bx.at' HQ2.out 5 (bv) rfl; have b2_6 := Bx.at' HQ2.out 6 (.int .i64 x.slv.vars) rfl; have b2_7 := Bx.at' HQ2.out 7 (cv) rfl; have b2_8 := Bx.at' HQ2.out 8 (tv) rfl; have b2_9 := Bx.at' HQ2.out 9 (.slice OA x.slv.out.length on) rfl; clear hb) | (go_at_call 16; (with_reducible refine (HOs.out _ HB2.out).mono ?_); rintro e w3 ⟨rfl, hb⟩; have HB3 := Lib.hid (bel_trans HB2.out hb); have HP3 := Lib.hid (Bx.below HP2.out hb); have HQ3 := Lib.hid (Bx.below HQ2.out hb); have a3_0 := Bx.at' HP3.out 0 (p1) rfl; have a3_1 := Bx.at' HP3.out 1 (p2) rfl; have b3_0 := Bx.at' HQ3.out 0 (.slice (some ad) x.outs.length un) rfl; have b3_1 := Bx.at' HQ3.out 1 (.int .i64 x.want) rfl; have b3_2 := Bx.at' HQ3.out 2 (.bool x.asked) rfl; have b3_3 := Bx.at' HQ3.out 3 (.int .i64 x.slv.st) rfl; have b3_4 := Bx.at' HQ3.out 4 (gv) rfl; have b3_5 := Bx.at' HQ3.out 5 (bv) rfl; have b3_6 := Bx.at' HQ3.out 6 (.int .i64 x.slv.vars) rfl; have b3_7 := Bx.at' HQ3.out 7 (cv) rfl; have b3_8 := Bx.at' HQ3.out 8 (tv) rfl; have b3_9 := Bx.at' HQ3.out 9 (.slice OA x.slv.out.length on) rfl; clear hb) | (go_at_call 18; (with_reducible refine (HIn.out _).mono ?_); rintro e w4 ⟨rfl, rfl⟩))
                    have l0 := cell_keep HB3.out z0
                    have l1 := cell_keep HB3.out z1
                    refine wp_region_below (by kernel_rfl) (by kernel_rfl) ?_; (repeat (first | go_big_quiet_skip | (go_big_quiet_want; first | fail | (refine quiet_cell rfl rfl (fun W v hv => (by go_simp)) (fun W hW => BelC.cell hW (by assumption)) ?_; go_big_quiet_on; simp only [Act.put, List.setIfInBounds_toArray, List.set_cons_zero, List.set_cons_succ]) | (go_big_quiet_op; first | go_big_quiet_on | ((with_reducible refine ⟨_, fun W' hW => (HSm.out W' (bel_trans HB3.out hW.bel)).mono (fun e w' hh => ⟨hh.1, hW.step hh.2⟩), ?_⟩); go_big_quiet_on) | (refine ⟨_, fun _ _ => rfl, ?_⟩; go_big_quiet_on))))); refine wpQuiet_nil ?_; intro w2 hw2
                    go_wp2
                    go_ret
                    exact ⟨ret_bool HN.out.symm, bel_trans HB3.out hw2.bel⟩
                · have fo : (o.1 == 2) = false := beq_eq_false_iff_ne.2 ko
                  have HN := Lib.hid (show workOk p node x = false by rw [HZ.out]; unfold lastIs; rw [HLast.out]; simp [ko])
                  clear ko
                  go_enter Tryz.func49, Tryz.ntmps49
                  go_upto_region 8 with (first | (go_at_call 88; (with_reducible refine (HTr.out _ (HB0.out _ _)).mono ?_); rintro e w1 ⟨rfl, hb⟩; have HB1 := Lib.hid (bel_trans (HB0.out _ _) hb); have HP1 := Lib.hid (Bx.below (HP0.out _ _) hb); have HQ1 := Lib.hid (Bx.below (HQ0.out _ _) hb); have a1_0 := Bx.at' HP1.out 0 (p1) rfl; have a1_1 := Bx.at' HP1.out 1 (p2) rfl; have b1_0 := Bx.at' HQ1.out 0 (.slice (some ad) x.outs.length un) rfl; have b1_1 := Bx.at' HQ1.out 1 (.int .i64 x.want) rfl; have b1_2 := Bx.at' HQ1.out 2 (.bool x.asked) rfl; have b1_3 := Bx.at' HQ1.out 3 (.int .i64 x.slv.st) rfl; have b1_4 := Bx.at' HQ1.out 4 (gv) rfl; have b1_5 := Bx.at' HQ1.out 5 (bv) rfl; have b1_6 := Bx.at' HQ1.out 6 (.int .i64 x.slv.vars) rfl; have b1_7 := Bx.at' HQ1.out 7 (cv) rfl; have b1_8 := Bx.at' HQ1.out 8 (tv) rfl; have b1_9 := Bx.at' HQ1.out 9 (.slice OA x.slv.out.length on) rfl; clear hb) | (go_at_call 89; (with_reducible refine (HNd.out _ HB1.out HCl.out).mono ?_); rintro e w2 ⟨rfl, hb⟩; have HB2 := Lib.hid (bel_trans HB1.out hb); have HP2 := Lib.hid (Bx.below HP1.out hb); have HQ2 := Lib.hid (Bx.below HQ1.out hb); have a2_0 := Bx.at' HP2.out 0 (p1) rfl; have a2_1 := Bx.at' HP2.out 1 (p2) rfl; have b2_0 := Bx.at' HQ2.out 0 (.slice (some ad) x.outs.length un) rfl; have b2_1 := Bx.at' HQ2.out 1 (.int .i64 x.want) rfl; have b2_2 := Bx.at' HQ2.out 2 (.bool x.asked) rfl; have b2_3 := Bx.at' HQ2.out 3 (.int .i64 x.slv.st) rfl; have b2_4 := Bx.at' HQ2.out 4 (gv) rfl; have b2_5 := Bx.at' HQ2.out 5 (bv) rfl; have b2_6 := Bx.at' HQ2.out 6 (.int .i64 x.slv.vars) rfl; have b2_7 := Bx.at' HQ2.out 7 (cv) rfl; have b2_8 := Bx.at' HQ2.out 8 (tv) rfl; have b2_9 := Bx.at' HQ2.out 9 (.slice OA x.slv.out.length on) rfl; clear hb) | (go_at_call 16; (with_reducible refine (HOs.out _ HB2.out).mono ?_); rintro e w3 ⟨rfl, hb⟩; have HB3 := Lib.hid (bel_trans HB2.out hb); have HP3 := Lib.hid (Bx.below HP2.out hb); have HQ3 := Lib.hid (Bx.below HQ2.out hb); have a3_0 := Bx.at' HP3.out 0 (p1) rfl; have a3_1 := Bx.at' HP3.out 1 (p2) rfl; have b3_0 := Bx.at' HQ3.out 0 (.slice (some ad) x.outs.length un) rfl; have b3_1 := Bx.at' HQ3.out 1 (.int .i64 x.want) rfl; have b3_2 := Bx.at' HQ3.out 2 (.bool x.asked) rfl; have b3_3 := Bx.at' HQ3.out 3 (.int .i64 x.slv.st) rfl; have b3_4 := Bx.at' HQ3.out 4 (gv) rfl; have b3_5 := Bx.at' HQ3.out 5 (bv) rfl; have b3_6 := Bx.at' HQ3.out 6 (.int .i64 x.slv.vars) rfl; have b3_7 := Bx.at' HQ3.out 7 (cv) rfl; have b3_8 := Bx.at' HQ3.out 8 (tv) rfl; have b3_9 := Bx.at' HQ3.out 9 (.slice OA x.slv.out.length on) rfl; clear hb) | (go_at_call 18; (with_reducible refine (HIn.out _).mono ?_); rintro e w4 ⟨rfl, rfl⟩))
                  have l0 := cell_keep HB3.out z0
                  have l1 := cell_keep HB3.out z1
                  go_quiet (fail)
                  go_wp2
                  go_ret
                  exact ⟨ret_bool HN.out.symm, bel_drewN HB3.out _⟩
            · have f2' : (x.slv.st == 2) = false := beq_eq_false_iff_ne.2 k2
              have HZ := Lib.hid (show workOk p node x = (match x.outs.getLast? with | none => false | some o => !decide (o.1 = 2) && decide (o.1 = x.slv.st)) by rw [HZ.out, if_neg k2])
              clear k2
              by_cases hm : x.outs.length = 0
              ·
                have HN := Lib.hid (show workOk p node x = false by rw [HZ.out, show x.outs = [] from List.eq_nil_of_length_eq_zero hm]; rfl)
                rw [show endedO x.outs = false by rw [show x.outs = [] from List.eq_nil_of_length_eq_zero hm]; rfl] at HEn
                clear hm
                go_enter Tryz.func49, Tryz.ntmps49
                go_upto_region 9 with (first | (go_at_call 88; (with_reducible refine (HTr.out _ (HB0.out _ _)).mono ?_); rintro e w1 ⟨rfl, hb⟩; have HB1 := Lib.hid (bel_trans (HB0.out _ _) hb); have HP1 := Lib.hid (Bx.below (HP0.out _ _) hb); have HQ1 := Lib.hid (Bx.below (HQ0.out _ _) hb); have a1_0 := Bx.at' HP1.out 0 (p1) rfl; have a1_1 := Bx.at' HP1.out 1 (p2) rfl; have b1_0 := Bx.at' HQ1.out 0 (.slice UA x.outs.length un) rfl; have b1_1 := Bx.at' HQ1.out 1 (.int .i64 x.want) rfl; have b1_2 := Bx.at' HQ1.out 2 (.bool x.asked) rfl; have b1_3 := Bx.at' HQ1.out 3 (.int .i64 x.slv.st) rfl; have b1_4 := Bx.at' HQ1.out 4 (gv) rfl; have b1_5 := Bx.at' HQ1.out 5 (bv) rfl; have b1_6 := Bx.at' HQ1.out 6 (.int .i64 x.slv.vars) rfl; have b1_7 := Bx.at' HQ1.out 7 (cv) rfl; have b1_8 := Bx.at' HQ1.out 8 (tv) rfl; have b1_9 := Bx.at' HQ1.out 9 (.slice OA x.slv.out.length on) rfl; clear hb) | (go_at_call 89; (with_reducible refine (HNd.out _ HB1.out HCl.out).mono ?_); rintro e w2 ⟨rfl, hb⟩; have HB2 := Lib.hid (bel_trans HB1.out hb); have HP2 := Lib.hid (Bx.below HP1.out hb); have HQ2 := Lib.hid (Bx.below HQ1.out hb); have a2_0 := Bx.at' HP2.out 0 (p1) rfl; have a2_1 := Bx.at' HP2.out 1 (p2) rfl; have b2_0 := Bx.at' HQ2.out 0 (.slice UA x.outs.length un) rfl; have b2_1 := Bx.at' HQ2.out 1 (.int .i64 x.want) rfl; have b2_2 := Bx.at' HQ2.out 2 (.bool x.asked) rfl; have b2_3 := Bx.at' HQ2.out 3 (.int .i64 x.slv.st) rfl; have b2_4 := Bx.at' HQ2.out 4 (gv) rfl; have b2_5 := Bx.at' HQ2.out 5 (bv) rfl; have b2_6 := Bx.at' HQ2.out 6 (.int .i64 x.slv.vars) rfl; have b2_7 := Bx.at' HQ2.out 7 (cv) rfl; have b2_8 := Bx.at' HQ2.out 8 (tv) rfl; have b2_9 := Bx.at' HQ2.out 9 (.slice OA x.slv.out.length on) rfl; clear hb) | (go_at_call 16; (with_reducible refine (HOs.out _ HB2.out).mono ?_); rintro e w3 ⟨rfl, hb⟩; have HB3 := Lib.hid (bel_trans HB2.out hb); have HP3 := Lib.hid (Bx.below HP2.out hb); have HQ3 := Lib.hid (Bx.below HQ2.out hb); have a3_0 := Bx.at' HP3.out 0 (p1) rfl; have a3_1 := Bx.at' HP3.out 1 (p2) rfl; have b3_0 := Bx.at' HQ3.out 0 (.slice UA x.outs.length un) rfl; have b3_1 := Bx.at' HQ3.out 1 (.int .i64 x.want) rfl; have b3_2 := Bx.at' HQ3.out 2 (.bool x.asked) rfl; have b3_3 := Bx.at' HQ3.out 3 (.int .i64 x.slv.st) rfl; have b3_4 := Bx.at' HQ3.out 4 (gv) rfl; have b3_5 := Bx.at' HQ3.out 5 (bv) rfl; have b3_6 := Bx.at' HQ3.out 6 (.int .i64 x.slv.vars) rfl; have b3_7 := Bx.at' HQ3.out 7 (cv) rfl; have b3_8 := Bx.at' HQ3.out 8 (tv) rfl; have b3_9 := Bx.at' HQ3.out 9 (.slice OA x.slv.out.length on) rfl; clear hb) | (go_at_call 18; (with_reducible refine (HIn.out _).mono ?_); rintro e w4 ⟨rfl, rfl⟩))
                refine wp_region_below (by kernel_rfl) (by kernel_rfl) ?_; (repeat (first | go_big_quiet_skip | (go_big_quiet_want; first | fail | (refine quiet_cell rfl rfl (fun W v hv => (by go_simp)) (fun W hW => BelC.cell hW (by assumption)) ?_; go_big_quiet_on; simp only [Act.put, List.setIfInBounds_toArray, List.set_cons_zero, List.set_cons_succ]) | (go_big_quiet_op; first | go_big_quiet_on | ((with_reducible refine ⟨_, fun W' hW => (HEn.out W' (bel_trans HB3.out hW.bel)).mono (fun e w' hh => ⟨hh.1, hh.2 ▸ hW⟩), ?_⟩); go_big_quiet_on) | (refine ⟨_, fun _ _ => rfl, ?_⟩; go_big_quiet_on))))); refine wpQuiet_nil ?_; intro w2 hw2
                go_wp2
                go_ret
                exact ⟨ret_bool HN.out.symm, bel_trans HB3.out hw2.bel⟩
              ·
                obtain ⟨m, hm⟩ : ∃ m, x.outs.length = m + 1 := ⟨x.outs.length - 1, by omega⟩
                obtain ⟨o, ho⟩ : ∃ o, x.outs[m]? = some o := ⟨_, List.getElem?_eq_getElem (by omega)⟩
                have HLast := Lib.hid (show x.outs.getLast? = some o by rw [List.getLast?_eq_getElem?, show x.outs.length - 1 = m by omega]; exact ho)
                have hsub : (x.outs.length : Int) - 1 = (m : Int) := by omega
                have hlt : m < x.outs.length := by omega
                have hwr : IntKind.i64.wrap ((x.outs.length : Int) - 1) = (m : Int) := by rw [hsub]; exact IntWalk.i64_in _ (by omega)
                have e0 : decide ((0 : Int) < (x.outs.length : Int)) = true := decide_eq_true (by omega)
                have e0n : decide (0 < x.outs.length) = true := decide_eq_true (by omega)
                obtain ⟨ad, v1, rfl, z0, z1, hz⟩ := dbind_at HUC.out ho
                have HO1 := Lib.hid hz
                have HOl := Lib.hid (fit_len (HOut.out o (List.mem_of_getElem? ho)))
                obtain ⟨VA, vc, rfl, -, -, -⟩ := hz
                clear hm ho hsub
                by_cases ko : o.1 = 2
                · have HN := Lib.hid (show workOk p node x = false by rw [HZ.out, HLast.out]; simp [ko])
                  rw [show endedO x.outs = false by unfold endedO; rw [HLast.out]; simp [ko]] at HEn
                  clear ko
                  go_enter Tryz.func49, Tryz.ntmps49
                  go_upto_region 9 with (first | (go_at_call 88; (with_reducible refine (HTr.out _ (HB0.out _ _)).mono ?_); rintro e w1 ⟨rfl, hb⟩; have HB1 := Lib.hid (bel_trans (HB0.out _ _) hb); have HP1 := Lib.hid (Bx.below (HP0.out _ _) hb); have HQ1 := Lib.hid (Bx.below (HQ0.out _ _) hb); have a1_0 := Bx.at' HP1.out 0 (p1) rfl; have a1_1 := Bx.at' HP1.out 1 (p2) rfl; have b1_0 := Bx.at' HQ1.out 0 (.slice (some ad) x.outs.length un) rfl; have b1_1 := Bx.at' HQ1.out 1 (.int .i64 x.want) rfl; have b1_2 := Bx.at' HQ1.out 2 (.bool x.asked) rfl; have b1_3 := Bx.at' HQ1.out 3 (.int .i64 x.slv.st) rfl; have b1_4 := Bx.at' HQ1.out 4 (gv) rfl; have b1_5 := Bx.at' HQ1.out 5 (bv) rfl; have b1_6 := Bx.at' HQ1.out 6 (.int .i64 x.slv.vars) rfl; have b1_7 := Bx.at' HQ1.out 7 (cv) rfl; have b1_8 := Bx.at' HQ1.out 8 (tv) rfl; have b1_9 := Bx.at' HQ1.out 9 (.slice OA x.slv.out.length on) rfl; clear hb) | (go_at_call 89; (with_reducible refine (HNd.out _ HB1.out HCl.out).mono ?_); rintro e w2 ⟨rfl, hb⟩; have HB2 := Lib.hid (bel_trans HB1.out hb); have HP2 := Lib.hid (Bx.below HP1.out hb); have HQ2 := Lib.hid (Bx.below HQ1.out hb); have a2_0 := Bx.at' HP2.out 0 (p1) rfl; have a2_1 := Bx.at' HP2.out 1 (p2) rfl; have b2_0 := Bx.at' HQ2.out 0 (.slice (some ad) x.outs.length un) rfl; have b2_1 := Bx.at' HQ2.out 1 (.int .i64 x.want) rfl; have b2_2 := Bx.at' HQ2.out 2 (.bool x.asked) rfl; have b2_3 := Bx.at' HQ2.out 3 (.int .i64 x.slv.st) rfl; have b2_4 := Bx.at' HQ2.out 4 (gv) rfl; have b2_5 := Bx.at' HQ2.out 5 (bv) rfl; have b2_6 := Bx.at' HQ2.out 6 (.int .i64 x.slv.vars) rfl; have b2_7 := Bx.at' HQ2.out 7 (cv) rfl; have b2_8 := Bx.at' HQ2.out 8 (tv) rfl; have b2_9 := Bx.at' HQ2.out 9 (.slice OA x.slv.out.length on) rfl; clear hb) | (go_at_call 16; (with_reducible refine (HOs.out _ HB2.out).mono ?_); rintro e w3 ⟨rfl, hb⟩; have HB3 := Lib.hid (bel_trans HB2.out hb); have HP3 := Lib.hid (Bx.below HP2.out hb); have HQ3 := Lib.hid (Bx.below HQ2.out hb); have a3_0 := Bx.at' HP3.out 0 (p1) rfl; have a3_1 := Bx.at' HP3.out 1 (p2) rfl; have b3_0 := Bx.at' HQ3.out 0 (.slice (some ad) x.outs.length un) rfl; have b3_1 := Bx.at' HQ3.out 1 (.int .i64 x.want) rfl; have b3_2 := Bx.at' HQ3.out 2 (.bool x.asked) rfl; have b3_3 := Bx.at' HQ3.out 3 (.int .i64 x.slv.st) rfl; have b3_4 := Bx.at' HQ3.out 4 (gv) rfl; have b3_5 := Bx.at' HQ3.out 5 (bv) rfl; have b3_6 := Bx.at' HQ3.out 6 (.int .i64 x.slv.vars) rfl; have b3_7 := Bx.at' HQ3.out 7 (cv) rfl; have b3_8 := Bx.at' HQ3.out 8 (tv) rfl; have b3_9 := Bx.at' HQ3.out 9 (.slice OA x.slv.out.length on) rfl; clear hb) | (go_at_call 18; (with_reducible refine (HIn.out _).mono ?_); rintro e w4 ⟨rfl, rfl⟩))
                  have l0 := cell_keep HB3.out z0
                  have l1 := cell_keep HB3.out z1
                  refine wp_region_below (by kernel_rfl) (by kernel_rfl) ?_; (repeat (first | go_big_quiet_skip | (go_big_quiet_want; first | fail | (refine quiet_cell rfl rfl (fun W v hv => (by go_simp)) (fun W hW => BelC.cell hW (by assumption)) ?_; go_big_quiet_on; simp only [Act.put, List.setIfInBounds_toArray, List.set_cons_zero, List.set_cons_succ]) | (go_big_quiet_op; first | go_big_quiet_on | ((with_reducible refine ⟨_, fun W' hW => (HEn.out W' (bel_trans HB3.out hW.bel)).mono (fun e w' hh => ⟨hh.1, hh.2 ▸ hW⟩), ?_⟩); go_big_quiet_on) | (refine ⟨_, fun _ _ => rfl, ?_⟩; go_big_quiet_on))))); refine wpQuiet_nil ?_; intro w2 hw2
                  go_wp2
                  go_ret
                  exact ⟨ret_bool HN.out.symm, bel_trans HB3.out hw2.bel⟩
                · obtain ⟨zs, ezs⟩ : ∃ q, (o.1 == x.slv.st) = q := ⟨_, rfl⟩
                  have HN := Lib.hid (show workOk p node x = zs by rw [HZ.out, HLast.out, ← ezs]; simp [ko, BEq.beq])
                  rw [show endedO x.outs = true by unfold endedO; rw [HLast.out]; simp [ko]] at HEn
                  clear ko
                  cases zs
                  all_goals
                    go_enter Tryz.func49, Tryz.ntmps49
                    go_upto_region 9 with (first | (go_at_call 88; (with_reducible refine (HTr.out _ (HB0.out _ _)).mono ?_); rintro e w1 ⟨rfl, hb⟩; have HB1 := Lib.hid (bel_trans (HB0.out _ _) hb); have HP1 := Lib.hid (Bx.below (HP0.out _ _) hb); have HQ1 := Lib.hid (Bx.below (HQ0.out _ _) hb); have a1_0 := Bx.at' HP1.out 0 (p1) rfl; have a1_1 := Bx.at' HP1.out 1 (p2) rfl; have b1_0 := Bx.at' HQ1.out 0 (.slice (some ad) x.outs.length un) rfl; have b1_1 := Bx.at' HQ1.out 1 (.int .i64 x.want) rfl; have b1_2 := Bx.at' HQ1.out 2 (.bool x.asked) rfl; have b1_3 := Bx.at' HQ1.out 3 (.int .i64 x.slv.st) rfl; have b1_4 := Bx.at' HQ1.out 4 (gv) rfl; have b1_5 := Bx.at' HQ1.out 5 (bv) rfl; have b1_6 := Bx.at' HQ1.out 6 (.int .i64 x.slv.vars) rfl; have b1_7 := Bx.at' HQ1.out 7 (cv) rfl; have b1_8 := Bx.at' HQ1.out 8 (tv) rfl; have b1_9 := Bx.at' HQ1.out 9 (.slice OA x.slv.out.length on) rfl; clear hb) | (go_at_call 89; (with_reducible refine (HNd.out _ HB1.out HCl.out).mono ?_); rintro e w2 ⟨rfl, hb⟩; have HB2 := Lib.hid (bel_trans HB1.out hb); have HP2 := Lib.hid (Bx.below HP1.out hb); have HQ2 := Lib.hid (Bx.below HQ1.out hb); have a2_0 := Bx.at' HP2.out 0 (p1) rfl; have a2_1 := Bx.at' HP2.out 1 (p2) rfl; have b2_0 := Bx.at' HQ2.out 0 (.slice (some ad) x.outs.length un) rfl; have b2_1 := Bx.at' HQ2.out 1 (.int .i64 x.want) rfl; have b2_2 := Bx.at' HQ2.out 2 (.bool x.asked) rfl; have b2_3 := Bx.at' HQ2.out 3 (.int .i64 x.slv.st) rfl; have b2_4 := Bx.at' HQ2.out 4 (gv) rfl; have b2_5 := Bx.at' HQ2.out 5 (bv) rfl; have b2_6 := Bx.at' HQ2.out 6 (.int .i64 x.slv.vars) rfl; have b2_7 := Bx.at' HQ2.out 7 (cv) rfl; have b2_8 := Bx.at' HQ2.out 8 (tv) rfl; have b2_9 := Bx.at' HQ2.out 9 (.slice OA x.slv.out.length on) rfl; clear hb) | (go_at_call 16; (with_reducible refine (HOs.out _ HB2.out).mono ?_); rintro e w3 ⟨rfl, hb⟩; have HB3 := Lib.hid (bel_trans HB2.out hb); have HP3 := Lib.hid (Bx.below HP2.out hb); have HQ3 := Lib.hid (Bx.below HQ2.out hb); have a3_0 := Bx.at' HP3.out 0 (p1) rfl; have a3_1 := Bx.at' HP3.out 1 (p2) rfl; have b3_0 := Bx.at' HQ3.out 0 (.slice (some ad) x.outs.length un) rfl; have b3_1 := Bx.at' HQ3.out 1 (.int .i64 x.want) rfl; have b3_2 := Bx.at' HQ3.out 2 (.bool x.asked) rfl; have b3_3 := Bx.at' HQ3.out 3 (.int .i64 x.slv.st) rfl; have b3_4 := Bx.at' HQ3.out 4 (gv) rfl; have b3_5 := Bx.at' HQ3.out 5 (bv) rfl; have b3_6 := Bx.at' HQ3.out 6 (.int .i64 x.slv.vars) rfl; have b3_7 := Bx.at' HQ3.out 7 (cv) rfl; have b3_8 := Bx.at' HQ3.out 8 (tv) rfl; have b3_9 := Bx.at' HQ3.out 9 (.slice OA x.slv.out.length on) rfl; clear hb) | (go_at_call 18; (with_reducible refine (HIn.out _).mono ?_); rintro e w4 ⟨rfl, rfl⟩))
                    have l0 := cell_keep HB3.out z0
                    have l1 := cell_keep HB3.out z1
                    refine wp_region_below (by kernel_rfl) (by kernel_rfl) ?_; (repeat (first | go_big_quiet_skip | (go_big_quiet_want; first | fail | (refine quiet_cell rfl rfl (fun W v hv => (by go_simp)) (fun W hW => BelC.cell hW (by assumption)) ?_; go_big_quiet_on; simp only [Act.put, List.setIfInBounds_toArray, List.set_cons_zero, List.set_cons_succ]) | (go_big_quiet_op; first | go_big_quiet_on | ((with_reducible refine ⟨_, fun W' hW => (HEn.out W' (bel_trans HB3.out hW.bel)).mono (fun e w' hh => ⟨hh.1, hh.2 ▸ hW⟩), ?_⟩); go_big_quiet_on) | (refine ⟨_, fun _ _ => rfl, ?_⟩; go_big_quiet_on))))); refine wpQuiet_nil ?_; intro w2 hw2
                    go_wp2
                    go_ret
                    exact ⟨ret_bool HN.out.symm, bel_trans HB3.out hw2.bel⟩
end Go.Proofs.YtdoggcfdfkkedaaGreatDoor
