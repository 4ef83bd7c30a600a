/- Lemmas and contracts for FnOutOk, part 24. -/
import Derived.Laws.ResultCell
import Derived.Deep.RegionHeld3
import Derived.Deep.RegionWith
import Derived.Test.YtjglbadkbhopoaaGreatDoorW23
import Derived.Test.YtjglbadkbhopoaaGreatDoorW01
import Derived.Test.YtjglbadkbhopoaaGreatDoorW14
import Derived.Outline
import Derived.Deep.DeepCutAuto
import Derived.Deep.CutBlock
import Derived.Test.YtjglbadkbhopoaaGreatDoorW00
import Derived.Test.YtjglbadkbhopoaaGreatDoorW10
import Derived.Test.YtjglbadkbhopoaaGreatDoorW09
import Derived.Deep.DeepHandedRow
import Derived.Deep.DeepWitnessRowRef
import Derived.Lib.LaidTab
import Derived.Stop.LaidErr
import Derived.LaidMore
import Derived.Lib.LaidU8
import Derived.OpenShut
import Derived.ShutString
import Derived.Test.YtjglbadkbhopoaaGreatDoorRows
namespace Go.Proofs.YtjglbadkbhopoaaGreatDoor
open Go.RowKit
set_option maxRecDepth 100000
set_option maxHeartbeats 8000000
set_option linter.unusedVariables false
theorem results_tmp_cell' {fn : Func} {p u : Tmp} {ty : TypeId} (h : fn.results = #[.tmp u, .cell p ty]) (tmps : Array Value) (P : Program) (w : World) :
    (results fn tmps).run P w = ((asAddr (tmps.getD p undef)).run P w).andThen fun a w₁ => ((loadVar ty a).run P w₁).andThen fun v w₂ => .ok (.tuple #[tmps.getD u undef, v]) w₂ := by
  simp only [results, h]
  simp [Sem.run_bind, Result.andThen]
theorem ret_tmp_cell {P : Program} {fn : Func} {R : Ending → World → Prop} {a : Act} {w : World} {p u : Tmp} {ty g t : Nat} {cs : Array Value} {fr : Nat × Nat} {d : TypeDesc} (h : fn.results = #[.tmp u, .cell p ty])
    (hp : a.tmps.getD p undef = .pointer (some ⟨g, 0, none⟩)) (hg : w.heap[g]? = some (.cells cs t fr))
    (hu : P.underlying ty = some d) (hd : (match d with | .struct _ | .array _ _ => true | _ => false) = true) (hi : (P.info? ty).map (·.size) = some cs.size) (hdf : a.defers = [])
    (hR : R (.returned (.tuple #[a.tmps.getD u undef, .agg cs])) w) : bodyPost P fn R .ret a w :=
  bodyPost_ret (by
    rw [results_tmp_cell' h, hp]
    simp only [asAddr, Sem.run_pure, Result.andThen_ok, run_loadVar_row w g t ty cs fr d hg hu hd hi]) hdf hR
def DrO (w : World) (e : Ending) (w' : World) : Prop := ∃ (tv ov : Value) (top t : Trm) (st : Int), e = .returned (.tuple #[tv, .agg #[.int .i64 st, ov]]) ∧ T0 w' tv top ∧ fitT top ∧ T0 w' ov t ∧ fitT t ∧ Below w.heap.size w w'
theorem drawOk_c (w : World) (A : Option Addr) (n c : Nat) (bs : List Nat) (h : Bytes w A n c bs) :
    Calls Tryz.prog 12 #[.slice A n c] w (DrO w) := by
  obtain ⟨w0, hw0⟩ : ∃ w0, w.alloc (.cells #[.int .i64 0, .slice none 0 0] 25) = w0 := ⟨_, rfl⟩
  have hb0 : Below w.heap.size w w0 := hw0 ▸ bel_alloc (Below.refl _ _) _
  have HX0 := Lib.hid (show Bx w0 w.heap.size 25 #[.int .i64 0, .slice none 0 0] from hw0 ▸ Bx.new w 25 _)
  have HOp := Lib.hid (openQ_c w0 A n c bs (h.ext hb0))
  have HB0 := Lib.hid hb0
  have hsz0 : w.heap.size < w0.heap.size := (Array.getElem?_eq_some_iff.1 HX0.out).1
  have HPr := Lib.hid (fun (M' : Nat) (W' : World) (h : RQ w0 w0.heap.size M' W') (hM : M' ≤ 400000000) => prog_c h hM)
  have HTp := Lib.hid (fun (M' : Nat) (W' : World) (h : RQ w0 w0.heap.size M' W') (hM : M' ≤ 500000000) => topD_c h hM)
  clear h hb0
  go_enter Tryz.func12, Tryz.ntmps12
  go_upto_region 1 with (fail)
  clear hw0
  go_upto_region 3 with (first | (go_at_call 29; (with_reducible refine HOp.out.mono ?_); rintro e w1 ⟨rfl, hR, hb'⟩; have HR1 := Lib.hid hR; clear hR hb') | (go_at_call 30; (with_reducible refine (HPr.out _ _ HR1.out (by omega)).mono ?_); rintro e w2 ⟨p, p1, p2, rfl, hP, -, hf, hR, hw⟩; have HP2 := Lib.hid hP; have HF2 := Lib.hid hf; obtain ⟨CA, cn, rfl, -, -, -⟩ := hP.c; obtain ⟨PA, pn, rfl, -, -, -⟩ := hP.p; have HQ2 := Lib.hid (Bx.new w2 58 #[.slice CA p.cl.length cn, .slice PA p.pl.length pn]); have HPa := Lib.hid (hP.ext (bel_alloc (Below.refl _ _) (.cells #[.slice CA p.cl.length cn, .slice PA p.pl.length pn] 58))); have HR2 := Lib.hid (hR.ext (bel_alloc (Below.refl _ _) (.cells #[.slice CA p.cl.length cn, .slice PA p.pl.length pn] 58))); clear hP hf hR hw) | fail)
  generalize w2.alloc (.cells #[.slice CA p.cl.length cn, .slice PA p.pl.length pn] 58) = w3 at *
  go_upto_region 5 with (first | (go_at_call 31; (with_reducible refine (HTp.out _ _ HR2.out (by omega)).mono ?_); rintro e w4 ⟨tv, top, rfl, ht, hft, hR, hw⟩; have HT4 := Lib.hid ht; have HF4 := Lib.hid hft; have HR4 := Lib.hid hR; have HQ4 := Lib.hid (Bx.but HQ2.out hw.but (by decide)); have HP4 := Lib.hid (show PrR w4 p (.slice CA p.cl.length cn) (.slice PA p.pl.length pn) from ⟨hw.S HPa.out.c (by decide), hw.S HPa.out.p (by decide)⟩); have q0 := Bx.at' HQ4.out 0 (.slice CA p.cl.length cn) rfl; have q1 := Bx.at' HQ4.out 1 (.slice PA p.pl.length pn) rfl; obtain ⟨TA, tn, rfl, -, -, -⟩ := ht; have HOt := Lib.hid (out_c hR (by omega) p top _ _ _ HP4.out HF2.out HT4.out hft); clear hft hR hw) | (go_at_call 32; (with_reducible refine HOt.out.mono ?_); rintro e w5 ⟨st, ov, t, rfl, ho, hfo, hR, hw⟩; have HFo := Lib.hid hfo; have hO5 := ho; obtain ⟨OA, on, rfl, -, -, -⟩ := ho; have HT5 := Lib.hid (Kd.S_alloc (.cells #[.int .i64 st, .slice OA t.length on] 25) (hw.S HT4.out (by decide))); have HO5 := Lib.hid (Kd.S_alloc (.cells #[.int .i64 st, .slice OA t.length on] 25) hO5); have HY5 := Lib.hid (Bx.new w5 25 #[.int .i64 st, .slice OA t.length on]); have HR5 := Lib.hid (hR.ext (bel_alloc (Below.refl _ _) (.cells #[.int .i64 st, .slice OA t.length on] 25))); have hs5 : w0.heap.size ≤ w5.heap.size := hR.size; clear hfo hO5 hR hw) | fail)
  generalize hw6 : w5.alloc (.cells #[.int .i64 st, .slice OA t.length on] 25) = w6 at *
  clear q0 q1 HOt HP4 HQ4 HPa HQ2 HP2 hw6
  go_upto_region 14 with (first | (go_at_call 33; (refine (odd_c HR5.out (by omega) 3 (by omega) (by omega)).mono ?_); rintro e w7 ⟨bo, rfl, hR, hw⟩; have HR7 := Lib.hid hR; have HT7 := Lib.hid (hw.S HT5.out (by decide)); have HO7 := Lib.hid (hw.S HO5.out (by decide)); have HY7 := Lib.hid (Bx.but HY5.out hw.but (by decide)); clear hR hw) | fail)
  · clear HR2 HR4 HT4 HT5 HO5 HY5 HR5 HR1 HPr HTp
    go_upto_region 8 with (first | (go_at_call_of 34 (Value.int .i64 4); refine (rq_pick HR7.out (by omega) _ (by omega) (by omega)).mono ?_; rintro e w8 ⟨v, rfl, hv, hR, hw⟩; obtain ⟨hv0, hv1, -⟩ := hv; have hv2 := hv1 (by omega); obtain ⟨k, rfl⟩ : ∃ i : Nat, v = i := ⟨v.toNat, by omega⟩; have hk : k < 4 := (by omega); have HR8 := Lib.hid hR; have HW8 := Lib.hid hw; have HT8 := Lib.hid (hw.S HT7.out (by decide)); have HO8 := Lib.hid (hw.S HO7.out (by decide)); have HY8 := Lib.hid (Bx.but HY7.out hw.but (by decide)); clear hv0 hv1 hv2 hR hw) | fail)
    clear HR7 HT7 HO7 HY7 HW8
    have hks : k = 0 ∨ k = 1 ∨ k = 2 ∨ k = 3 := by omega
    clear hk
    rcases hks with rfl | rfl | rfl | rfl
    · go_upto_region 14 with (first | (go_at_call_of 34 (Value.int .i64 7); refine (rq_pick HR8.out (by omega) _ (by omega) (by omega)).mono ?_; rintro e w9 ⟨v, rfl, hv, hR, hw⟩; obtain ⟨hv0, hv1, -⟩ := hv; have hv2 := hv1 (by omega); obtain ⟨q, rfl⟩ : ∃ i : Nat, v = i := ⟨v.toNat, by omega⟩; have hq : q < 7 := (by omega); have HR9 := Lib.hid hR; have HW9 := Lib.hid hw; have HT9 := Lib.hid (hw.S HT8.out (by decide)); have HO9 := Lib.hid (hw.S HO8.out (by decide)); have HY9 := Lib.hid (Bx.but HY8.out hw.but (by decide)); have f9 := Bx.free HY9.out 0; have c9 := Bx.at' HY9.out 0 (.int .i64 st) rfl; clear hv0 hv1 hv2 hR hw) | fail)
      have hk9 := bx_but (j := 0) (u := .int .i64 (q : Int)) HY9.out
      have hbl : Below w0.heap.size w9 (w9.setCell ⟨w5.heap.size, 0, none⟩ (.int .i64 (q : Int))) := (Below.refl _ _).setCell hs5 _
      have HTa := Lib.hid (hk9.S HT9.out (by decide))
      have HRa := Lib.hid (HR9.out.wrote (b := w0.heap.size) ⟨hbl, hk9⟩ (Nat.le_refl _) (by decide))
      have HYa := Lib.hid (show Bx (w9.setCell ⟨w5.heap.size, 0, none⟩ (.int .i64 (q : Int))) w5.heap.size 25 #[.int .i64 (q : Int), .slice OA t.length on] from Bx.put HY9.out 0 (.int .i64 (q : Int)))
      have HOa := Lib.hid (hk9.S HO9.out (by decide))
      clear hk9 hbl f9 c9
      generalize (w9.setCell ⟨w5.heap.size, 0, none⟩ (.int .i64 (q : Int))) = wa at *
      have HWd := Lib.hid (bel_trans HB0.out HRa.out.below)
      obtain ⟨m0, m1, m2, m3, HE⟩ := put_2 (HX0.out.below HRa.out.below) (.int .i64 (q : Int)) (.slice OA t.length on)
      have q0 := Bx.at' HYa.out 0 (.int .i64 (q : Int)) rfl
      have q1 := Bx.at' HYa.out 1 (.slice OA t.length on) rfl
      go_upto_region 14 with (fail)
      go_region
      all_goals
        go_wp2
        refine ret_tmp_cell rfl rfl (Bx.below HE.out.1 (bel_drew (Below.refl _ _))) Tryz.underlying25 rfl (by kernel_rfl) rfl ?_
        exact ⟨_, _, top, t, (q : Int), rfl, Kd.S_ext (bel_drew (Below.refl _ _)) (HE.out.2.1.S HTa.out (by decide)), HF4.out, Kd.S_ext (bel_drew (Below.refl _ _)) (HE.out.2.1.S HOa.out (by decide)), HFo.out, bel_drew (HE.out.2.2 w.heap.size _ (Nat.le_refl _) HWd.out)⟩
    · go_upto_region 14 with (first | (go_at_call 35; (refine (show Calls _ _ #[_, .int .i64 2] _ _ from termOr_c HR8.out (by omega) 2 (by decide) (by decide)).mono ?_); rintro e w9 ⟨xv, x, rfl, hx, hxl, hxs, hR, hw⟩; have HX9 := Lib.hid hx; have HFx := Lib.hid (show fitT x from ⟨by omega, fun c hc => Nat.le_trans (hxs c hc) (by decide)⟩); obtain ⟨XA, xn, rfl, -, -, -⟩ := hx; have HR9 := Lib.hid hR; have HT9 := Lib.hid (hw.S HT8.out (by decide)); have HY9 := Lib.hid (Bx.but HY8.out hw.but (by decide)); have f9 := Bx.free HY9.out 1; have c9 := Bx.at' HY9.out 1 (.slice OA t.length on) rfl; clear hxl hxs hR hw) | fail)
      have hk9 := bx_but (j := 1) (u := .slice XA x.length xn) HY9.out
      have hbl : Below w0.heap.size w9 (w9.setCell ⟨w5.heap.size, 1, none⟩ (.slice XA x.length xn)) := (Below.refl _ _).setCell hs5 _
      have HTa := Lib.hid (hk9.S HT9.out (by decide))
      have HRa := Lib.hid (HR9.out.wrote (b := w0.heap.size) ⟨hbl, hk9⟩ (Nat.le_refl _) (by decide))
      have HYa := Lib.hid (show Bx (w9.setCell ⟨w5.heap.size, 1, none⟩ (.slice XA x.length xn)) w5.heap.size 25 #[.int .i64 st, .slice XA x.length xn] from Bx.put HY9.out 1 (.slice XA x.length xn))
      have HOa := Lib.hid (hk9.S HX9.out (by decide))
      clear hk9 hbl f9 c9
      generalize (w9.setCell ⟨w5.heap.size, 1, none⟩ (.slice XA x.length xn)) = wa at *
      have HWd := Lib.hid (bel_trans HB0.out HRa.out.below)
      obtain ⟨m0, m1, m2, m3, HE⟩ := put_2 (HX0.out.below HRa.out.below) (.int .i64 st) (.slice XA x.length xn)
      have q0 := Bx.at' HYa.out 0 (.int .i64 st) rfl
      have q1 := Bx.at' HYa.out 1 (.slice XA x.length xn) rfl
      go_upto_region 14 with (fail)
      go_region
      all_goals
        go_wp2
        refine ret_tmp_cell rfl rfl (Bx.below HE.out.1 (bel_drew (Below.refl _ _))) Tryz.underlying25 rfl (by kernel_rfl) rfl ?_
        exact ⟨_, _, top, x, st, rfl, Kd.S_ext (bel_drew (Below.refl _ _)) (HE.out.2.1.S HTa.out (by decide)), HF4.out, Kd.S_ext (bel_drew (Below.refl _ _)) (HE.out.2.1.S HOa.out (by decide)), HFx.out, bel_drew (HE.out.2.2 w.heap.size _ (Nat.le_refl _) HWd.out)⟩
    · skip
      have HOd := Lib.hid (Kd.S_ext (bel_drew (Below.refl _ w8)) HO8.out)
      have HRd := Lib.hid (HR8.out.ext (bel_drew (Below.refl _ w8)))
      have HYd := Lib.hid (HY8.out.below (bel_drew (Below.refl _ w8)))
      have q0 := Bx.at' HYd.out 0 (.int .i64 st) rfl
      have q1 := Bx.at' HYd.out 1 (.slice OA t.length on) rfl
      go_upto_region 13 with (fail)
      go_region_with (first | (go_at_call 36; (refine (show Calls _ _ #[_, .int .i64 1] _ _ from topOr_c HRd.out (by omega) 1 (by decide) (by decide)).mono ?_); rintro e w9 ⟨xv, x, rfl, hx, hfx, hR, hw⟩; have HF9 := Lib.hid hfx; have HT9 := Lib.hid hx; obtain ⟨XA, xn, rfl, -, -, -⟩ := hx; have HO9 := Lib.hid (hw.S HOd.out (by decide)); have HW9 := Lib.hid (bel_trans HB0.out hR.below); have q2 := Bx.at' (Bx.but HYd.out hw.but (by decide)) 0 (.int .i64 st) rfl; have q3 := Bx.at' (Bx.but HYd.out hw.but (by decide)) 1 (.slice OA t.length on) rfl; obtain ⟨m0, m1, m2, m3, HE⟩ := put_2 (HX0.out.below hR.below) (.int .i64 st) (.slice OA t.length on); clear hfx hR hw) | fail)
      all_goals
        go_wp2
        refine ret_tmp_cell rfl rfl HE.out.1 Tryz.underlying25 rfl (by kernel_rfl) rfl ?_
        exact ⟨_, _, x, t, st, rfl, HE.out.2.1.S HT9.out (by decide), HF9.out, HE.out.2.1.S HO9.out (by decide), HFo.out, HE.out.2.2 w.heap.size _ (Nat.le_refl _) HW9.out⟩
    · skip
      have HOd := Lib.hid (Kd.S_ext (bel_drew (Below.refl _ w8)) HO8.out)
      have HRd := Lib.hid (HR8.out.ext (bel_drew (Below.refl _ w8)))
      have HYd := Lib.hid (HY8.out.below (bel_drew (Below.refl _ w8)))
      have q0 := Bx.at' HYd.out 0 (.int .i64 st) rfl
      have q1 := Bx.at' HYd.out 1 (.slice OA t.length on) rfl
      go_upto_region 7 with (fail)
      go_region_with (first | (go_at_call 31; (refine (topD_c HRd.out (by omega)).mono ?_); rintro e w9 ⟨xv, x, rfl, hx, hfx, hR, hw⟩; have HF9 := Lib.hid hfx; have HT9 := Lib.hid hx; obtain ⟨XA, xn, rfl, -, -, -⟩ := hx; have HO9 := Lib.hid (hw.S HOd.out (by decide)); have HW9 := Lib.hid (bel_trans HB0.out hR.below); have q2 := Bx.at' (Bx.but HYd.out hw.but (by decide)) 0 (.int .i64 st) rfl; have q3 := Bx.at' (Bx.but HYd.out hw.but (by decide)) 1 (.slice OA t.length on) rfl; obtain ⟨m0, m1, m2, m3, HE⟩ := put_2 (HX0.out.below hR.below) (.int .i64 st) (.slice OA t.length on); clear hfx hR hw) | fail)
      all_goals
        go_wp2
        refine ret_tmp_cell rfl rfl HE.out.1 Tryz.underlying25 rfl (by kernel_rfl) rfl ?_
        exact ⟨_, _, x, t, st, rfl, HE.out.2.1.S HT9.out (by decide), HF9.out, HE.out.2.1.S HO9.out (by decide), HFo.out, HE.out.2.2 w.heap.size _ (Nat.le_refl _) HW9.out⟩
  · skip
    have HWd := Lib.hid (bel_trans HB0.out HR7.out.below)
    obtain ⟨m0, m1, m2, m3, HE⟩ := put_2 (HX0.out.below HR7.out.below) (.int .i64 st) (.slice OA t.length on)
    have q0 := Bx.at' HY7.out 0 (.int .i64 st) rfl
    have q1 := Bx.at' HY7.out 1 (.slice OA t.length on) rfl
    go_upto_region 14 with (fail)
    go_region
    all_goals
      go_wp2
      refine ret_tmp_cell rfl rfl (Bx.below HE.out.1 (bel_drew (Below.refl _ _))) Tryz.underlying25 rfl (by kernel_rfl) rfl ?_
      exact ⟨_, _, top, t, st, rfl, Kd.S_ext (bel_drew (Below.refl _ _)) (HE.out.2.1.S HT7.out (by decide)), HF4.out, Kd.S_ext (bel_drew (Below.refl _ _)) (HE.out.2.1.S HO7.out (by decide)), HFo.out, bel_drew (HE.out.2.2 w.heap.size _ (Nat.le_refl _) HWd.out)⟩
end Go.Proofs.YtjglbadkbhopoaaGreatDoor
namespace Go.Proofs.YtjglbadkbhopoaaGreatDoor
open Go.RowKit
set_option maxRecDepth 100000
set_option maxHeartbeats 8000000
set_option linter.unusedVariables false
theorem caTerm_c (t u : Trm) (A B : Option Addr) (c d : Nat) (w : World) (h : Kd.cell.C 47 w A t) (h' : Kd.cell.C 47 w B u) (hl : t.length ≤ 1000000000) (hl' : u.length ≤ 1000000000) :
    Calls Tryz.prog 16 #[.slice A t.length c, .slice B u.length d] w fun e w' => e = .returned (.bool (decide (t = u))) ∧ Below w.heap.size w w' := by
  by_cases hlen : t.length = u.length
  · have H := Lib.hid h
    have H' := Lib.hid h'
    have HL := Lib.hid hlen
    clear h h'
    rw [← hlen]
    clear hlen hl'
    go_enter Tryz.func16, Tryz.ntmps16
    go_wp2
    go_loopw [5] (fun v5 wr => ∃ k : Nat, v5 = .int .i64 k ∧ k ≤ t.length ∧ Hid (t.take k = u.take k) ∧ Hid (Below w.heap.size w wr)) (fun v5 _ => t.length - (intOf v5).toNat)
    case atStart => exact ⟨0, rfl, Nat.zero_le _, Lib.hid rfl, Lib.hid (Below.refl _ _)⟩
    case round =>
      obtain ⟨k, rfl, hk, HS, HB⟩ := hrel
      by_cases hlt : k < t.length
      · obtain ⟨x, hx⟩ : ∃ x, t[k]? = some x := ⟨_, List.getElem?_eq_getElem hlt⟩
        obtain ⟨y, hy⟩ : ∃ y, u[k]? = some y := ⟨_, List.getElem?_eq_getElem (show k < u.length by rw [← HL.out]; exact hlt)⟩
        obtain ⟨ad, rfl, a1, a2, a3⟩ := cell_at (Kd.C_ext HB.out H.out) hx
        obtain ⟨ad', rfl, b1, b2, b3⟩ := cell_at (Kd.C_ext HB.out H'.out) hy
        by_cases hxy : x = y
        · subst hxy
          have HN := Lib.hid (show t.take (k + 1) = u.take (k + 1) by
            rw [List.take_add_one, List.take_add_one, HS.out, hx, hy])
          clear hx hy
          go_upto_region 6 with fail
          go_quiet (fail)
          go_wp2
          exact ⟨⟨k + 1, by go_num, by omega, HN, Lib.hid (bel_drewN HB.out _)⟩, by simp [intOf]; omega⟩
        · have HV := Lib.hid (show decide (t = u) = false from decide_eq_false (fun e => hxy (by rw [e, hy] at hx; exact (Option.some.inj hx).symm)))
          clear hx hy
          by_cases hk1 : x.k = y.k
          · by_cases hn1 : x.n = y.n
            · have hs1 : (x.s.toList == y.s.toList) = false := by
                rw [Lib.toList_data, Lib.toList_data]
                exact beq_eq_false_iff_ne.2 (fun e => hxy (by
                  obtain ⟨k1, n1, s1⟩ := x
                  obtain ⟨k2, n2, s2⟩ := y
                  obtain rfl : k1 = k2 := hk1
                  obtain rfl : n1 = n2 := hn1
                  have e : s1 = s2 := ByteArray.ext (Array.toList_inj.1 e)
                  rw [e]))
              clear hxy
              go_upto_region 6 with fail
              go_quiet (fail)
              go_wp2
              go_ret
              exact ⟨ret_bool HV.out.symm, bel_drewN HB.out _⟩
            · have e1 : (x.n == y.n) = false := beq_eq_false_iff_ne.2 hn1
              clear hxy hn1
              go_upto_region 6 with fail
              go_quiet (fail)
              go_wp2
              go_ret
              exact ⟨ret_bool HV.out.symm, bel_drewN HB.out _⟩
          · have e1 : (x.k == y.k) = false := beq_eq_false_iff_ne.2 hk1
            clear hxy hk1
            go_upto_region 6 with fail
            go_quiet (fail)
            go_wp2
            go_ret
            exact ⟨ret_bool HV.out.symm, bel_drewN HB.out _⟩
      · have HV := Lib.hid (show decide (t = u) = true from decide_eq_true (by
          have e := HS.out
          rwa [List.take_of_length_le (by omega), List.take_of_length_le (by rw [← HL.out]; omega)] at e))
        go_wp2
        go_ret
        exact ⟨ret_bool HV.out.symm, HB.out⟩
  · have hne : ((t.length : Int) != (u.length : Int)) = true := bne_iff_ne.2 (by omega)
    have HV := Lib.hid (show decide (t = u) = false from decide_eq_false (fun e => hlen (by rw [e])))
    go_enter Tryz.func16, Tryz.ntmps16
    go_wp2
    go_ret
    exact ⟨ret_bool HV.out.symm, Below.refl _ _⟩

theorem caTermS_c (t u : Trm) (tv uv : Value) (w : World) (h : T0 w tv t) (h' : T0 w uv u) (hl : t.length ≤ 1000000000) (hl' : u.length ≤ 1000000000) :
    Calls Tryz.prog 16 #[tv, uv] w fun e w' => e = .returned (.bool (decide (t = u))) ∧ Below w.heap.size w w' := by
  obtain ⟨A, c, rfl, -, -, hC⟩ := h
  obtain ⟨B, d, rfl, -, -, hC'⟩ := h'
  exact caTerm_c t u A B c d w hC hC' hl hl'
end Go.Proofs.YtjglbadkbhopoaaGreatDoor
namespace Go.Proofs.YtjglbadkbhopoaaGreatDoor
open Go.RowKit
set_option maxRecDepth 100000
set_option maxHeartbeats 4000000
set_option linter.unusedVariables false
abbrev TxtC (w0 : World) (n : Nat) : Prop := ∀ (u : Trm) (tv : Value) (b : Nat) (l : Bs) (w : World), u.length ≤ n → Kd.cell.S 47 w tv u → trmOk u = true → Bld w0.heap.size b l w → Below w0.heap.size w0 w → (l ++ txt u).length ≤ 1000000000 →
    Calls Tryz.prog 27 #[.pointer (some ⟨b, 0, none⟩), tv] w fun e w' => e = .returned (.tuple #[]) ∧ Bld w0.heap.size b (l ++ txt u) w' ∧ BW w0.heap.size b w w'
theorem textI_c (w0 : World) (hT : Tab w0) : ∀ n, TxtC w0 n := by
  intro n
  induction n with
  | zero =>
    intro u tv b l w hu _ hok
    obtain ⟨h1, _⟩ := trmOk_iff.1 hok
    rw [List.eq_nil_of_length_eq_zero (by omega : u.length = 0), Ms_nil] at h1
    omega
  | succ n ih =>
    intro u tv b l w hu hS hok hB hw hlen
    obtain ⟨h1, h40, hall⟩ := trmOk_iff.1 hok
    match u, hu, hS, hok, hlen, h1, h40, hall with
    | cc :: r, hu, hS, hok, hlen, h1, h40, hall =>
    have IH := Lib.hid ih
    have HS := Lib.hid hS
    have HBd := Lib.hid hB
    have HW := Lib.hid hw
    have hcok := List.all_eq_true.1 hall cc List.mem_cons_self
    have HA := Lib.hid (fun tv w h => argsI_c cc r tv w h hok)
    have HAok := Lib.hid (fun x (hx : x ∈ argsOf (ar cc).toNat r) => arg_ok hok hx)
    have hal := argsOf_len (ar cc).toNat r
    have hrr := ar_of_ok hcok
    have hwl := word_len hcok
    have hcn := cellOk_n' hcok
    have HT' := Lib.hid (txt_tl h1)
    obtain ⟨al, has⟩ : ∃ al, argsOf (ar cc).toNat r = al := ⟨_, rfl⟩
    rw [has] at HA HAok hal HT'
    rw [HT'.out] at hlen ⊢
    have HLen := Lib.hid hlen
    have hlen2 : l.length + (wordB cc).length ≤ 1000000000 := by have := HLen.out; simp only [List.length_append] at this; omega
    have hb0 := Lib.hid hw.size
    have HAr := Lib.hid (fun W => arity_c cc W)
    obtain ⟨A, c, rfl, a1, a2, hC⟩ := hS
    obtain ⟨ad, rfl, x1, x2, x3⟩ := cell_hd hC
    have HTab := Lib.hid hT
    obtain ⟨N1, hN1⟩ : ∃ N1, (cc :: r).length = N1 := ⟨_, rfl⟩
    rw [hN1] at HS a1 hu ⊢
    have hN0 : 0 < N1 := by rw [← hN1]; exact Nat.succ_pos _
    have HN1 := Lib.hid hN1
    have hrl : r.length + 1 = N1 := by rw [← hN1]; rfl
    have Hrl := Lib.hid (show r.length ≤ n by omega)
    clear hN1 hrl
    have hkk := cellOk_k hcok
    have har : ar cc = (al.length : Int) := by rw [hal]; omega
    have ha3 : al.length ≤ 3 := by omega
    clear hC hS hB hw hok hall ih HT' has hlen h40 h1
    have HWL := Lib.hid hlen2
    clear hlen2
    have hsplit : (cc.k == 1) = true ∧ wordB cc = 88 :: Lib.itoa cc.n ∨ ((cc.k == 1) = false ∧ (cc.k == 2) = true ∧ wordB cc = Lib.itoa cc.n) ∨ ((cc.k == 1) = false ∧ (cc.k == 2) = false ∧ (cc.k == 3) = true ∧ wordB cc = L cc.s) := by
      unfold wordB
      rcases hkk with h | h | h
      · exact .inl ⟨beq_iff_eq.2 h, if_pos h⟩
      · exact .inr (.inl ⟨beq_eq_false_iff_ne.2 (by omega), beq_iff_eq.2 h, by rw [if_neg (by omega), if_pos h]⟩)
      · exact .inr (.inr ⟨beq_eq_false_iff_ne.2 (by omega), beq_eq_false_iff_ne.2 (by omega), beq_iff_eq.2 h, by rw [if_neg (by omega), if_neg (by omega)]⟩)
    obtain ⟨wd, hwd⟩ : ∃ wd, wordB cc = wd := ⟨_, rfl⟩
    rw [hwd] at hsplit HLen HWL hwl ⊢
    clear hwd hkk
    have hsz := Lib.hid (show (B wd).size ≤ 8 by rw [size_B]; exact hwl)
    have hcase : ((cc.k == 1) = true ∧ (∃ Z : ByteArray, Z.size ≤ 6 ∧ B (Lib.itoa cc.n) = Z ∧ L ((⟨#[88]⟩ : ByteArray) ++ Z) = wd)) ∨ ((cc.k == 1) = false ∧ (cc.k == 2) = true ∧ B (Lib.itoa cc.n) = B wd) ∨ ((cc.k == 1) = false ∧ (cc.k == 2) = false ∧ (cc.k == 3) = true ∧ cc.s = B wd) := by
      rcases hsplit with ⟨e1, hv⟩ | ⟨e1, e2, hv⟩ | ⟨e1, e2, e3, hv⟩
      · exact .inl ⟨e1, _, by rw [size_B]; exact itoa_len hcn.1 hcn.2, rfl, by rw [L_append, L_B, hv]; rfl⟩
      · exact .inr (.inl ⟨e1, e2, by rw [hv]⟩)
      · exact .inr (.inr ⟨e1, e2, e3, by rw [hv, B_L]⟩)
    clear hsplit hwl
    have HI := Lib.hid (fun W h => itoa_c cc.n hcn.1 hcn.2 W h)
    have HWr := Lib.hid (fun s W' (hs : L s = wd) (hbW : Below w.heap.size w W') => write_c w0.heap.size b l s w W' HBd.out hbW hb0.out (by have := HWL.out; omega) (by rw [← L_length, hs]; have := HWL.out; omega))
    have HLB := Lib.hid (L_B wd)
    have har0 := Lib.hid har
    clear har hrr hcn hal
    rcases hcase with ⟨e1, Z, hz, hZ, hLZ⟩ | ⟨e1, e2, hZ⟩ | ⟨e1, e2, e3, hZ⟩
    · rw [hZ] at HI
      have HLZ := Lib.hid hLZ
      clear hZ hLZ
      go_enter Tryz.func27, Tryz.ntmps27
      go_wp2_with (first | (go_at_call 62; (with_reducible refine (HI.out _ (HTab.out.ext (bel_alloc HW.out _))).mono ?_); rintro e w1 ⟨rfl, hb1⟩; have HB1 := Lib.hid (bel_trans (bel_alloc (Below.refl _ _) _) hb1); clear hb1)
                         | (go_at_call 61; (with_reducible refine (HWr.out _ _ HLZ.out HB1.out).mono ?_); rintro e w2 ⟨rfl, hB2, hk2⟩; rw [HLZ.out] at hB2; have HB2 := Lib.hid hB2; have HK2 := Lib.hid hk2; clear hB2 hk2)
                         | (go_at_call 63; (with_reducible refine (HA.out _ _ (HK2.out.S HBd.out HS.out cellBE)).mono ?_); rintro e w3 ⟨av, rfl, hO, hb3⟩; have HO := Lib.hid hO; have HB3 := Lib.hid hb3; obtain ⟨AB, cA, rfl, y1, y2, -⟩ := Kd.O_read hO; clear hO hb3))
      have HL3 := Lib.hid (Bld.ext HB2.out HB3.out)
      have HK3 := Lib.hid (HK2.out.trans (BW.of_below (Nat.le_trans hb0.out HK2.out.bel.size) HB3.out))
      clear x1 x2 x3
      go_loopw [36] (fun v36 wr => ∃ (i : Nat) (l' : Bs), v36 = .int .i64 i ∧ i ≤ al.length ∧ Hid (l' ++ tl (decide (i = 0)) (al.drop i) = l ++ (wd ++ tl true al)) ∧ Hid (Bld w0.heap.size b l' wr) ∧ Hid (BW w0.heap.size b w3 wr)) (fun v36 _ => al.length - (intOf v36).toNat)
      case atStart => exact ⟨0, l ++ wd, rfl, Nat.zero_le _, Lib.hid (by simp), HL3, Lib.hid (BW.of_below (Nat.le_trans HK3.out.bel.size (Nat.le_refl _) |> Nat.le_trans hb0.out) (Below.refl _ _))⟩
      case round =>
        obtain ⟨i, l', rfl, hi, HTl, HBr, HKr⟩ := hrel
        have HB0r := Lib.hid (Nat.le_trans hb0.out (HK3.out.trans HKr.out).bel.size)
        by_cases hlt : i < al.length
        · obtain ⟨x, hx⟩ : ∃ x, al[i]? = some x := ⟨_, List.getElem?_eq_getElem hlt⟩
          obtain ⟨A1, k1, ev1, _, _, hCx⟩ := Kd.O_read (HKr.out.O HL3.out HO.out trmBE)
          injection ev1 with u1 u2 u3
          obtain ⟨ax, xv, hax, cax, hSx⟩ := trm_at hCx hx
          have had1 := u1.trans hax
          have HSx := Lib.hid hSx
          have hxm := List.mem_of_getElem? hx
          have HXok := Lib.hid (HAok.out x hxm)
          have hdr : al.drop i = x :: al.drop (i + 1) := by
            obtain ⟨hl, e⟩ := List.getElem?_eq_some_iff.1 hx
            rw [List.drop_eq_getElem_cons hl, e]
          have HT1 := Lib.hid (show (l' ++ [if decide (i = 0) = true then 40 else 44] ++ txt x) ++ tl false (al.drop (i + 1)) = l ++ (wd ++ tl true al) by
            rw [← HTl.out, hdr, tl]; simp [List.append_assoc])
          have HX0 := Lib.hid (show (l' ++ [if decide (i = 0) = true then (40 : UInt8) else 44] ++ txt x).length ≤ 1000000000 by
            have h1 := HLen.out
            rw [← HT1.out, List.length_append] at h1
            omega)
          have Hl' := Lib.hid (show l'.length ≤ 1000000000 by have := HX0.out; simp only [List.length_append] at this; omega)
          clear u1 u2 u3 hax hCx hSx hx hdr hxm
          subst had1
          have hm0 : min (0 : Int) 1 = 0 := rfl
          have hm2 : min (2 : Int) 1 = 1 := rfl
          have h012 : i = 0 ∨ i = 1 ∨ i = 2 := by omega
          rcases h012 with rfl | rfl | rfl
          all_goals
            first | rw [add_zero'0] at cax | (unfold Addr.add at cax; rw [if_neg (by decide)] at cax)
            go_wp2_with (first | (go_at_call 61; (with_reducible refine (write_c w0.heap.size b l' _ wr _ HBr.out (bel_alloc (Below.refl _ _) _) HB0r.out Hl'.out (by decide)).mono ?_); rintro e w4 ⟨rfl, hB4, hk4⟩; have HB4 := Lib.hid hB4; have HK4 := Lib.hid hk4; clear hB4 hk4)
                               | (go_at_call 27; (with_reducible refine (IH.out x xv b _ w4 (Nat.le_trans HXok.out.2.2 Hrl.out) (HK4.out.S HBr.out HSx.out cellBE) HXok.out.1 HB4.out ?_ ?_).mono ?_); (case refine_1 => exact ((HW.out.trans (HK3.out.trans HKr.out).bel).trans HK4.out.bel)); (case refine_2 => exact HX0.out); rintro e w5 ⟨rfl, hB5, hk5⟩; have HB5 := Lib.hid hB5; have HK5 := Lib.hid hk5; clear hB5 hk5))
            exact ⟨⟨_, _, by go_num, hlt, HT1, HB5, Lib.hid (HKr.out.trans (HK4.out.trans HK5.out))⟩, by simp [intOf]; omega⟩
        · have hSr := (HK3.out.trans HKr.out).S HBd.out HS.out cellBE
          obtain ⟨A1, k1, ev1, _, _, hCx⟩ := hSr
          injection ev1 with u1 u2 u3
          obtain ⟨ad2, ea, x1, x2, x3⟩ := cell_hd hCx
          rw [← u1] at ea
          injection ea with ea
          subst ea
          clear u1 u2 u3 hCx
          have hdr := HTl.out
          rw [List.drop_of_length_le (by omega)] at hdr
          by_cases h0 : al.length = 0
          · have e7 : decide (0 < ar cc) = false := decide_eq_false (by rw [har0.out]; omega)
            have hi0 : i = 0 := by omega
            have HV := Lib.hid (show l' = l ++ (wd ++ tl true al) by rw [← hdr, hi0]; simp [tl])
            clear hdr
            go_wp2_with (go_at_call 64; (with_reducible refine (HAr.out _).mono ?_); rintro e w4 ⟨rfl, hb4⟩)
            go_end0
            rw [← HV.out]
            exact ⟨rfl, HBr.out.ext hb4, (HK3.out.trans HKr.out).trans (BW.of_below HB0r.out hb4)⟩
          · have e7 : decide (0 < ar cc) = true := decide_eq_true (by rw [har0.out]; omega)
            have HV := Lib.hid (show l' ++ L ⟨#[41]⟩ = l ++ (wd ++ tl true al) by
              rw [← hdr]
              rw [show decide (i = 0) = false from decide_eq_false (by omega)]
              rfl)
            have Hl' := Lib.hid (show l'.length ≤ 1000000000 by have := HLen.out; rw [← HV.out, List.length_append] at this; omega)
            clear hdr
            go_wp2_with (first | (go_at_call 64; (with_reducible refine (HAr.out _).mono ?_); rintro e w4 ⟨rfl, hb4⟩; have HB4 := Lib.hid hb4; clear hb4)
                               | (go_at_call 61; (with_reducible refine (write_c w0.heap.size b l' _ wr _ HBr.out HB4.out HB0r.out Hl'.out (by decide)).mono ?_); rintro e w5 ⟨rfl, hB5, hk5⟩))
            go_end0
            rw [← HV.out]
            exact ⟨rfl, hB5, (HK3.out.trans HKr.out).trans hk5⟩
    · rw [hZ] at HI
      clear hZ
      have hz := hsz.out
      go_enter Tryz.func27, Tryz.ntmps27
      go_wp2_with (first | (go_at_call 62; (with_reducible refine (HI.out _ (HTab.out.ext (bel_alloc HW.out _))).mono ?_); rintro e w1 ⟨rfl, hb1⟩; have HB1 := Lib.hid (bel_trans (bel_alloc (Below.refl _ _) _) hb1); clear hb1)
                         | (go_at_call 61; (with_reducible refine (HWr.out _ _ HLB.out HB1.out).mono ?_); rintro e w2 ⟨rfl, hB2, hk2⟩; rw [HLB.out] at hB2; have HB2 := Lib.hid hB2; have HK2 := Lib.hid hk2; clear hB2 hk2)
                         | (go_at_call 63; (with_reducible refine (HA.out _ _ (HK2.out.S HBd.out HS.out cellBE)).mono ?_); rintro e w3 ⟨av, rfl, hO, hb3⟩; have HO := Lib.hid hO; have HB3 := Lib.hid hb3; obtain ⟨AB, cA, rfl, y1, y2, -⟩ := Kd.O_read hO; clear hO hb3))
      have HL3 := Lib.hid (Bld.ext HB2.out HB3.out)
      have HK3 := Lib.hid (HK2.out.trans (BW.of_below (Nat.le_trans hb0.out HK2.out.bel.size) HB3.out))
      clear x1 x2 x3
      go_loopw [36] (fun v36 wr => ∃ (i : Nat) (l' : Bs), v36 = .int .i64 i ∧ i ≤ al.length ∧ Hid (l' ++ tl (decide (i = 0)) (al.drop i) = l ++ (wd ++ tl true al)) ∧ Hid (Bld w0.heap.size b l' wr) ∧ Hid (BW w0.heap.size b w3 wr)) (fun v36 _ => al.length - (intOf v36).toNat)
      case atStart => exact ⟨0, l ++ wd, rfl, Nat.zero_le _, Lib.hid (by simp), HL3, Lib.hid (BW.of_below (Nat.le_trans HK3.out.bel.size (Nat.le_refl _) |> Nat.le_trans hb0.out) (Below.refl _ _))⟩
      case round =>
        obtain ⟨i, l', rfl, hi, HTl, HBr, HKr⟩ := hrel
        have HB0r := Lib.hid (Nat.le_trans hb0.out (HK3.out.trans HKr.out).bel.size)
        by_cases hlt : i < al.length
        · obtain ⟨x, hx⟩ : ∃ x, al[i]? = some x := ⟨_, List.getElem?_eq_getElem hlt⟩
          obtain ⟨A1, k1, ev1, _, _, hCx⟩ := Kd.O_read (HKr.out.O HL3.out HO.out trmBE)
          injection ev1 with u1 u2 u3
          obtain ⟨ax, xv, hax, cax, hSx⟩ := trm_at hCx hx
          have had1 := u1.trans hax
          have HSx := Lib.hid hSx
          have hxm := List.mem_of_getElem? hx
          have HXok := Lib.hid (HAok.out x hxm)
          have hdr : al.drop i = x :: al.drop (i + 1) := by
            obtain ⟨hl, e⟩ := List.getElem?_eq_some_iff.1 hx
            rw [List.drop_eq_getElem_cons hl, e]
          have HT1 := Lib.hid (show (l' ++ [if decide (i = 0) = true then 40 else 44] ++ txt x) ++ tl false (al.drop (i + 1)) = l ++ (wd ++ tl true al) by
            rw [← HTl.out, hdr, tl]; simp [List.append_assoc])
          have HX0 := Lib.hid (show (l' ++ [if decide (i = 0) = true then (40 : UInt8) else 44] ++ txt x).length ≤ 1000000000 by
            have h1 := HLen.out
            rw [← HT1.out, List.length_append] at h1
            omega)
          have Hl' := Lib.hid (show l'.length ≤ 1000000000 by have := HX0.out; simp only [List.length_append] at this; omega)
          clear u1 u2 u3 hax hCx hSx hx hdr hxm
          subst had1
          have hm0 : min (0 : Int) 1 = 0 := rfl
          have hm2 : min (2 : Int) 1 = 1 := rfl
          have h012 : i = 0 ∨ i = 1 ∨ i = 2 := by omega
          rcases h012 with rfl | rfl | rfl
          all_goals
            first | rw [add_zero'0] at cax | (unfold Addr.add at cax; rw [if_neg (by decide)] at cax)
            go_wp2_with (first | (go_at_call 61; (with_reducible refine (write_c w0.heap.size b l' _ wr _ HBr.out (bel_alloc (Below.refl _ _) _) HB0r.out Hl'.out (by decide)).mono ?_); rintro e w4 ⟨rfl, hB4, hk4⟩; have HB4 := Lib.hid hB4; have HK4 := Lib.hid hk4; clear hB4 hk4)
                               | (go_at_call 27; (with_reducible refine (IH.out x xv b _ w4 (Nat.le_trans HXok.out.2.2 Hrl.out) (HK4.out.S HBr.out HSx.out cellBE) HXok.out.1 HB4.out ?_ ?_).mono ?_); (case refine_1 => exact ((HW.out.trans (HK3.out.trans HKr.out).bel).trans HK4.out.bel)); (case refine_2 => exact HX0.out); rintro e w5 ⟨rfl, hB5, hk5⟩; have HB5 := Lib.hid hB5; have HK5 := Lib.hid hk5; clear hB5 hk5))
            exact ⟨⟨_, _, by go_num, hlt, HT1, HB5, Lib.hid (HKr.out.trans (HK4.out.trans HK5.out))⟩, by simp [intOf]; omega⟩
        · have hSr := (HK3.out.trans HKr.out).S HBd.out HS.out cellBE
          obtain ⟨A1, k1, ev1, _, _, hCx⟩ := hSr
          injection ev1 with u1 u2 u3
          obtain ⟨ad2, ea, x1, x2, x3⟩ := cell_hd hCx
          rw [← u1] at ea
          injection ea with ea
          subst ea
          clear u1 u2 u3 hCx
          have hdr := HTl.out
          rw [List.drop_of_length_le (by omega)] at hdr
          by_cases h0 : al.length = 0
          · have e7 : decide (0 < ar cc) = false := decide_eq_false (by rw [har0.out]; omega)
            have hi0 : i = 0 := by omega
            have HV := Lib.hid (show l' = l ++ (wd ++ tl true al) by rw [← hdr, hi0]; simp [tl])
            clear hdr
            go_wp2_with (go_at_call 64; (with_reducible refine (HAr.out _).mono ?_); rintro e w4 ⟨rfl, hb4⟩)
            go_end0
            rw [← HV.out]
            exact ⟨rfl, HBr.out.ext hb4, (HK3.out.trans HKr.out).trans (BW.of_below HB0r.out hb4)⟩
          · have e7 : decide (0 < ar cc) = true := decide_eq_true (by rw [har0.out]; omega)
            have HV := Lib.hid (show l' ++ L ⟨#[41]⟩ = l ++ (wd ++ tl true al) by
              rw [← hdr]
              rw [show decide (i = 0) = false from decide_eq_false (by omega)]
              rfl)
            have Hl' := Lib.hid (show l'.length ≤ 1000000000 by have := HLen.out; rw [← HV.out, List.length_append] at this; omega)
            clear hdr
            go_wp2_with (first | (go_at_call 64; (with_reducible refine (HAr.out _).mono ?_); rintro e w4 ⟨rfl, hb4⟩; have HB4 := Lib.hid hb4; clear hb4)
                               | (go_at_call 61; (with_reducible refine (write_c w0.heap.size b l' _ wr _ HBr.out HB4.out HB0r.out Hl'.out (by decide)).mono ?_); rintro e w5 ⟨rfl, hB5, hk5⟩))
            go_end0
            rw [← HV.out]
            exact ⟨rfl, hB5, (HK3.out.trans HKr.out).trans hk5⟩
    · rw [hZ] at x3
      have HX3 := Lib.hid hZ
      clear hZ
      have hz := hsz.out
      go_enter Tryz.func27, Tryz.ntmps27
      go_wp2_with (first | (go_at_call 61; (with_reducible refine (HWr.out _ _ HLB.out (bel_alloc (Below.refl _ _) _)).mono ?_); rintro e w2 ⟨rfl, hB2, hk2⟩; rw [HLB.out] at hB2; have HB2 := Lib.hid hB2; have HK2 := Lib.hid hk2; clear hB2 hk2)
                         | (go_at_call 63; (with_reducible refine (HA.out _ _ (HK2.out.S HBd.out HS.out cellBE)).mono ?_); rintro e w3 ⟨av, rfl, hO, hb3⟩; have HO := Lib.hid hO; have HB3 := Lib.hid hb3; obtain ⟨AB, cA, rfl, y1, y2, -⟩ := Kd.O_read hO; clear hO hb3))
      have HL3 := Lib.hid (Bld.ext HB2.out HB3.out)
      have HK3 := Lib.hid (HK2.out.trans (BW.of_below (Nat.le_trans hb0.out HK2.out.bel.size) HB3.out))
      clear x1 x2 x3
      go_loopw [36] (fun v36 wr => ∃ (i : Nat) (l' : Bs), v36 = .int .i64 i ∧ i ≤ al.length ∧ Hid (l' ++ tl (decide (i = 0)) (al.drop i) = l ++ (wd ++ tl true al)) ∧ Hid (Bld w0.heap.size b l' wr) ∧ Hid (BW w0.heap.size b w3 wr)) (fun v36 _ => al.length - (intOf v36).toNat)
      case atStart => exact ⟨0, l ++ wd, rfl, Nat.zero_le _, Lib.hid (by simp), HL3, Lib.hid (BW.of_below (Nat.le_trans HK3.out.bel.size (Nat.le_refl _) |> Nat.le_trans hb0.out) (Below.refl _ _))⟩
      case round =>
        obtain ⟨i, l', rfl, hi, HTl, HBr, HKr⟩ := hrel
        have HB0r := Lib.hid (Nat.le_trans hb0.out (HK3.out.trans HKr.out).bel.size)
        by_cases hlt : i < al.length
        · obtain ⟨x, hx⟩ : ∃ x, al[i]? = some x := ⟨_, List.getElem?_eq_getElem hlt⟩
          obtain ⟨A1, k1, ev1, _, _, hCx⟩ := Kd.O_read (HKr.out.O HL3.out HO.out trmBE)
          injection ev1 with u1 u2 u3
          obtain ⟨ax, xv, hax, cax, hSx⟩ := trm_at hCx hx
          have had1 := u1.trans hax
          have HSx := Lib.hid hSx
          have hxm := List.mem_of_getElem? hx
          have HXok := Lib.hid (HAok.out x hxm)
          have hdr : al.drop i = x :: al.drop (i + 1) := by
            obtain ⟨hl, e⟩ := List.getElem?_eq_some_iff.1 hx
            rw [List.drop_eq_getElem_cons hl, e]
          have HT1 := Lib.hid (show (l' ++ [if decide (i = 0) = true then 40 else 44] ++ txt x) ++ tl false (al.drop (i + 1)) = l ++ (wd ++ tl true al) by
            rw [← HTl.out, hdr, tl]; simp [List.append_assoc])
          have HX0 := Lib.hid (show (l' ++ [if decide (i = 0) = true then (40 : UInt8) else 44] ++ txt x).length ≤ 1000000000 by
            have h1 := HLen.out
            rw [← HT1.out, List.length_append] at h1
            omega)
          have Hl' := Lib.hid (show l'.length ≤ 1000000000 by have := HX0.out; simp only [List.length_append] at this; omega)
          clear u1 u2 u3 hax hCx hSx hx hdr hxm
          subst had1
          have hm0 : min (0 : Int) 1 = 0 := rfl
          have hm2 : min (2 : Int) 1 = 1 := rfl
          have h012 : i = 0 ∨ i = 1 ∨ i = 2 := by omega
          rcases h012 with rfl | rfl | rfl
          all_goals
            first | rw [add_zero'0] at cax | (unfold Addr.add at cax; rw [if_neg (by decide)] at cax)
            go_wp2_with (first | (go_at_call 61; (with_reducible refine (write_c w0.heap.size b l' _ wr _ HBr.out (bel_alloc (Below.refl _ _) _) HB0r.out Hl'.out (by decide)).mono ?_); rintro e w4 ⟨rfl, hB4, hk4⟩; have HB4 := Lib.hid hB4; have HK4 := Lib.hid hk4; clear hB4 hk4)
                               | (go_at_call 27; (with_reducible refine (IH.out x xv b _ w4 (Nat.le_trans HXok.out.2.2 Hrl.out) (HK4.out.S HBr.out HSx.out cellBE) HXok.out.1 HB4.out ?_ ?_).mono ?_); (case refine_1 => exact ((HW.out.trans (HK3.out.trans HKr.out).bel).trans HK4.out.bel)); (case refine_2 => exact HX0.out); rintro e w5 ⟨rfl, hB5, hk5⟩; have HB5 := Lib.hid hB5; have HK5 := Lib.hid hk5; clear hB5 hk5))
            exact ⟨⟨_, _, by go_num, hlt, HT1, HB5, Lib.hid (HKr.out.trans (HK4.out.trans HK5.out))⟩, by simp [intOf]; omega⟩
        · have hSr := (HK3.out.trans HKr.out).S HBd.out HS.out cellBE
          obtain ⟨A1, k1, ev1, _, _, hCx⟩ := hSr
          injection ev1 with u1 u2 u3
          obtain ⟨ad2, ea, x1, x2, x3⟩ := cell_hd hCx
          rw [← u1] at ea
          injection ea with ea
          subst ea
          clear u1 u2 u3 hCx
          have hdr := HTl.out
          rw [List.drop_of_length_le (by omega)] at hdr
          by_cases h0 : al.length = 0
          · have e7 : decide (0 < ar cc) = false := decide_eq_false (by rw [har0.out]; omega)
            have hi0 : i = 0 := by omega
            have HV := Lib.hid (show l' = l ++ (wd ++ tl true al) by rw [← hdr, hi0]; simp [tl])
            clear hdr
            go_wp2_with (go_at_call 64; (with_reducible refine (HAr.out _).mono ?_); rintro e w4 ⟨rfl, hb4⟩)
            go_end0
            rw [← HV.out]
            exact ⟨rfl, HBr.out.ext hb4, (HK3.out.trans HKr.out).trans (BW.of_below HB0r.out hb4)⟩
          · have e7 : decide (0 < ar cc) = true := decide_eq_true (by rw [har0.out]; omega)
            have HV := Lib.hid (show l' ++ L ⟨#[41]⟩ = l ++ (wd ++ tl true al) by
              rw [← hdr]
              rw [show decide (i = 0) = false from decide_eq_false (by omega)]
              rfl)
            have Hl' := Lib.hid (show l'.length ≤ 1000000000 by have := HLen.out; rw [← HV.out, List.length_append] at this; omega)
            clear hdr
            go_wp2_with (first | (go_at_call 64; (with_reducible refine (HAr.out _).mono ?_); rintro e w4 ⟨rfl, hb4⟩; have HB4 := Lib.hid hb4; clear hb4)
                               | (go_at_call 61; (with_reducible refine (write_c w0.heap.size b l' _ wr _ HBr.out HB4.out HB0r.out Hl'.out (by decide)).mono ?_); rintro e w5 ⟨rfl, hB5, hk5⟩))
            go_end0
            rw [← HV.out]
            exact ⟨rfl, hB5, (HK3.out.trans HKr.out).trans hk5⟩

def textOf (t : Trm) : Bs := if trmOk t then txt t else []
theorem textIm_c (t : Trm) (tv : Value) (w : World) (h : Kd.cell.S 47 w tv t) (hl : t.length ≤ 1000000000) (hz : sized t) (hT : Tab w) :
    Calls Tryz.prog 10 #[tv] w fun e w' => e = .returned (.string (B (textOf t))) ∧ Below w.heap.size w w' := by
  have HK := Lib.hid (imOkS_c t tv w h hl hz)
  unfold textOf
  cases hq : trmOk t with
  | false =>
    rw [hq] at HK
    clear h hq
    go_enter Tryz.func10, Tryz.ntmps10
    go_wp2_with (go_at_call 26; (with_reducible refine HK.out.mono ?_); rintro e w1 ⟨rfl, hb⟩)
    go_ret
    exact ⟨rfl, hb⟩
  | true =>
    rw [hq] at HK
    rw [if_pos rfl]
    have H := Lib.hid h
    have Hq := Lib.hid hq
    have HTb := Lib.hid hT
    clear h hq hT
    have HX := Lib.hid (fun w1 (hT1 : Tab w1) (hS1 : Kd.cell.S 47 w1 tv t) (hlen : (txt t).length ≤ 1000000000) => textI_c w1 hT1 t.length t tv w1.heap.size [] (w1.alloc (.cells #[.pointer none, .slice none 0 0] 50)) (Nat.le_refl _) (Kd.S_alloc _ hS1) Hq.out
      (.inl ⟨Nat.le_refl _, .slice none 0 0, heap_alloc_new _ _, World.ownsRowF_nil _ _ _ _, by simp [Value.ownBlock]⟩) (bel_alloc (Below.refl _ _) _) hlen)
    have HLn := Lib.hid (txt_len Hq.out)
    go_enter Tryz.func10, Tryz.ntmps10
    go_wp2_with (first | (go_at_call 26; (with_reducible refine HK.out.mono ?_); rintro e w1 ⟨rfl, hb⟩; have HB := Lib.hid hb; clear hb)
                       | (go_at_call 27; (with_reducible refine (HX.out w1 (HTb.out.ext HB.out) (Kd.S_ext HB.out H.out) HLn.out).mono ?_); rintro e w2 ⟨rfl, hB2, hk2⟩; have HB2 := Lib.hid hB2; have HK2 := Lib.hid hk2; clear hB2 hk2)
                       | (go_at_call 28; (with_reducible refine (str_c w1.heap.size w1.heap.size _ w2 HB2.out (Nat.le_trans (bel_alloc (Below.refl _ w1) (.cells #[.pointer none, .slice none 0 0] 50)).size HK2.out.bel.size)).mono ?_); rintro e w3 ⟨rfl, hb3⟩))
    go_ret
    exact ⟨rfl, bel_trans HB.out (((bel_alloc (Below.refl _ _) _).trans HK2.out.bel).trans hb3)⟩
end Go.Proofs.YtjglbadkbhopoaaGreatDoor
namespace Go.Proofs.YtjglbadkbhopoaaGreatDoor
open Go.RowKit
set_option maxRecDepth 100000
set_option maxHeartbeats 2000000
set_option linter.unusedVariables false
noncomputable def outTxt (top : Trm) (st : Int) (t : Trm) : ByteArray :=
  if outOk top st t then (if st = 2 then B (textOf t) else if st = 3 then ⟨#[110, 111, 110, 101]⟩ else if st = 4 then ⟨#[116, 111, 111, 32, 98, 105, 103]⟩ else ⟨#[119, 114, 111, 110, 103]⟩) else ⟨#[]⟩
theorem outOk_st {top : Trm} {st : Int} {t : Trm} (h : outOk top st t = true) : st = 2 ∨ st = 3 ∨ st = 4 ∨ st = 5 := by
  unfold outOk at h
  split at h
  · cases h
  · split at h
    · omega
    · split at h
      · cases h
      · omega
theorem box_at (w : World) (st : Int) (ov : Value) {w1 : World} (hb : Below (w.alloc (.cells #[.int .i64 st, ov] 25)).heap.size (w.alloc (.cells #[.int .i64 st, ov] 25)) w1) :
    w1.cell? ⟨w.heap.size, 0, none⟩ = some (.int .i64 st) ∧ w1.cell? ⟨w.heap.size, 1, none⟩ = some ov ∧ ∀ o, (w1.alloc o).cell? ⟨w.heap.size, 0, none⟩ = some (.int .i64 st) := by
  have h := heap_alloc_new w (.cells #[.int .i64 st, ov] 25)
  have h0 := cell_keep hb (Lib.cell_of_heap h 0)
  exact ⟨h0, cell_keep hb (Lib.cell_of_heap h 1), fun o => cell_keep (bel_alloc (Below.refl _ _) o) h0⟩
theorem outTxtI_c (top : Trm) (tv : Value) (st : Int) (t : Trm) (ov : Value) (w : World) (h : Kd.cell.S 47 w tv top) (h' : Kd.cell.S 47 w ov t) (hl : top.length ≤ 1000000000) (hl' : t.length ≤ 1000000000) (hz : sized top) (hz' : sized t) (hT : Tab w) :
    Calls Tryz.prog 6 #[tv, .agg #[.int .i64 st, ov]] w fun e w' => e = .returned (.string (outTxt top st t)) ∧ Below w.heap.size w w' := by
  have HO := Lib.hid (fun o => outOkI_c top tv st t ov (w.alloc o) (Kd.S_alloc _ h) (Kd.S_alloc _ h') hl hl' hz hz')
  have HT := Lib.hid (fun w' hs hT' => textIm_c t ov w' hs hl' hz' hT')
  have HBx := Lib.hid (fun w1 => box_at w st ov (w1 := w1))
  have H' := Lib.hid h'
  have HTb := Lib.hid hT
  obtain ⟨oA, oc, rfl, o1, o2, -⟩ := h'
  unfold outTxt
  have hst := outOk_st (top := top) (st := st) (t := t)
  clear hT
  cases hq : outOk top st t with
  | false =>
    rw [hq] at HO
    rw [if_neg (by simp)]
    clear h hq hst
    go_enter Tryz.func6, Tryz.ntmps6
    go_wp2_with (go_at_call 13; (with_reducible refine (HO.out _).mono ?_); rintro e w1 ⟨rfl, hb⟩)
    go_ret
    exact ⟨rfl, bel_trans (bel_alloc (Below.refl _ _) _) hb⟩
  | true =>
    rw [hq] at HO
    rw [if_pos rfl]
    have hst := hst hq
    clear h hq
    rcases hst with rfl | rfl | rfl | rfl
    · go_enter Tryz.func6, Tryz.ntmps6
      go_wp2_with (first | (go_at_call 13; (with_reducible refine (HO.out _).mono ?_); rintro e w1 ⟨rfl, hb⟩; obtain ⟨x0, x1, x2⟩ := HBx.out w1 hb; have HB := Lib.hid (bel_trans (bel_alloc (Below.refl _ _) _) hb); clear hb)
                         | (go_at_call 10; (with_reducible refine (HT.out _ (Kd.S_ext HB.out H'.out) (HTb.out.ext HB.out)).mono ?_); rintro e w2 ⟨rfl, hb2⟩))
      go_ret
      exact ⟨ret_str rfl, bel_trans HB.out hb2⟩
    all_goals
      go_enter Tryz.func6, Tryz.ntmps6
      go_wp2_with (first | (go_at_call 13; (with_reducible refine (HO.out _).mono ?_); rintro e w1 ⟨rfl, hb⟩; obtain ⟨x0, x1, x2⟩ := HBx.out w1 hb; have HB := Lib.hid (bel_trans (bel_alloc (Below.refl _ _) _) hb); clear hb))
      go_ret
      exact ⟨ret_str rfl, HB.out⟩
end Go.Proofs.YtjglbadkbhopoaaGreatDoor
namespace Go.Proofs.YtjglbadkbhopoaaGreatDoor
open Go.RowKit
set_option maxRecDepth 100000
set_option maxHeartbeats 4000000
set_option linter.unusedVariables false
theorem okNum_c (w : World) : Calls Tryz.prog 58 #[.agg #[.int .i64 2, .int .i64 1, .string ⟨#[]⟩]] w fun e w' => e = .returned (.bool true) ∧ Below w.heap.size w w' := by
  go_enter Tryz.func58, Tryz.ntmps58
  go_wp2
  go_ret
  exact ⟨rfl, bel_alloc (Below.refl _ _) _⟩
theorem wrongNum_c (w : World) : Calls Tryz.prog 57 #[.agg #[.int .i64 2, .int .i64 1, .string ⟨#[]⟩]] w fun e w' => e = .returned (.bool false) ∧ Below w.heap.size w w' := by
  go_enter Tryz.func57, Tryz.ntmps57
  go_wp2_with (go_at_call 58; refine (okNum_c _).mono ?_; rintro e w1 ⟨rfl, hb⟩)
  go_ret
  exact ⟨rfl, bel_trans (bel_alloc (Below.refl _ _) _) hb⟩
theorem arNum_c (w : World) : Calls Tryz.prog 64 #[.agg #[.int .i64 2, .int .i64 1, .string ⟨#[]⟩]] w fun e w' => e = .returned (.int .i64 0) ∧ Below w.heap.size w w' := by
  go_enter Tryz.func64, Tryz.ntmps64
  go_wp2
  go_ret
  exact ⟨rfl, bel_alloc (Below.refl _ _) _⟩
theorem sizeNum_c (w : World) (b : Nat) (h : w.heap[b]? = some (.cells #[.int .i64 2, .int .i64 1, .string ⟨#[]⟩] 47 (0, 0))) : Calls Tryz.prog 60 #[.slice (some ⟨b, 0, none⟩) 1 1] w fun e w' => e = .returned (.int .i64 1) ∧ Below w.heap.size w w' := by
  have c0 := cell_of_row w b 0 _ _ _ h
  have c1 := cell_of_row w b 1 _ _ _ h
  have c2 := cell_of_row w b 2 _ _ _ h
  clear h
  go_enter Tryz.func60, Tryz.ntmps60
  go_wp2
  go_loopw [4, 3] (fun v4 v3 wr => ∃ i : Nat, v4 = .int .i64 i ∧ i ≤ 1 ∧ v3 = .int .i64 1 ∧ (i = 0 → wr = w) ∧ Hid (Below w.heap.size w wr)) (fun v4 _ _ => 1 - (intOf v4).toNat)
  case atStart => exact ⟨0, rfl, by omega, rfl, fun _ => rfl, Lib.hid (Below.refl _ _)⟩
  case round =>
    obtain ⟨i, rfl, hi, rfl, h0, HB⟩ := hrel
    by_cases hlt : i = 0
    · subst hlt
      obtain rfl := h0 rfl
      go_wp2_with (go_at_call 64; refine (arNum_c _).mono ?_; rintro e w1 ⟨rfl, hb⟩)
      exact ⟨⟨1, by go_num, by omega, by go_num, fun h => by omega, Lib.hid hb⟩, by simp [intOf]⟩
    · obtain rfl : i = 1 := by omega
      go_wp2
      go_ret
      exact ⟨rfl, HB.out⟩
theorem indexNum_c (w : World) (b : Nat) (h : w.heap[b]? = some (.cells #[.int .i64 2, .int .i64 1, .string ⟨#[]⟩] 47 (0, 0))) : Calls Tryz.prog 89 #[.slice (some ⟨b, 0, none⟩) 1 1, .func (.func 57) #[] #[]] w fun e w' => e = .returned (.int .i64 (-1)) ∧ Below w.heap.size w w' := by
  have c0 := cell_of_row w b 0 _ _ _ h
  have c1 := cell_of_row w b 1 _ _ _ h
  have c2 := cell_of_row w b 2 _ _ _ h
  clear h
  go_enter Tryz.func89, Tryz.ntmps89
  go_wp2
  go_loopw [8] (fun v8 wr => ∃ i : Nat, v8 = .int .i64 i ∧ i ≤ 1 ∧ (i = 0 → wr = w) ∧ Hid (Below w.heap.size w wr)) (fun v8 _ => 1 - (intOf v8).toNat)
  case atStart => exact ⟨0, rfl, by omega, fun _ => rfl, Lib.hid (Below.refl _ _)⟩
  case round =>
    obtain ⟨i, rfl, hi, h0, HB⟩ := hrel
    by_cases hlt : i = 0
    · subst hlt
      obtain rfl := h0 rfl
      go_wp2_with (go_at_call 57; refine (wrongNum_c _).mono ?_; rintro e w1 ⟨rfl, hb⟩)
      exact ⟨⟨1, by go_num, by omega, fun h => by omega, Lib.hid hb⟩, by simp [intOf]⟩
    · obtain rfl : i = 1 := by omega
      go_wp2
      go_ret
      exact ⟨rfl, HB.out⟩
theorem contNum_c (w : World) (b : Nat) (h : w.heap[b]? = some (.cells #[.int .i64 2, .int .i64 1, .string ⟨#[]⟩] 47 (0, 0))) : Calls Tryz.prog 59 #[.slice (some ⟨b, 0, none⟩) 1 1, .func (.func 57) #[] #[]] w fun e w' => e = .returned (.bool false) ∧ Below w.heap.size w w' := by
  have H1 := Lib.hid (indexNum_c w b h)
  clear h
  go_enter Tryz.func59, Tryz.ntmps59
  go_wp2_with (go_at_call 89; refine H1.out.mono ?_; rintro e w1 ⟨rfl, hb1⟩)
  go_ret
  exact ⟨rfl, hb1⟩
theorem inNum_c (w : World) : Calls Tryz.prog 38 #[.int .i64 1, .int .i64 1, .int .i64 40] w fun e w' => e = .returned (.bool true) ∧ w = w' := by
  go_enter Tryz.func38, Tryz.ntmps38
  go_wp2
  go_ret
  exact ⟨rfl, rfl⟩
theorem okTerm_c (w : World) (b : Nat) (h : w.heap[b]? = some (.cells #[.int .i64 2, .int .i64 1, .string ⟨#[]⟩] 47 (0, 0))) : Calls Tryz.prog 26 #[.slice (some ⟨b, 0, none⟩) 1 1] w fun e w' => e = .returned (.bool true) ∧ Below w.heap.size w w' := by
  have H1 := Lib.hid (contNum_c w b h)
  have H2 := Lib.hid h
  clear h
  go_enter Tryz.func26, Tryz.ntmps26
  go_wp2_with (first | (go_at_call 38; refine (inNum_c _).mono ?_; rintro e w1 ⟨rfl, rfl⟩) | (go_at_call 59; refine H1.out.mono ?_; rintro e w1 ⟨rfl, hb1⟩; have HB1 := Lib.hid hb1; clear hb1) | (go_at_call 60; refine (sizeNum_c _ _ (box_keep H2.out HB1.out)).mono ?_; rintro e w2 ⟨rfl, hb2⟩))
  go_ret
  exact ⟨rfl, bel_trans HB1.out hb2⟩
theorem caOk_c (w : World) : Calls Tryz.prog 9 #[] w fun e w' => e = .returned (.bool true) ∧ Below w.heap.size w w' := by
  have H1 := Lib.hid (okTerm_c _ _ (heap_alloc_new w (.cells #[.int .i64 2, .int .i64 1, .string ⟨#[]⟩] 47)))
  go_enter Tryz.func9, Tryz.ntmps9
  go_wp2_with (go_at_call 26; refine H1.out.mono ?_; rintro e w1 ⟨rfl, hb1⟩)
  go_ret
  exact ⟨rfl, bel_trans (bel_alloc (Below.refl _ _) _) hb1⟩
end Go.Proofs.YtjglbadkbhopoaaGreatDoor
namespace Go.Proofs.YtjglbadkbhopoaaGreatDoor
set_option linter.unusedVariables false
theorem dec_hd (u : Nat) : ∃ b r, Lib.decDigits u = b :: r ∧ isDig b = true := by
  cases h : Lib.decDigits u with
  | nil => exact absurd h (dec_ne u)
  | cons b r => exact ⟨b, r, rfl, List.all_eq_true.1 (dec_dig u) b (by rw [h]; exact List.mem_cons_self)⟩
theorem dig_le {b : UInt8} (h : isDig b = true) : 48 ≤ b.toNat ∧ b.toNat ≤ 57 := by
  unfold isDig at h
  simpa using h
theorem itoa_hd (n : Int) : ∃ b r, Lib.itoa n = b :: r ∧ b.toNat ≤ 57 := by
  unfold Lib.itoa
  split
  · exact ⟨_, _, rfl, by decide⟩
  · obtain ⟨b, r, h, hb⟩ := dec_hd n.toNat
    exact ⟨b, r, h, (dig_le hb).2⟩
theorem name_bs {s : ByteArray} (h : nameOk s = true) : (∀ b ∈ L s, 97 ≤ b.toNat ∧ b.toNat ≤ 122) ∧ L s ≠ [] := by
  unfold nameOk at h
  simp only [Bool.and_eq_true, decide_eq_true_eq] at h
  refine ⟨fun b hb => ?_, fun e => ?_⟩
  · have := List.all_eq_true.1 h.1.2 b hb
    unfold lower at this
    simpa using this
  · have := L_length s
    rw [e] at this
    have h1 := h.1.1.1
    simp at this; omega
theorem cell_parts {c : Cell} (h : cellOk c = true) : (c.k = 1 ∧ L c.s = [] ∧ 0 ≤ c.n) ∨ (c.k = 2 ∧ L c.s = []) ∨ (c.k = 3 ∧ nameOk c.s = true ∧ 0 ≤ c.n) := by
  unfold cellOk at h
  split at h
  · rename_i hk
    simp only [Bool.and_eq_true, decide_eq_true_eq] at h
    exact .inl ⟨hk, by unfold L; simpa using h.2, h.1.1⟩
  · split at h
    · rename_i hk
      simp only [Bool.and_eq_true, decide_eq_true_eq] at h
      exact .inr (.inl ⟨hk, by unfold L; simpa using h.2⟩)
    · split at h
      · rename_i hk
        simp only [Bool.and_eq_true, decide_eq_true_eq] at h
        exact .inr (.inr ⟨hk, h.2, h.1.1⟩)
      · cases h
end Go.Proofs.YtjglbadkbhopoaaGreatDoor
namespace Go.Proofs.YtjglbadkbhopoaaGreatDoor
open Go.RowKit
set_option maxRecDepth 100000
set_option maxHeartbeats 8000000
set_option linter.unusedVariables false
theorem outOk_ans {top t : Trm} (h : outOk top 2 t = true) : trmOk t = true := by
  unfold outOk at h
  split at h
  · cases h
  · split at h
    · omega
    · split at h
      · cases h
      · split at h
        · cases h
        · rename_i h1; simpa using h1
theorem outOk_nil {top t : Trm} {st : Int} (h : outOk top st t = true) (hs : st ≠ 2) : t = [] := by
  unfold outOk at h
  split at h
  · cases h
  · split at h
    · exact List.isEmpty_iff.1 h
    · first
      | cases h
      | (rw [if_pos hs] at h; cases h)
theorem outTxt_ans {top t : Trm} (h : outOk top 2 t = true) : outTxt top 2 t = B (textOf t) := by unfold outTxt; rw [h]; rfl
theorem txt_ne {t : Trm} (h : trmOk t = true) : txt t ≠ [] := by
  intro e
  obtain ⟨h1, h2, h3⟩ := trmOk_iff.1 h
  cases t with
  | nil => rw [Ms_nil] at h1; omega
  | cons c r =>
    rw [txt_cons h1] at e
    have e1 := (List.append_eq_nil_iff.1 e).1
    rw [List.all_cons, Bool.and_eq_true] at h3
    unfold wordB at e1
    rcases cell_parts h3.1 with ⟨hk, _⟩ | ⟨hk, _⟩ | ⟨hk, hn, _⟩
    · rw [if_pos hk] at e1; cases e1
    · rw [if_neg (by omega), if_pos hk] at e1
      obtain ⟨b, r', hb, -⟩ := itoa_hd c.n
      rw [hb] at e1; cases e1
    · rw [if_neg (by omega), if_neg (by omega)] at e1
      exact (name_bs hn).2 e1
theorem outTxt_ne {top t : Trm} {st : Int} (h : outOk top st t = true) : (outTxt top st t).toList ≠ [] := by
  rcases outOk_st h with rfl | rfl | rfl | rfl
  · rw [outTxt_ans h]
    unfold textOf
    rw [if_pos (outOk_ans h), Lib.toList_data]
    exact txt_ne (outOk_ans h)
  · rw [show outTxt top 3 t = ⟨#[110, 111, 110, 101]⟩ by unfold outTxt; rw [h]; rfl, Lib.toList_data]; decide
  · rw [show outTxt top 4 t = ⟨#[116, 111, 111, 32, 98, 105, 103]⟩ by unfold outTxt; rw [h]; rfl, Lib.toList_data]; decide
  · rw [show outTxt top 5 t = ⟨#[119, 114, 111, 110, 103]⟩ by unfold outTxt; rw [h]; rfl, Lib.toList_data]; decide
end Go.Proofs.YtjglbadkbhopoaaGreatDoor
namespace Go.Proofs.YtjglbadkbhopoaaGreatDoor
open Go.ChangeShapes Go.WideShapes Go.ChangeAt Go.RowKit
open Go.ChangeMaps (open_string shut_string)
set_option linter.unusedVariables false
set_option maxRecDepth 100000
theorem own : ownKnob Tryz.prog.godebug = none := by kernel_rfl
noncomputable def laidAll : List (String × DataW Unit) := [("math/bits.deBruijn32tab", Rows.laid_math_bits_deBruijn32tab), ("math/bits.deBruijn64tab", Rows.laid_math_bits_deBruijn64tab), ("internal/strconv.uint64pow10", Rows.laid_internal_strconv_uint64pow10), ("unicode/utf8.acceptRanges", Rows.laid_unicode_utf8_acceptRanges), ("unicode/utf8.first", Rows.laid_unicode_utf8_first)]
theorem tab_eq : (Rows.laid_internal_strconv_uint64pow10 : DataW Unit) = Lib.tabData .u64 Lib.pow10Tab := by kernel_rfl
theorem tab_of_laid {w : World} (hL : laidMetH Tryz.prog laidAll w) : Tab w := by
  rw [MakeChecks.laidMetH_plain _ _ _ (by kernel_rfl)] at hL
  have hL : laidMet Tryz.prog (("math/bits.deBruijn32tab", Rows.laid_math_bits_deBruijn32tab) :: ("math/bits.deBruijn64tab", Rows.laid_math_bits_deBruijn64tab) :: ("internal/strconv.uint64pow10", Rows.laid_internal_strconv_uint64pow10) :: ("unicode/utf8.acceptRanges", Rows.laid_unicode_utf8_acceptRanges) :: [("unicode/utf8.first", Rows.laid_unicode_utf8_first)]) w := hL
  have h2 := hL.tail.tail
  rw [tab_eq] at h2
  exact Lib.tabIs_of_head (g := 0) (by kernel_rfl) (by kernel_rfl) Tryz.underlying206 Tryz.underlying186 (by kernel_rfl) (by kernel_rfl) h2
noncomputable def laidWorld (os : Os) : World :=
  let w0 := World.doorLaid Tryz.prog 400 os
  { w0 with heap := w0.heap.modify 1 fun
    | .cells _ t frozen => .cells (Lib.firstTab.map fun z => Value.int .u8 z).toArray t frozen
    | o => o }
theorem door_met (os : Os) (args : Array Value) : laidMetH Tryz.prog laidAll ((laidWorld os).forCall (fun _ _ => 0) ⟨#[], args, []⟩).memory :=
  laidMetH_of_parts3 (fuel := 8) (laidMet_of_run' 8 (by kernel_rfl) (by kernel_rfl)) (by kernel_rfl) (by kernel_rfl)
end Go.Proofs.YtjglbadkbhopoaaGreatDoor
