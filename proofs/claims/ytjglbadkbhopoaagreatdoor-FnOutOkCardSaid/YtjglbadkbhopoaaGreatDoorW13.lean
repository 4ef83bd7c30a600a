/- Lemmas and contracts for FnOutOk, part 13. -/
import Derived.BigRegion
import Derived.Test.YtjglbadkbhopoaaGreatDoorW12
import Derived.Test.YtjglbadkbhopoaaGreatDoorW08
namespace Go.Proofs.YtjglbadkbhopoaaGreatDoor
open Go.RowKit
set_option maxRecDepth 100000
set_option maxHeartbeats 8000000
set_option linter.unusedVariables false
theorem put_4 {W : World} {gr t : Nat} {b0 b1 b2 b3 : Value} (hr : Bx W gr t #[b0, b1, b2, b3]) (u0 u1 u2 u3 : Value) :
    W.cell? ⟨gr, 0, none⟩ = some b0 ∧ W.frozen? ⟨gr, 0, none⟩ = false ∧ (W.setCell ⟨gr, 0, none⟩ u0).cell? ⟨gr, 1, none⟩ = some b1 ∧ (W.setCell ⟨gr, 0, none⟩ u0).frozen? ⟨gr, 1, none⟩ = false ∧ ((W.setCell ⟨gr, 0, none⟩ u0).setCell ⟨gr, 1, none⟩ u1).cell? ⟨gr, 2, none⟩ = some b2 ∧ ((W.setCell ⟨gr, 0, none⟩ u0).setCell ⟨gr, 1, none⟩ u1).frozen? ⟨gr, 2, none⟩ = false ∧ (((W.setCell ⟨gr, 0, none⟩ u0).setCell ⟨gr, 1, none⟩ u1).setCell ⟨gr, 2, none⟩ u2).cell? ⟨gr, 3, none⟩ = some b3 ∧ (((W.setCell ⟨gr, 0, none⟩ u0).setCell ⟨gr, 1, none⟩ u1).setCell ⟨gr, 2, none⟩ u2).frozen? ⟨gr, 3, none⟩ = false ∧ Hid (Bx ((((W.setCell ⟨gr, 0, none⟩ u0).setCell ⟨gr, 1, none⟩ u1).setCell ⟨gr, 2, none⟩ u2).setCell ⟨gr, 3, none⟩ u3) gr t #[u0, u1, u2, u3] ∧ KeepBut t W ((((W.setCell ⟨gr, 0, none⟩ u0).setCell ⟨gr, 1, none⟩ u1).setCell ⟨gr, 2, none⟩ u2).setCell ⟨gr, 3, none⟩ u3) ∧ ∀ B W0, B ≤ gr → Below B W0 W → Below B W0 ((((W.setCell ⟨gr, 0, none⟩ u0).setCell ⟨gr, 1, none⟩ u1).setCell ⟨gr, 2, none⟩ u2).setCell ⟨gr, 3, none⟩ u3)) := by
  have r1 : Bx (W.setCell ⟨gr, 0, none⟩ u0) gr t #[u0, b1, b2, b3] := Bx.put hr 0 u0
  have r2 : Bx ((W.setCell ⟨gr, 0, none⟩ u0).setCell ⟨gr, 1, none⟩ u1) gr t #[u0, u1, b2, b3] := Bx.put r1 1 u1
  have r3 : Bx (((W.setCell ⟨gr, 0, none⟩ u0).setCell ⟨gr, 1, none⟩ u1).setCell ⟨gr, 2, none⟩ u2) gr t #[u0, u1, u2, b3] := Bx.put r2 2 u2
  have r4 : Bx ((((W.setCell ⟨gr, 0, none⟩ u0).setCell ⟨gr, 1, none⟩ u1).setCell ⟨gr, 2, none⟩ u2).setCell ⟨gr, 3, none⟩ u3) gr t #[u0, u1, u2, u3] := Bx.put r3 3 u3
  exact ⟨Bx.cell hr 0, Bx.free hr 0, Bx.cell r1 1, Bx.free r1 1, Bx.cell r2 2, Bx.free r2 2, Bx.cell r3 3, Bx.free r3 3, Lib.hid ⟨r4, (((bx_but hr).trans (bx_but r1)).trans (bx_but r2)).trans (bx_but r3), fun B W0 hB h => Below.setCell (Below.setCell (Below.setCell (Below.setCell h hB _) hB _) hB _) hB _⟩⟩
theorem str_ne' {x y : ByteArray} (h : x ≠ y) : (x.toList == y.toList) = false := by
  rw [Lib.toList_data, Lib.toList_data]; exact beq_eq_false_iff_ne.2 (fun e => h (ByteArray.ext (Array.toList_inj.1 e)))
theorem two_strs {w : World} {x y : ByteArray} : Kd.str.S 9 (w.alloc (.cells #[.string x, .string y] 9)) (.slice (some ⟨w.heap.size, 0, none⟩) 2 2) [x, y] :=
  S_litn (d := Kd.str) rfl 9 (xs := [x, y]) (vs := [.string x, .string y]) rfl (by show 2 ≤ 2 ^ 63 - 1; decide) (fun i z hz => by
    match i, hz with
    | 0, hz => obtain rfl := Option.some.inj hz; exact ⟨_, rfl, rfl⟩
    | 1, hz => obtain rfl := Option.some.inj hz; exact ⟨_, rfl, rfl⟩
    | i + 2, hz => simp at hz)
theorem three_strs {w : World} {x y z : ByteArray} : Kd.str.S 9 (w.alloc (.cells #[.string x, .string y, .string z] 9)) (.slice (some ⟨w.heap.size, 0, none⟩) 3 3) [x, y, z] :=
  S_litn (d := Kd.str) rfl 9 (xs := [x, y, z]) (vs := [.string x, .string y, .string z]) rfl (by show 3 ≤ 2 ^ 63 - 1; decide) (fun i u hu => by
    match i, hu with
    | 0, hu => obtain rfl := Option.some.inj hu; exact ⟨_, rfl, rfl⟩
    | 1, hu => obtain rfl := Option.some.inj hu; exact ⟨_, rfl, rfl⟩
    | 2, hu => obtain rfl := Option.some.inj hu; exact ⟨_, rfl, rfl⟩
    | i + 3, hu => simp at hu)
def GrP (w : World) (e : Ending) (w' : World) : Prop := ∃ (g : Goal) (av bv cv : Value) (q : Bool), e = .returned (.tuple #[.agg #[.int .i64 g.k, av, bv, cv], .bool q]) ∧ T0 w' av g.a ∧ T0 w' bv g.b ∧ T0 w' cv g.c ∧ fitG g ∧ Below w.heap.size w w'
theorem fit40 {t : Trm} (h : t.length ≤ 40 ∧ ∀ c ∈ t, c.s.size ≤ 1000000) : fitT t := ⟨by omega, fun c hc => by have := h.2 c hc; omega⟩
theorem fit0 : fitT [] := ⟨Nat.zero_le _, fun c hc => by cases hc⟩
theorem grP_zero {w W : World} {v : Value} (hv : v = .agg #[.int .i64 0, .slice none 0 0, .slice none 0 0, .slice none 0 0]) (hb : Below w.heap.size w W) : GrP w (.returned (.tuple #[v, .bool false])) W := by
  subst hv
  exact ⟨⟨0, [], [], []⟩, _, _, _, _, rfl, Kd.S_nil _ _ _, Kd.S_nil _ _ _, Kd.S_nil _ _ _, ⟨fit0, fit0, fit0⟩, hb⟩
theorem gread_c (s : ByteArray) (w : World) (hs : s.size ≤ 100000) : Calls Tryz.prog 114 #[.string s] w (GrP w) := by
  have HB0 := Lib.hid (bel_alloc (Below.refl w.heap.size w) (.cells #[.int .i64 0, .slice none 0 0, .slice none 0 0, .slice none 0 0] 160))
  have HR0 := Lib.hid (Bx.new w 160 #[.int .i64 0, .slice none 0 0, .slice none 0 0, .slice none 0 0])
  have HWd := Lib.hid (fun W => wrd_c s W hs)
  by_cases h33 : s = ⟨#[33]⟩
  · subst h33
    go_enter Tryz.func114, Tryz.ntmps114
    go_upto_region 3 with (first | (go_at_call 111; (with_reducible refine (HWd.out _).mono ?_); rintro e w1 ⟨wv, ws, rfl, hws, hw1, hw2, hwz, hb'⟩; have HW1 := Lib.hid hws; have HWz := Lib.hid hwz; have HB1 := Lib.hid (bel_trans HB0.out hb'); have HR1 := Lib.hid (Bx.below HR0.out hb'); obtain ⟨WA, wn, rfl, -, -, -⟩ := hws; clear hwz hb') | fail)
    obtain ⟨m0, m1, m2, m3, m4, m5, m6, m7, HE⟩ := put_4 HR1.out (.int .i64 3) (.slice none 0 0) (.slice none 0 0) (.slice none 0 0)
    go_wp2
    refine ret_cell_tmp rfl rfl HE.out.1 Tryz.underlying160 rfl (by kernel_rfl) rfl ?_
    exact ⟨⟨3, [], [], []⟩, _, _, _, _, rfl, Kd.S_nil _ _ _, Kd.S_nil _ _ _, Kd.S_nil _ _ _, ⟨fit0, fit0, fit0⟩, HE.out.2.2 w.heap.size w (Nat.le_refl _) HB1.out⟩
  have e33 : (s.toList == [33]) = false := by have := str_ne' h33; rwa [show (⟨#[33]⟩ : ByteArray).toList = [33] from by rw [Lib.toList_data]] at this
  clear h33
  go_enter Tryz.func114, Tryz.ntmps114
  go_upto_region 4 with (first | (go_at_call 111; (with_reducible refine (HWd.out _).mono ?_); rintro e w1 ⟨wv, ws, rfl, hws, hw1, hw2, hwz, hb'⟩; have HW1 := Lib.hid hws; have HWz := Lib.hid hwz; have HB1 := Lib.hid (bel_trans HB0.out hb'); have HR1 := Lib.hid (Bx.below HR0.out hb'); obtain ⟨WA, wn, rfl, -, -, -⟩ := hws; clear hwz hb') | fail)
  obtain ⟨A', c', ev, a1, a2, hC⟩ := HW1.out
  injection ev with v1 v2 v3
  have hwn : ws.length ≤ wn := by omega
  have hwn0 : 1 ≤ wn := by omega
  have hz1 : w.heap.size < w1.heap.size := (Array.getElem?_eq_some_iff.1 HR1.out).1
  by_cases h1 : ws.length = 1
  · obtain ⟨x0, rfl⟩ : ∃ x0, ws = [x0] := by
      match ws, h1 with
      | [x], _ => exact ⟨x, rfl⟩
    have hwn1 : 1 ≤ wn := hwn
    clear hwn
    clear h1 hw1 hw2 v1 v2 v3 hC
    have HB2 := Lib.hid (bel_alloc HB1.out (.cells #[.int .i64 1, .slice none 0 0, .slice none 0 0, .slice none 0 0] 160))
    have HR2 := Lib.hid (Bx.alloc HR1.out (.cells #[.int .i64 1, .slice none 0 0, .slice none 0 0, .slice none 0 0] 160))
    have HG2 := Lib.hid (Bx.new w1 160 #[.int .i64 1, .slice none 0 0, .slice none 0 0, .slice none 0 0])
    have HW2 := Lib.hid (Kd.S_alloc (.cells #[.int .i64 1, .slice none 0 0, .slice none 0 0, .slice none 0 0] 160) HW1.out)
    go_upto_region 17 with (fail)
    generalize w1.alloc (.cells #[.int .i64 1, .slice none 0 0, .slice none 0 0, .slice none 0 0] 160) = w2 at *
    have HL6 := Lib.hid (show Kd.str.S 9 w2 (.slice WA 1 wn) [x0] from HW2.out)
    have HRd := Lib.hid (read3_c [x0] _ w2 HL6.out (show 1 ≤ 10 by decide) (fun x hx => by have := HWz.out x hx; omega))
    go_upto_region 18 with (first | (go_at_call 138; (with_reducible refine HRd.out.mono ?_); rintro e w5 ⟨tv, ts, q, rfl, hts, hl1, hl2, hfit, hb'⟩; have HT5 := Lib.hid hts; have HF5 := Lib.hid hfit; have HL5 := Lib.hid hl2; have HB5 := Lib.hid (bel_trans HB2.out hb'); have HR5 := Lib.hid (Bx.below HR2.out hb'); have HG5 := Lib.hid (Bx.below HG2.out hb'); obtain ⟨TA, tn, rfl, -, -, -⟩ := hts; clear hl2 hfit hb') | fail)
    cases q with
    | false =>
      obtain ⟨m0, m1, m2, m3, m4, m5, m6, m7, HE⟩ := put_4 HR5.out (.int .i64 0) (.slice none 0 0) (.slice none 0 0) (.slice none 0 0)
      go_wp2
      refine ret_cell_tmp rfl rfl HE.out.1 Tryz.underlying160 rfl (by kernel_rfl) rfl ?_
      exact grP_zero rfl (HE.out.2.2 w.heap.size w (Nat.le_refl _) HB5.out)
    | true =>
      have hts : ts.length = 1 := HL5.out rfl
      obtain ⟨t0, rfl⟩ : ∃ t0, ts = [t0] := by
        match ts, hts with
        | [t0], _ => exact ⟨_, rfl⟩
      clear hts hl1
      obtain ⟨B', d', eb, _, _, hD⟩ := HT5.out
      injection eb with u1 u2 u3
      obtain ⟨bd, tv0, hBB, k0, s0⟩ := trm_at hD (i := 0) (t := t0) rfl
      rw [add_zero'] at k0
      obtain rfl := u1.trans hBB
      have HS0 := Lib.hid s0
      obtain ⟨T0A, n0, rfl, -, -, -⟩ := s0
      have hne : bd.block ≠ w1.heap.size := fun e => by
        obtain ⟨ad', cs', cells', fz', ea', hh', -⟩ := hD 0 t0 rfl
        obtain rfl : bd = ad' := Option.some.inj (hBB.symm.trans ea')
        rw [e] at hh'
        have hx := hh'.symm.trans HG5.out
        injection hx with hx
        injection hx with _ hx
        exact absurd hx (by decide)
      clear hD u1 u2 u3 hBB
      have p1 := Bx.at' HG5.out 1 (.slice none 0 0) rfl
      have f1 := Bx.free HG5.out 1
      have HG5_1 : Hid (Bx (w5.setCell ⟨w1.heap.size, 1, none⟩ (.slice T0A t0.length n0)) w1.heap.size 160 #[.int .i64 1, .slice T0A t0.length n0, .slice none 0 0, .slice none 0 0]) := Lib.hid (Bx.put HG5.out 1 (.slice T0A t0.length n0))
      have HR5_1 := Lib.hid (Bx.far HR5.out (g' := w1.heap.size) (by omega) 1 (.slice T0A t0.length n0))
      have HB5_1 := Lib.hid (show Below w.heap.size w (w5.setCell ⟨w1.heap.size, 1, none⟩ (.slice T0A t0.length n0)) from HB5.out.setCell (Nat.le_of_lt hz1) _)
      have HK5_1 := Lib.hid (bx_but (j := 1) (u := .slice T0A t0.length n0) HG5.out)
      have g_0 := Bx.at' HG5_1.out 0 (.int .i64 1) rfl
      have g_1 := Bx.at' HG5_1.out 1 (.slice T0A t0.length n0) rfl
      have g_2 := Bx.at' HG5_1.out 2 (.slice none 0 0) rfl
      have g_3 := Bx.at' HG5_1.out 3 (.slice none 0 0) rfl
      have HZ0 := Lib.hid (show T0 (w5.setCell ⟨w1.heap.size, 1, none⟩ (.slice T0A t0.length n0)) (.slice T0A t0.length n0) t0 from HK5_1.out.S HS0.out (by decide))
      have HZ1 := Lib.hid (show T0 (w5.setCell ⟨w1.heap.size, 1, none⟩ (.slice T0A t0.length n0)) (.slice none 0 0) [] from Kd.S_nil _ _ _)
      have HZ2 := Lib.hid (show T0 (w5.setCell ⟨w1.heap.size, 1, none⟩ (.slice T0A t0.length n0)) (.slice none 0 0) [] from Kd.S_nil _ _ _)
      have HGo := Lib.hid (goalS_c 1 t0 [] [] _ _ _ (w5.setCell ⟨w1.heap.size, 1, none⟩ (.slice T0A t0.length n0)) HZ0.out HZ1.out HZ2.out (by have := (HF5.out t0 (by simp)).1; omega) (Nat.zero_le _) (Nat.zero_le _))
      obtain ⟨qg, hqg⟩ : ∃ qg, goalOk 1 t0 [] [] = qg := ⟨_, rfl⟩
      rw [hqg] at HGo
      clear hqg
      cases qg with
      | false =>
        go_upto_region 26 with (first | (go_at_call 139; (with_reducible refine HGo.out.mono ?_); rintro e w6 ⟨rfl, hb'⟩; have HB6 := Lib.hid (bel_trans HB5_1.out hb'); have HR6 := Lib.hid (Bx.below HR5_1.out hb'); have HG6 := Lib.hid (Bx.below HG5_1.out hb'); have HY0 := Lib.hid (Kd.S_ext hb' HZ0.out); have HY1 := Lib.hid (Kd.S_ext hb' HZ1.out); have HY2 := Lib.hid (Kd.S_ext hb' HZ2.out); clear hb') | fail)
        obtain ⟨m0, m1, m2, m3, m4, m5, m6, m7, HE⟩ := put_4 HR6.out (.int .i64 0) (.slice none 0 0) (.slice none 0 0) (.slice none 0 0)
        go_wp2
        refine ret_cell_tmp rfl rfl HE.out.1 Tryz.underlying160 rfl (by kernel_rfl) rfl ?_
        exact grP_zero rfl (HE.out.2.2 w.heap.size w (Nat.le_refl _) HB6.out)
      | true =>
        go_upto_region 27 with (first | (go_at_call 139; (with_reducible refine HGo.out.mono ?_); rintro e w6 ⟨rfl, hb'⟩; have HB6 := Lib.hid (bel_trans HB5_1.out hb'); have HR6 := Lib.hid (Bx.below HR5_1.out hb'); have HG6 := Lib.hid (Bx.below HG5_1.out hb'); have HY0 := Lib.hid (Kd.S_ext hb' HZ0.out); have HY1 := Lib.hid (Kd.S_ext hb' HZ1.out); have HY2 := Lib.hid (Kd.S_ext hb' HZ2.out); clear hb') | fail)
        have y_0 := Bx.at' HG6.out 0 (.int .i64 1) rfl
        have y_1 := Bx.at' HG6.out 1 (.slice T0A t0.length n0) rfl
        have y_2 := Bx.at' HG6.out 2 (.slice none 0 0) rfl
        have y_3 := Bx.at' HG6.out 3 (.slice none 0 0) rfl
        obtain ⟨m0, m1, m2, m3, m4, m5, m6, m7, HE⟩ := put_4 HR6.out (.int .i64 1) (.slice T0A t0.length n0) (.slice none 0 0) (.slice none 0 0)
        go_wp2
        refine ret_cell_tmp rfl rfl HE.out.1 Tryz.underlying160 rfl (by kernel_rfl) rfl ?_
        exact ⟨⟨1, t0, [], []⟩, _, _, _, _, rfl, HE.out.2.1.S HY0.out (by decide), HE.out.2.1.S HY1.out (by decide), HE.out.2.1.S HY2.out (by decide), ⟨fit40 (HF5.out t0 (by simp)), fit0, fit0⟩, HE.out.2.2 w.heap.size w (Nat.le_refl _) HB6.out⟩
  by_cases h3 : ws.length = 3
  · rw [h3] at HW1 ⊢
    obtain ⟨x0, x1, x2, rfl⟩ : ∃ x0 x1 x2, ws = [x0, x1, x2] := by
      match ws, h3 with
      | [x, y, z], _ => exact ⟨x, y, z, rfl⟩
    have hwn1 : 3 ≤ wn := hwn
    clear h1 h3 hw1 hw2 v1 v2 v3 hC hwn
    by_cases q1 : x1 = ⟨#[61]⟩
    · subst q1
      have HB2 := Lib.hid (bel_alloc HB1.out (.cells #[.int .i64 2, .slice none 0 0, .slice none 0 0, .slice none 0 0] 160))
      have HR2 := Lib.hid (Bx.alloc HR1.out (.cells #[.int .i64 2, .slice none 0 0, .slice none 0 0, .slice none 0 0] 160))
      have HG2 := Lib.hid (Bx.new w1 160 #[.int .i64 2, .slice none 0 0, .slice none 0 0, .slice none 0 0])
      have HW2 := Lib.hid (Kd.S_alloc (.cells #[.int .i64 2, .slice none 0 0, .slice none 0 0, .slice none 0 0] 160) HW1.out)
      go_upto_region 6 with (fail)
      obtain ⟨A2, c2', ev2, _, _, hC2⟩ := HW1.out
      injection ev2 with v4 v5 v6
      obtain ⟨ad, hAA, c0⟩ := str_at hC2 (i := 0) (x := x0) rfl
      rw [add_zero'] at c0
      obtain rfl := v4.trans hAA
      obtain ⟨ad1, hA1, c1⟩ := str_at hC2 (i := 1) (x := ⟨#[61]⟩) rfl
      obtain rfl : ad = ad1 := Option.some.inj (hAA.symm.trans hA1)
      obtain ⟨ad2, hA2, c2⟩ := str_at hC2 (i := 2) (x := x2) rfl
      obtain rfl : ad = ad2 := Option.some.inj (hAA.symm.trans hA2)
      clear hC2 v4 v5 v6 hAA
      have o0 : ∀ o, (w1.alloc o).cell? ad = some (.string x0) := fun o => cell_keep (bel_alloc (Below.refl _ _) o) c0
      have o1 : ∀ o, (w1.alloc o).cell? ⟨ad.block, ad.off + 1, none⟩ = some (.string ⟨#[61]⟩) := fun o => cell_keep (bel_alloc (Below.refl _ _) o) c1
      have o2 : ∀ o, (w1.alloc o).cell? ⟨ad.block, ad.off + 2, none⟩ = some (.string x2) := fun o => cell_keep (bel_alloc (Below.refl _ _) o) c2
      go_upto_region 8 with (fail)
      have d0 := o0 (.cells #[.int .i64 2, .slice none 0 0, .slice none 0 0, .slice none 0 0] 160)
      have d1 := o1 (.cells #[.int .i64 2, .slice none 0 0, .slice none 0 0, .slice none 0 0] 160)
      have d2 := o2 (.cells #[.int .i64 2, .slice none 0 0, .slice none 0 0, .slice none 0 0] 160)
      clear o0 c0 o1 c1 o2 c2
      generalize w1.alloc (.cells #[.int .i64 2, .slice none 0 0, .slice none 0 0, .slice none 0 0] 160) = w2 at *
      go_region
      have HL6 := Lib.hid (show Kd.str.S 9 ((w2.alloc (.cells #[.string x0, .string x2] 9)).drew) (.slice (some ⟨w2.heap.size, 0, none⟩) 2 2) [x0, x2] from Kd.S_ext (bel_drew (Below.refl _ _)) (two_strs (w := w2)))
      have HB3 := Lib.hid (bel_trans (bel_alloc HB2.out (.cells #[.string x0, .string x2] 9)) (bel_drew (Below.refl _ _)))
      have HR3 := Lib.hid (Bx.below (Bx.alloc HR2.out (.cells #[.string x0, .string x2] 9)) (bel_drew (Below.refl _ _)))
      have HG3 := Lib.hid (Bx.below (Bx.alloc HG2.out (.cells #[.string x0, .string x2] 9)) (bel_drew (Below.refl _ _)))
      generalize (w2.alloc (.cells #[.string x0, .string x2] 9)).drew = wl at *
      have HRd := Lib.hid (read3_c [x0, x2] _ wl HL6.out (show 2 ≤ 10 by decide) (fun x hx => by have := HWz.out x (by simp only [List.mem_cons, List.mem_nil_iff, or_false] at hx ⊢; rcases hx with rfl | rfl <;> simp); omega))
      go_upto_region 18 with (first | (go_at_call 138; (with_reducible refine HRd.out.mono ?_); rintro e w5 ⟨tv, ts, q, rfl, hts, hl1, hl2, hfit, hb'⟩; have HT5 := Lib.hid hts; have HF5 := Lib.hid hfit; have HL5 := Lib.hid hl2; have HB5 := Lib.hid (bel_trans HB3.out hb'); have HR5 := Lib.hid (Bx.below HR3.out hb'); have HG5 := Lib.hid (Bx.below HG3.out hb'); obtain ⟨TA, tn, rfl, -, -, -⟩ := hts; clear hl2 hfit hb') | fail)
      cases q with
      | false =>
        obtain ⟨m0, m1, m2, m3, m4, m5, m6, m7, HE⟩ := put_4 HR5.out (.int .i64 0) (.slice none 0 0) (.slice none 0 0) (.slice none 0 0)
        go_wp2
        refine ret_cell_tmp rfl rfl HE.out.1 Tryz.underlying160 rfl (by kernel_rfl) rfl ?_
        exact grP_zero rfl (HE.out.2.2 w.heap.size w (Nat.le_refl _) HB5.out)
      | true =>
        have hts : ts.length = 2 := HL5.out rfl
        obtain ⟨t0, t1, rfl⟩ : ∃ t0 t1, ts = [t0, t1] := by
          match ts, hts with
          | [t0, t1], _ => exact ⟨_, _, rfl⟩
        clear hts hl1
        obtain ⟨B', d', eb, _, _, hD⟩ := HT5.out
        injection eb with u1 u2 u3
        obtain ⟨bd, tv0, hBB, k0, s0⟩ := trm_at hD (i := 0) (t := t0) rfl
        rw [add_zero'] at k0
        obtain rfl := u1.trans hBB
        have HS0 := Lib.hid s0
        obtain ⟨T0A, n0, rfl, -, -, -⟩ := s0
        obtain ⟨bd1, tv1, hB1, k1, s1⟩ := trm_at hD (i := 1) (t := t1) rfl
        obtain rfl : bd = bd1 := Option.some.inj (hBB.symm.trans hB1)
        have HS1 := Lib.hid s1
        obtain ⟨T1A, n1, rfl, -, -, -⟩ := s1
        have hne : bd.block ≠ w1.heap.size := fun e => by
          obtain ⟨ad', cs', cells', fz', ea', hh', -⟩ := hD 0 t0 rfl
          obtain rfl : bd = ad' := Option.some.inj (hBB.symm.trans ea')
          rw [e] at hh'
          have hx := hh'.symm.trans HG5.out
          injection hx with hx
          injection hx with _ hx
          exact absurd hx (by decide)
        have k1 : w5.cell? ⟨bd.block, bd.off + 1, none⟩ = some (.slice T1A t1.length n1) := k1
        clear hD u1 u2 u3 hBB
        have p1 := Bx.at' HG5.out 1 (.slice none 0 0) rfl
        have f1 := Bx.free HG5.out 1
        have HG5_1 : Hid (Bx (w5.setCell ⟨w1.heap.size, 1, none⟩ (.slice T0A t0.length n0)) w1.heap.size 160 #[.int .i64 2, .slice T0A t0.length n0, .slice none 0 0, .slice none 0 0]) := Lib.hid (Bx.put HG5.out 1 (.slice T0A t0.length n0))
        have HR5_1 := Lib.hid (Bx.far HR5.out (g' := w1.heap.size) (by omega) 1 (.slice T0A t0.length n0))
        have HB5_1 := Lib.hid (show Below w.heap.size w (w5.setCell ⟨w1.heap.size, 1, none⟩ (.slice T0A t0.length n0)) from HB5.out.setCell (Nat.le_of_lt hz1) _)
        have HK5_1 := Lib.hid (bx_but (j := 1) (u := .slice T0A t0.length n0) HG5.out)
        have k1_1 : (w5.setCell ⟨w1.heap.size, 1, none⟩ (.slice T0A t0.length n0)).cell? ⟨bd.block, bd.off + 1, none⟩ = _ := (World.cell?_of_block (heap_setCell_other _ _ _ _ hne)).trans k1
        have p2 := Bx.at' HG5_1.out 2 (.slice none 0 0) rfl
        have f2 := Bx.free HG5_1.out 2
        have HG5_2 : Hid (Bx ((w5.setCell ⟨w1.heap.size, 1, none⟩ (.slice T0A t0.length n0)).setCell ⟨w1.heap.size, 2, none⟩ (.slice T1A t1.length n1)) w1.heap.size 160 #[.int .i64 2, .slice T0A t0.length n0, .slice T1A t1.length n1, .slice none 0 0]) := Lib.hid (Bx.put HG5_1.out 2 (.slice T1A t1.length n1))
        have HR5_2 := Lib.hid (Bx.far HR5_1.out (g' := w1.heap.size) (by omega) 2 (.slice T1A t1.length n1))
        have HB5_2 := Lib.hid (show Below w.heap.size w ((w5.setCell ⟨w1.heap.size, 1, none⟩ (.slice T0A t0.length n0)).setCell ⟨w1.heap.size, 2, none⟩ (.slice T1A t1.length n1)) from HB5_1.out.setCell (Nat.le_of_lt hz1) _)
        have HK5_2 := Lib.hid (HK5_1.out.trans (bx_but (j := 2) (u := .slice T1A t1.length n1) HG5_1.out))
        have g_0 := Bx.at' HG5_2.out 0 (.int .i64 2) rfl
        have g_1 := Bx.at' HG5_2.out 1 (.slice T0A t0.length n0) rfl
        have g_2 := Bx.at' HG5_2.out 2 (.slice T1A t1.length n1) rfl
        have g_3 := Bx.at' HG5_2.out 3 (.slice none 0 0) rfl
        have HZ0 := Lib.hid (show T0 ((w5.setCell ⟨w1.heap.size, 1, none⟩ (.slice T0A t0.length n0)).setCell ⟨w1.heap.size, 2, none⟩ (.slice T1A t1.length n1)) (.slice T0A t0.length n0) t0 from HK5_2.out.S HS0.out (by decide))
        have HZ1 := Lib.hid (show T0 ((w5.setCell ⟨w1.heap.size, 1, none⟩ (.slice T0A t0.length n0)).setCell ⟨w1.heap.size, 2, none⟩ (.slice T1A t1.length n1)) (.slice T1A t1.length n1) t1 from HK5_2.out.S HS1.out (by decide))
        have HZ2 := Lib.hid (show T0 ((w5.setCell ⟨w1.heap.size, 1, none⟩ (.slice T0A t0.length n0)).setCell ⟨w1.heap.size, 2, none⟩ (.slice T1A t1.length n1)) (.slice none 0 0) [] from Kd.S_nil _ _ _)
        have HGo := Lib.hid (goalS_c 2 t0 t1 [] _ _ _ ((w5.setCell ⟨w1.heap.size, 1, none⟩ (.slice T0A t0.length n0)).setCell ⟨w1.heap.size, 2, none⟩ (.slice T1A t1.length n1)) HZ0.out HZ1.out HZ2.out (by have := (HF5.out t0 (by simp)).1; omega) (by have := (HF5.out t1 (by simp)).1; omega) (Nat.zero_le _))
        obtain ⟨qg, hqg⟩ : ∃ qg, goalOk 2 t0 t1 [] = qg := ⟨_, rfl⟩
        rw [hqg] at HGo
        clear hqg
        cases qg with
        | false =>
          go_upto_region 26 with (first | (go_at_call 139; (with_reducible refine HGo.out.mono ?_); rintro e w6 ⟨rfl, hb'⟩; have HB6 := Lib.hid (bel_trans HB5_2.out hb'); have HR6 := Lib.hid (Bx.below HR5_2.out hb'); have HG6 := Lib.hid (Bx.below HG5_2.out hb'); have HY0 := Lib.hid (Kd.S_ext hb' HZ0.out); have HY1 := Lib.hid (Kd.S_ext hb' HZ1.out); have HY2 := Lib.hid (Kd.S_ext hb' HZ2.out); clear hb') | fail)
          obtain ⟨m0, m1, m2, m3, m4, m5, m6, m7, HE⟩ := put_4 HR6.out (.int .i64 0) (.slice none 0 0) (.slice none 0 0) (.slice none 0 0)
          go_wp2
          refine ret_cell_tmp rfl rfl HE.out.1 Tryz.underlying160 rfl (by kernel_rfl) rfl ?_
          exact grP_zero rfl (HE.out.2.2 w.heap.size w (Nat.le_refl _) HB6.out)
        | true =>
          go_upto_region 27 with (first | (go_at_call 139; (with_reducible refine HGo.out.mono ?_); rintro e w6 ⟨rfl, hb'⟩; have HB6 := Lib.hid (bel_trans HB5_2.out hb'); have HR6 := Lib.hid (Bx.below HR5_2.out hb'); have HG6 := Lib.hid (Bx.below HG5_2.out hb'); have HY0 := Lib.hid (Kd.S_ext hb' HZ0.out); have HY1 := Lib.hid (Kd.S_ext hb' HZ1.out); have HY2 := Lib.hid (Kd.S_ext hb' HZ2.out); clear hb') | fail)
          have y_0 := Bx.at' HG6.out 0 (.int .i64 2) rfl
          have y_1 := Bx.at' HG6.out 1 (.slice T0A t0.length n0) rfl
          have y_2 := Bx.at' HG6.out 2 (.slice T1A t1.length n1) rfl
          have y_3 := Bx.at' HG6.out 3 (.slice none 0 0) rfl
          obtain ⟨m0, m1, m2, m3, m4, m5, m6, m7, HE⟩ := put_4 HR6.out (.int .i64 2) (.slice T0A t0.length n0) (.slice T1A t1.length n1) (.slice none 0 0)
          go_wp2
          refine ret_cell_tmp rfl rfl HE.out.1 Tryz.underlying160 rfl (by kernel_rfl) rfl ?_
          exact ⟨⟨2, t0, t1, []⟩, _, _, _, _, rfl, HE.out.2.1.S HY0.out (by decide), HE.out.2.1.S HY1.out (by decide), HE.out.2.1.S HY2.out (by decide), ⟨fit40 (HF5.out t0 (by simp)), fit40 (HF5.out t1 (by simp)), fit0⟩, HE.out.2.2 w.heap.size w (Nat.le_refl _) HB6.out⟩
    have e61 : (x1.toList == [61]) = false := by have := str_ne' q1; rwa [show (⟨#[61]⟩ : ByteArray).toList = [61] from by rw [Lib.toList_data]] at this
    by_cases q2 : x1 = ⟨#[60]⟩
    · subst q2
      clear q1 e61
      have HB2 := Lib.hid (bel_alloc HB1.out (.cells #[.int .i64 4, .slice none 0 0, .slice none 0 0, .slice none 0 0] 160))
      have HR2 := Lib.hid (Bx.alloc HR1.out (.cells #[.int .i64 4, .slice none 0 0, .slice none 0 0, .slice none 0 0] 160))
      have HG2 := Lib.hid (Bx.new w1 160 #[.int .i64 4, .slice none 0 0, .slice none 0 0, .slice none 0 0])
      have HW2 := Lib.hid (Kd.S_alloc (.cells #[.int .i64 4, .slice none 0 0, .slice none 0 0, .slice none 0 0] 160) HW1.out)
      go_upto_region 6 with (fail)
      obtain ⟨A2, c2', ev2, _, _, hC2⟩ := HW1.out
      injection ev2 with v4 v5 v6
      obtain ⟨ad, hAA, c0⟩ := str_at hC2 (i := 0) (x := x0) rfl
      rw [add_zero'] at c0
      obtain rfl := v4.trans hAA
      obtain ⟨ad1, hA1, c1⟩ := str_at hC2 (i := 1) (x := ⟨#[60]⟩) rfl
      obtain rfl : ad = ad1 := Option.some.inj (hAA.symm.trans hA1)
      obtain ⟨ad2, hA2, c2⟩ := str_at hC2 (i := 2) (x := x2) rfl
      obtain rfl : ad = ad2 := Option.some.inj (hAA.symm.trans hA2)
      clear hC2 v4 v5 v6 hAA
      have o0 : ∀ o, (w1.alloc o).cell? ad = some (.string x0) := fun o => cell_keep (bel_alloc (Below.refl _ _) o) c0
      have o1 : ∀ o, (w1.alloc o).cell? ⟨ad.block, ad.off + 1, none⟩ = some (.string ⟨#[60]⟩) := fun o => cell_keep (bel_alloc (Below.refl _ _) o) c1
      have o2 : ∀ o, (w1.alloc o).cell? ⟨ad.block, ad.off + 2, none⟩ = some (.string x2) := fun o => cell_keep (bel_alloc (Below.refl _ _) o) c2
      go_upto_region 11 with (fail)
      have d0 := o0 (.cells #[.int .i64 4, .slice none 0 0, .slice none 0 0, .slice none 0 0] 160)
      have d1 := o1 (.cells #[.int .i64 4, .slice none 0 0, .slice none 0 0, .slice none 0 0] 160)
      have d2 := o2 (.cells #[.int .i64 4, .slice none 0 0, .slice none 0 0, .slice none 0 0] 160)
      clear o0 c0 o1 c1 o2 c2
      generalize w1.alloc (.cells #[.int .i64 4, .slice none 0 0, .slice none 0 0, .slice none 0 0] 160) = w2 at *
      go_region
      have HL6 := Lib.hid (show Kd.str.S 9 ((w2.alloc (.cells #[.string x0, .string x2] 9)).drew) (.slice (some ⟨w2.heap.size, 0, none⟩) 2 2) [x0, x2] from Kd.S_ext (bel_drew (Below.refl _ _)) (two_strs (w := w2)))
      have HB3 := Lib.hid (bel_trans (bel_alloc HB2.out (.cells #[.string x0, .string x2] 9)) (bel_drew (Below.refl _ _)))
      have HR3 := Lib.hid (Bx.below (Bx.alloc HR2.out (.cells #[.string x0, .string x2] 9)) (bel_drew (Below.refl _ _)))
      have HG3 := Lib.hid (Bx.below (Bx.alloc HG2.out (.cells #[.string x0, .string x2] 9)) (bel_drew (Below.refl _ _)))
      generalize (w2.alloc (.cells #[.string x0, .string x2] 9)).drew = wl at *
      have HRd := Lib.hid (read3_c [x0, x2] _ wl HL6.out (show 2 ≤ 10 by decide) (fun x hx => by have := HWz.out x (by simp only [List.mem_cons, List.mem_nil_iff, or_false] at hx ⊢; rcases hx with rfl | rfl <;> simp); omega))
      go_upto_region 18 with (first | (go_at_call 138; (with_reducible refine HRd.out.mono ?_); rintro e w5 ⟨tv, ts, q, rfl, hts, hl1, hl2, hfit, hb'⟩; have HT5 := Lib.hid hts; have HF5 := Lib.hid hfit; have HL5 := Lib.hid hl2; have HB5 := Lib.hid (bel_trans HB3.out hb'); have HR5 := Lib.hid (Bx.below HR3.out hb'); have HG5 := Lib.hid (Bx.below HG3.out hb'); obtain ⟨TA, tn, rfl, -, -, -⟩ := hts; clear hl2 hfit hb') | fail)
      cases q with
      | false =>
        obtain ⟨m0, m1, m2, m3, m4, m5, m6, m7, HE⟩ := put_4 HR5.out (.int .i64 0) (.slice none 0 0) (.slice none 0 0) (.slice none 0 0)
        go_wp2
        refine ret_cell_tmp rfl rfl HE.out.1 Tryz.underlying160 rfl (by kernel_rfl) rfl ?_
        exact grP_zero rfl (HE.out.2.2 w.heap.size w (Nat.le_refl _) HB5.out)
      | true =>
        have hts : ts.length = 2 := HL5.out rfl
        obtain ⟨t0, t1, rfl⟩ : ∃ t0 t1, ts = [t0, t1] := by
          match ts, hts with
          | [t0, t1], _ => exact ⟨_, _, rfl⟩
        clear hts hl1
        obtain ⟨B', d', eb, _, _, hD⟩ := HT5.out
        injection eb with u1 u2 u3
        obtain ⟨bd, tv0, hBB, k0, s0⟩ := trm_at hD (i := 0) (t := t0) rfl
        rw [add_zero'] at k0
        obtain rfl := u1.trans hBB
        have HS0 := Lib.hid s0
        obtain ⟨T0A, n0, rfl, -, -, -⟩ := s0
        obtain ⟨bd1, tv1, hB1, k1, s1⟩ := trm_at hD (i := 1) (t := t1) rfl
        obtain rfl : bd = bd1 := Option.some.inj (hBB.symm.trans hB1)
        have HS1 := Lib.hid s1
        obtain ⟨T1A, n1, rfl, -, -, -⟩ := s1
        have hne : bd.block ≠ w1.heap.size := fun e => by
          obtain ⟨ad', cs', cells', fz', ea', hh', -⟩ := hD 0 t0 rfl
          obtain rfl : bd = ad' := Option.some.inj (hBB.symm.trans ea')
          rw [e] at hh'
          have hx := hh'.symm.trans HG5.out
          injection hx with hx
          injection hx with _ hx
          exact absurd hx (by decide)
        have k1 : w5.cell? ⟨bd.block, bd.off + 1, none⟩ = some (.slice T1A t1.length n1) := k1
        clear hD u1 u2 u3 hBB
        have p1 := Bx.at' HG5.out 1 (.slice none 0 0) rfl
        have f1 := Bx.free HG5.out 1
        have HG5_1 : Hid (Bx (w5.setCell ⟨w1.heap.size, 1, none⟩ (.slice T0A t0.length n0)) w1.heap.size 160 #[.int .i64 4, .slice T0A t0.length n0, .slice none 0 0, .slice none 0 0]) := Lib.hid (Bx.put HG5.out 1 (.slice T0A t0.length n0))
        have HR5_1 := Lib.hid (Bx.far HR5.out (g' := w1.heap.size) (by omega) 1 (.slice T0A t0.length n0))
        have HB5_1 := Lib.hid (show Below w.heap.size w (w5.setCell ⟨w1.heap.size, 1, none⟩ (.slice T0A t0.length n0)) from HB5.out.setCell (Nat.le_of_lt hz1) _)
        have HK5_1 := Lib.hid (bx_but (j := 1) (u := .slice T0A t0.length n0) HG5.out)
        have k1_1 : (w5.setCell ⟨w1.heap.size, 1, none⟩ (.slice T0A t0.length n0)).cell? ⟨bd.block, bd.off + 1, none⟩ = _ := (World.cell?_of_block (heap_setCell_other _ _ _ _ hne)).trans k1
        have p2 := Bx.at' HG5_1.out 2 (.slice none 0 0) rfl
        have f2 := Bx.free HG5_1.out 2
        have HG5_2 : Hid (Bx ((w5.setCell ⟨w1.heap.size, 1, none⟩ (.slice T0A t0.length n0)).setCell ⟨w1.heap.size, 2, none⟩ (.slice T1A t1.length n1)) w1.heap.size 160 #[.int .i64 4, .slice T0A t0.length n0, .slice T1A t1.length n1, .slice none 0 0]) := Lib.hid (Bx.put HG5_1.out 2 (.slice T1A t1.length n1))
        have HR5_2 := Lib.hid (Bx.far HR5_1.out (g' := w1.heap.size) (by omega) 2 (.slice T1A t1.length n1))
        have HB5_2 := Lib.hid (show Below w.heap.size w ((w5.setCell ⟨w1.heap.size, 1, none⟩ (.slice T0A t0.length n0)).setCell ⟨w1.heap.size, 2, none⟩ (.slice T1A t1.length n1)) from HB5_1.out.setCell (Nat.le_of_lt hz1) _)
        have HK5_2 := Lib.hid (HK5_1.out.trans (bx_but (j := 2) (u := .slice T1A t1.length n1) HG5_1.out))
        have g_0 := Bx.at' HG5_2.out 0 (.int .i64 4) rfl
        have g_1 := Bx.at' HG5_2.out 1 (.slice T0A t0.length n0) rfl
        have g_2 := Bx.at' HG5_2.out 2 (.slice T1A t1.length n1) rfl
        have g_3 := Bx.at' HG5_2.out 3 (.slice none 0 0) rfl
        have HZ0 := Lib.hid (show T0 ((w5.setCell ⟨w1.heap.size, 1, none⟩ (.slice T0A t0.length n0)).setCell ⟨w1.heap.size, 2, none⟩ (.slice T1A t1.length n1)) (.slice T0A t0.length n0) t0 from HK5_2.out.S HS0.out (by decide))
        have HZ1 := Lib.hid (show T0 ((w5.setCell ⟨w1.heap.size, 1, none⟩ (.slice T0A t0.length n0)).setCell ⟨w1.heap.size, 2, none⟩ (.slice T1A t1.length n1)) (.slice T1A t1.length n1) t1 from HK5_2.out.S HS1.out (by decide))
        have HZ2 := Lib.hid (show T0 ((w5.setCell ⟨w1.heap.size, 1, none⟩ (.slice T0A t0.length n0)).setCell ⟨w1.heap.size, 2, none⟩ (.slice T1A t1.length n1)) (.slice none 0 0) [] from Kd.S_nil _ _ _)
        have HGo := Lib.hid (goalS_c 4 t0 t1 [] _ _ _ ((w5.setCell ⟨w1.heap.size, 1, none⟩ (.slice T0A t0.length n0)).setCell ⟨w1.heap.size, 2, none⟩ (.slice T1A t1.length n1)) HZ0.out HZ1.out HZ2.out (by have := (HF5.out t0 (by simp)).1; omega) (by have := (HF5.out t1 (by simp)).1; omega) (Nat.zero_le _))
        obtain ⟨qg, hqg⟩ : ∃ qg, goalOk 4 t0 t1 [] = qg := ⟨_, rfl⟩
        rw [hqg] at HGo
        clear hqg
        cases qg with
        | false =>
          go_upto_region 26 with (first | (go_at_call 139; (with_reducible refine HGo.out.mono ?_); rintro e w6 ⟨rfl, hb'⟩; have HB6 := Lib.hid (bel_trans HB5_2.out hb'); have HR6 := Lib.hid (Bx.below HR5_2.out hb'); have HG6 := Lib.hid (Bx.below HG5_2.out hb'); have HY0 := Lib.hid (Kd.S_ext hb' HZ0.out); have HY1 := Lib.hid (Kd.S_ext hb' HZ1.out); have HY2 := Lib.hid (Kd.S_ext hb' HZ2.out); clear hb') | fail)
          obtain ⟨m0, m1, m2, m3, m4, m5, m6, m7, HE⟩ := put_4 HR6.out (.int .i64 0) (.slice none 0 0) (.slice none 0 0) (.slice none 0 0)
          go_wp2
          refine ret_cell_tmp rfl rfl HE.out.1 Tryz.underlying160 rfl (by kernel_rfl) rfl ?_
          exact grP_zero rfl (HE.out.2.2 w.heap.size w (Nat.le_refl _) HB6.out)
        | true =>
          go_upto_region 27 with (first | (go_at_call 139; (with_reducible refine HGo.out.mono ?_); rintro e w6 ⟨rfl, hb'⟩; have HB6 := Lib.hid (bel_trans HB5_2.out hb'); have HR6 := Lib.hid (Bx.below HR5_2.out hb'); have HG6 := Lib.hid (Bx.below HG5_2.out hb'); have HY0 := Lib.hid (Kd.S_ext hb' HZ0.out); have HY1 := Lib.hid (Kd.S_ext hb' HZ1.out); have HY2 := Lib.hid (Kd.S_ext hb' HZ2.out); clear hb') | fail)
          have y_0 := Bx.at' HG6.out 0 (.int .i64 4) rfl
          have y_1 := Bx.at' HG6.out 1 (.slice T0A t0.length n0) rfl
          have y_2 := Bx.at' HG6.out 2 (.slice T1A t1.length n1) rfl
          have y_3 := Bx.at' HG6.out 3 (.slice none 0 0) rfl
          obtain ⟨m0, m1, m2, m3, m4, m5, m6, m7, HE⟩ := put_4 HR6.out (.int .i64 4) (.slice T0A t0.length n0) (.slice T1A t1.length n1) (.slice none 0 0)
          go_wp2
          refine ret_cell_tmp rfl rfl HE.out.1 Tryz.underlying160 rfl (by kernel_rfl) rfl ?_
          exact ⟨⟨4, t0, t1, []⟩, _, _, _, _, rfl, HE.out.2.1.S HY0.out (by decide), HE.out.2.1.S HY1.out (by decide), HE.out.2.1.S HY2.out (by decide), ⟨fit40 (HF5.out t0 (by simp)), fit40 (HF5.out t1 (by simp)), fit0⟩, HE.out.2.2 w.heap.size w (Nat.le_refl _) HB6.out⟩
    have e60 : (x1.toList == [60]) = false := by have := str_ne' q2; rwa [show (⟨#[60]⟩ : ByteArray).toList = [60] from by rw [Lib.toList_data]] at this
    have HB2 := Lib.hid (bel_alloc HB1.out (.cells #[.int .i64 1, .slice none 0 0, .slice none 0 0, .slice none 0 0] 160))
    have HR2 := Lib.hid (Bx.alloc HR1.out (.cells #[.int .i64 1, .slice none 0 0, .slice none 0 0, .slice none 0 0] 160))
    have HG2 := Lib.hid (Bx.new w1 160 #[.int .i64 1, .slice none 0 0, .slice none 0 0, .slice none 0 0])
    have HW2 := Lib.hid (Kd.S_alloc (.cells #[.int .i64 1, .slice none 0 0, .slice none 0 0, .slice none 0 0] 160) HW1.out)
    go_upto_region 6 with (fail)
    obtain ⟨A2, c2', ev2, _, _, hC2⟩ := HW1.out
    injection ev2 with v4 v5 v6
    obtain ⟨ad, hAA, c0⟩ := str_at hC2 (i := 0) (x := x0) rfl
    rw [add_zero'] at c0
    obtain rfl := v4.trans hAA
    obtain ⟨ad1, hA1, c1⟩ := str_at hC2 (i := 1) (x := x1) rfl
    obtain rfl : ad = ad1 := Option.some.inj (hAA.symm.trans hA1)
    obtain ⟨ad2, hA2, c2⟩ := str_at hC2 (i := 2) (x := x2) rfl
    obtain rfl : ad = ad2 := Option.some.inj (hAA.symm.trans hA2)
    clear hC2 v4 v5 v6 hAA
    have o0 : ∀ o, (w1.alloc o).cell? ad = some (.string x0) := fun o => cell_keep (bel_alloc (Below.refl _ _) o) c0
    have o1 : ∀ o, (w1.alloc o).cell? ⟨ad.block, ad.off + 1, none⟩ = some (.string x1) := fun o => cell_keep (bel_alloc (Below.refl _ _) o) c1
    have o2 : ∀ o, (w1.alloc o).cell? ⟨ad.block, ad.off + 2, none⟩ = some (.string x2) := fun o => cell_keep (bel_alloc (Below.refl _ _) o) c2
    go_upto_region 16 with (fail)
    generalize w1.alloc (.cells #[.int .i64 1, .slice none 0 0, .slice none 0 0, .slice none 0 0] 160) = w2 at *
    obtain ⟨m0, m1, m2, m3, m4, m5, m6, m7, HE⟩ := put_4 HR2.out (.int .i64 0) (.slice none 0 0) (.slice none 0 0) (.slice none 0 0)
    go_wp2
    refine ret_cell_tmp rfl rfl HE.out.1 Tryz.underlying160 rfl (by kernel_rfl) rfl ?_
    exact grP_zero rfl (HE.out.2.2 w.heap.size w (Nat.le_refl _) HB2.out)
  by_cases h5 : ws.length = 5
  · rw [h5] at HW1 ⊢
    obtain ⟨x0, x1, x2, x3, x4, rfl⟩ : ∃ x0 x1 x2 x3 x4, ws = [x0, x1, x2, x3, x4] := by
      match ws, h5 with
      | [x, y, z, u, v], _ => exact ⟨x, y, z, u, v, rfl⟩
    have hwn1 : 5 ≤ wn := hwn
    clear h1 h3 h5 hw1 hw2 v1 v2 v3 hC hwn
    by_cases q1 : x1 = ⟨#[43]⟩
    · subst q1
      by_cases q2 : x3 = ⟨#[61]⟩
      · subst q2
        have HB2 := Lib.hid (bel_alloc HB1.out (.cells #[.int .i64 5, .slice none 0 0, .slice none 0 0, .slice none 0 0] 160))
        have HR2 := Lib.hid (Bx.alloc HR1.out (.cells #[.int .i64 5, .slice none 0 0, .slice none 0 0, .slice none 0 0] 160))
        have HG2 := Lib.hid (Bx.new w1 160 #[.int .i64 5, .slice none 0 0, .slice none 0 0, .slice none 0 0])
        have HW2 := Lib.hid (Kd.S_alloc (.cells #[.int .i64 5, .slice none 0 0, .slice none 0 0, .slice none 0 0] 160) HW1.out)
        go_upto_region 6 with (fail)
        obtain ⟨A2, c2', ev2, _, _, hC2⟩ := HW1.out
        injection ev2 with v4 v5 v6
        obtain ⟨ad, hAA, c0⟩ := str_at hC2 (i := 0) (x := x0) rfl
        rw [add_zero'] at c0
        obtain rfl := v4.trans hAA
        obtain ⟨ad1, hA1, c1⟩ := str_at hC2 (i := 1) (x := ⟨#[43]⟩) rfl
        obtain rfl : ad = ad1 := Option.some.inj (hAA.symm.trans hA1)
        obtain ⟨ad2, hA2, c2⟩ := str_at hC2 (i := 2) (x := x2) rfl
        obtain rfl : ad = ad2 := Option.some.inj (hAA.symm.trans hA2)
        obtain ⟨ad3, hA3, c3⟩ := str_at hC2 (i := 3) (x := ⟨#[61]⟩) rfl
        obtain rfl : ad = ad3 := Option.some.inj (hAA.symm.trans hA3)
        obtain ⟨ad4, hA4, c4⟩ := str_at hC2 (i := 4) (x := x4) rfl
        obtain rfl : ad = ad4 := Option.some.inj (hAA.symm.trans hA4)
        clear hC2 v4 v5 v6 hAA
        have o0 : ∀ o, (w1.alloc o).cell? ad = some (.string x0) := fun o => cell_keep (bel_alloc (Below.refl _ _) o) c0
        have o1 : ∀ o, (w1.alloc o).cell? ⟨ad.block, ad.off + 1, none⟩ = some (.string ⟨#[43]⟩) := fun o => cell_keep (bel_alloc (Below.refl _ _) o) c1
        have o2 : ∀ o, (w1.alloc o).cell? ⟨ad.block, ad.off + 2, none⟩ = some (.string x2) := fun o => cell_keep (bel_alloc (Below.refl _ _) o) c2
        have o3 : ∀ o, (w1.alloc o).cell? ⟨ad.block, ad.off + 3, none⟩ = some (.string ⟨#[61]⟩) := fun o => cell_keep (bel_alloc (Below.refl _ _) o) c3
        have o4 : ∀ o, (w1.alloc o).cell? ⟨ad.block, ad.off + 4, none⟩ = some (.string x4) := fun o => cell_keep (bel_alloc (Below.refl _ _) o) c4
        go_upto_region 14 with (fail)
        have d0 := o0 (.cells #[.int .i64 5, .slice none 0 0, .slice none 0 0, .slice none 0 0] 160)
        have d1 := o1 (.cells #[.int .i64 5, .slice none 0 0, .slice none 0 0, .slice none 0 0] 160)
        have d2 := o2 (.cells #[.int .i64 5, .slice none 0 0, .slice none 0 0, .slice none 0 0] 160)
        have d3 := o3 (.cells #[.int .i64 5, .slice none 0 0, .slice none 0 0, .slice none 0 0] 160)
        have d4 := o4 (.cells #[.int .i64 5, .slice none 0 0, .slice none 0 0, .slice none 0 0] 160)
        clear o0 c0 o1 c1 o2 c2 o3 c3 o4 c4
        generalize w1.alloc (.cells #[.int .i64 5, .slice none 0 0, .slice none 0 0, .slice none 0 0] 160) = w2 at *
        go_region
        have HL6 := Lib.hid (show Kd.str.S 9 ((w2.alloc (.cells #[.string x0, .string x2, .string x4] 9)).drew) (.slice (some ⟨w2.heap.size, 0, none⟩) 3 3) [x0, x2, x4] from Kd.S_ext (bel_drew (Below.refl _ _)) (three_strs (w := w2)))
        have HB3 := Lib.hid (bel_trans (bel_alloc HB2.out (.cells #[.string x0, .string x2, .string x4] 9)) (bel_drew (Below.refl _ _)))
        have HR3 := Lib.hid (Bx.below (Bx.alloc HR2.out (.cells #[.string x0, .string x2, .string x4] 9)) (bel_drew (Below.refl _ _)))
        have HG3 := Lib.hid (Bx.below (Bx.alloc HG2.out (.cells #[.string x0, .string x2, .string x4] 9)) (bel_drew (Below.refl _ _)))
        generalize (w2.alloc (.cells #[.string x0, .string x2, .string x4] 9)).drew = wl at *
        have HRd := Lib.hid (read3_c [x0, x2, x4] _ wl HL6.out (show 3 ≤ 10 by decide) (fun x hx => by have := HWz.out x (by simp only [List.mem_cons, List.mem_nil_iff, or_false] at hx ⊢; rcases hx with rfl | rfl | rfl <;> simp); omega))
        go_upto_region 18 with (first | (go_at_call 138; (with_reducible refine HRd.out.mono ?_); rintro e w5 ⟨tv, ts, q, rfl, hts, hl1, hl2, hfit, hb'⟩; have HT5 := Lib.hid hts; have HF5 := Lib.hid hfit; have HL5 := Lib.hid hl2; have HB5 := Lib.hid (bel_trans HB3.out hb'); have HR5 := Lib.hid (Bx.below HR3.out hb'); have HG5 := Lib.hid (Bx.below HG3.out hb'); obtain ⟨TA, tn, rfl, -, -, -⟩ := hts; clear hl2 hfit hb') | fail)
        cases q with
        | false =>
          obtain ⟨m0, m1, m2, m3, m4, m5, m6, m7, HE⟩ := put_4 HR5.out (.int .i64 0) (.slice none 0 0) (.slice none 0 0) (.slice none 0 0)
          go_wp2
          refine ret_cell_tmp rfl rfl HE.out.1 Tryz.underlying160 rfl (by kernel_rfl) rfl ?_
          exact grP_zero rfl (HE.out.2.2 w.heap.size w (Nat.le_refl _) HB5.out)
        | true =>
          have hts : ts.length = 3 := HL5.out rfl
          obtain ⟨t0, t1, t2, rfl⟩ : ∃ t0 t1 t2, ts = [t0, t1, t2] := by
            match ts, hts with
            | [t0, t1, t2], _ => exact ⟨_, _, _, rfl⟩
          clear hts hl1
          obtain ⟨B', d', eb, _, _, hD⟩ := HT5.out
          injection eb with u1 u2 u3
          obtain ⟨bd, tv0, hBB, k0, s0⟩ := trm_at hD (i := 0) (t := t0) rfl
          rw [add_zero'] at k0
          obtain rfl := u1.trans hBB
          have HS0 := Lib.hid s0
          obtain ⟨T0A, n0, rfl, -, -, -⟩ := s0
          obtain ⟨bd1, tv1, hB1, k1, s1⟩ := trm_at hD (i := 1) (t := t1) rfl
          obtain rfl : bd = bd1 := Option.some.inj (hBB.symm.trans hB1)
          have HS1 := Lib.hid s1
          obtain ⟨T1A, n1, rfl, -, -, -⟩ := s1
          obtain ⟨bd2, tv2, hB2, k2, s2⟩ := trm_at hD (i := 2) (t := t2) rfl
          obtain rfl : bd = bd2 := Option.some.inj (hBB.symm.trans hB2)
          have HS2 := Lib.hid s2
          obtain ⟨T2A, n2, rfl, -, -, -⟩ := s2
          have hne : bd.block ≠ w1.heap.size := fun e => by
            obtain ⟨ad', cs', cells', fz', ea', hh', -⟩ := hD 0 t0 rfl
            obtain rfl : bd = ad' := Option.some.inj (hBB.symm.trans ea')
            rw [e] at hh'
            have hx := hh'.symm.trans HG5.out
            injection hx with hx
            injection hx with _ hx
            exact absurd hx (by decide)
          have k1 : w5.cell? ⟨bd.block, bd.off + 1, none⟩ = some (.slice T1A t1.length n1) := k1
          have k2 : w5.cell? ⟨bd.block, bd.off + 2, none⟩ = some (.slice T2A t2.length n2) := k2
          clear hD u1 u2 u3 hBB
          have p1 := Bx.at' HG5.out 1 (.slice none 0 0) rfl
          have f1 := Bx.free HG5.out 1
          have HG5_1 : Hid (Bx (w5.setCell ⟨w1.heap.size, 1, none⟩ (.slice T0A t0.length n0)) w1.heap.size 160 #[.int .i64 5, .slice T0A t0.length n0, .slice none 0 0, .slice none 0 0]) := Lib.hid (Bx.put HG5.out 1 (.slice T0A t0.length n0))
          have HR5_1 := Lib.hid (Bx.far HR5.out (g' := w1.heap.size) (by omega) 1 (.slice T0A t0.length n0))
          have HB5_1 := Lib.hid (show Below w.heap.size w (w5.setCell ⟨w1.heap.size, 1, none⟩ (.slice T0A t0.length n0)) from HB5.out.setCell (Nat.le_of_lt hz1) _)
          have HK5_1 := Lib.hid (bx_but (j := 1) (u := .slice T0A t0.length n0) HG5.out)
          have k1_1 : (w5.setCell ⟨w1.heap.size, 1, none⟩ (.slice T0A t0.length n0)).cell? ⟨bd.block, bd.off + 1, none⟩ = _ := (World.cell?_of_block (heap_setCell_other _ _ _ _ hne)).trans k1
          have k2_1 : (w5.setCell ⟨w1.heap.size, 1, none⟩ (.slice T0A t0.length n0)).cell? ⟨bd.block, bd.off + 2, none⟩ = _ := (World.cell?_of_block (heap_setCell_other _ _ _ _ hne)).trans k2
          have p2 := Bx.at' HG5_1.out 2 (.slice none 0 0) rfl
          have f2 := Bx.free HG5_1.out 2
          have HG5_2 : Hid (Bx ((w5.setCell ⟨w1.heap.size, 1, none⟩ (.slice T0A t0.length n0)).setCell ⟨w1.heap.size, 2, none⟩ (.slice T1A t1.length n1)) w1.heap.size 160 #[.int .i64 5, .slice T0A t0.length n0, .slice T1A t1.length n1, .slice none 0 0]) := Lib.hid (Bx.put HG5_1.out 2 (.slice T1A t1.length n1))
          have HR5_2 := Lib.hid (Bx.far HR5_1.out (g' := w1.heap.size) (by omega) 2 (.slice T1A t1.length n1))
          have HB5_2 := Lib.hid (show Below w.heap.size w ((w5.setCell ⟨w1.heap.size, 1, none⟩ (.slice T0A t0.length n0)).setCell ⟨w1.heap.size, 2, none⟩ (.slice T1A t1.length n1)) from HB5_1.out.setCell (Nat.le_of_lt hz1) _)
          have HK5_2 := Lib.hid (HK5_1.out.trans (bx_but (j := 2) (u := .slice T1A t1.length n1) HG5_1.out))
          have k2_2 : ((w5.setCell ⟨w1.heap.size, 1, none⟩ (.slice T0A t0.length n0)).setCell ⟨w1.heap.size, 2, none⟩ (.slice T1A t1.length n1)).cell? ⟨bd.block, bd.off + 2, none⟩ = _ := (World.cell?_of_block (heap_setCell_other _ _ _ _ hne)).trans k2_1
          have p3 := Bx.at' HG5_2.out 3 (.slice none 0 0) rfl
          have f3 := Bx.free HG5_2.out 3
          have HG5_3 : Hid (Bx (((w5.setCell ⟨w1.heap.size, 1, none⟩ (.slice T0A t0.length n0)).setCell ⟨w1.heap.size, 2, none⟩ (.slice T1A t1.length n1)).setCell ⟨w1.heap.size, 3, none⟩ (.slice T2A t2.length n2)) w1.heap.size 160 #[.int .i64 5, .slice T0A t0.length n0, .slice T1A t1.length n1, .slice T2A t2.length n2]) := Lib.hid (Bx.put HG5_2.out 3 (.slice T2A t2.length n2))
          have HR5_3 := Lib.hid (Bx.far HR5_2.out (g' := w1.heap.size) (by omega) 3 (.slice T2A t2.length n2))
          have HB5_3 := Lib.hid (show Below w.heap.size w (((w5.setCell ⟨w1.heap.size, 1, none⟩ (.slice T0A t0.length n0)).setCell ⟨w1.heap.size, 2, none⟩ (.slice T1A t1.length n1)).setCell ⟨w1.heap.size, 3, none⟩ (.slice T2A t2.length n2)) from HB5_2.out.setCell (Nat.le_of_lt hz1) _)
          have HK5_3 := Lib.hid (HK5_2.out.trans (bx_but (j := 3) (u := .slice T2A t2.length n2) HG5_2.out))
          have g_0 := Bx.at' HG5_3.out 0 (.int .i64 5) rfl
          have g_1 := Bx.at' HG5_3.out 1 (.slice T0A t0.length n0) rfl
          have g_2 := Bx.at' HG5_3.out 2 (.slice T1A t1.length n1) rfl
          have g_3 := Bx.at' HG5_3.out 3 (.slice T2A t2.length n2) rfl
          have HZ0 := Lib.hid (show T0 (((w5.setCell ⟨w1.heap.size, 1, none⟩ (.slice T0A t0.length n0)).setCell ⟨w1.heap.size, 2, none⟩ (.slice T1A t1.length n1)).setCell ⟨w1.heap.size, 3, none⟩ (.slice T2A t2.length n2)) (.slice T0A t0.length n0) t0 from HK5_3.out.S HS0.out (by decide))
          have HZ1 := Lib.hid (show T0 (((w5.setCell ⟨w1.heap.size, 1, none⟩ (.slice T0A t0.length n0)).setCell ⟨w1.heap.size, 2, none⟩ (.slice T1A t1.length n1)).setCell ⟨w1.heap.size, 3, none⟩ (.slice T2A t2.length n2)) (.slice T1A t1.length n1) t1 from HK5_3.out.S HS1.out (by decide))
          have HZ2 := Lib.hid (show T0 (((w5.setCell ⟨w1.heap.size, 1, none⟩ (.slice T0A t0.length n0)).setCell ⟨w1.heap.size, 2, none⟩ (.slice T1A t1.length n1)).setCell ⟨w1.heap.size, 3, none⟩ (.slice T2A t2.length n2)) (.slice T2A t2.length n2) t2 from HK5_3.out.S HS2.out (by decide))
          have HGo := Lib.hid (goalS_c 5 t0 t1 t2 _ _ _ (((w5.setCell ⟨w1.heap.size, 1, none⟩ (.slice T0A t0.length n0)).setCell ⟨w1.heap.size, 2, none⟩ (.slice T1A t1.length n1)).setCell ⟨w1.heap.size, 3, none⟩ (.slice T2A t2.length n2)) HZ0.out HZ1.out HZ2.out (by have := (HF5.out t0 (by simp)).1; omega) (by have := (HF5.out t1 (by simp)).1; omega) (by have := (HF5.out t2 (by simp)).1; omega))
          obtain ⟨qg, hqg⟩ : ∃ qg, goalOk 5 t0 t1 t2 = qg := ⟨_, rfl⟩
          rw [hqg] at HGo
          clear hqg
          cases qg with
          | false =>
            go_upto_region 26 with (first | (go_at_call 139; (with_reducible refine HGo.out.mono ?_); rintro e w6 ⟨rfl, hb'⟩; have HB6 := Lib.hid (bel_trans HB5_3.out hb'); have HR6 := Lib.hid (Bx.below HR5_3.out hb'); have HG6 := Lib.hid (Bx.below HG5_3.out hb'); have HY0 := Lib.hid (Kd.S_ext hb' HZ0.out); have HY1 := Lib.hid (Kd.S_ext hb' HZ1.out); have HY2 := Lib.hid (Kd.S_ext hb' HZ2.out); clear hb') | fail)
            obtain ⟨m0, m1, m2, m3, m4, m5, m6, m7, HE⟩ := put_4 HR6.out (.int .i64 0) (.slice none 0 0) (.slice none 0 0) (.slice none 0 0)
            go_wp2
            refine ret_cell_tmp rfl rfl HE.out.1 Tryz.underlying160 rfl (by kernel_rfl) rfl ?_
            exact grP_zero rfl (HE.out.2.2 w.heap.size w (Nat.le_refl _) HB6.out)
          | true =>
            go_upto_region 27 with (first | (go_at_call 139; (with_reducible refine HGo.out.mono ?_); rintro e w6 ⟨rfl, hb'⟩; have HB6 := Lib.hid (bel_trans HB5_3.out hb'); have HR6 := Lib.hid (Bx.below HR5_3.out hb'); have HG6 := Lib.hid (Bx.below HG5_3.out hb'); have HY0 := Lib.hid (Kd.S_ext hb' HZ0.out); have HY1 := Lib.hid (Kd.S_ext hb' HZ1.out); have HY2 := Lib.hid (Kd.S_ext hb' HZ2.out); clear hb') | fail)
            have y_0 := Bx.at' HG6.out 0 (.int .i64 5) rfl
            have y_1 := Bx.at' HG6.out 1 (.slice T0A t0.length n0) rfl
            have y_2 := Bx.at' HG6.out 2 (.slice T1A t1.length n1) rfl
            have y_3 := Bx.at' HG6.out 3 (.slice T2A t2.length n2) rfl
            obtain ⟨m0, m1, m2, m3, m4, m5, m6, m7, HE⟩ := put_4 HR6.out (.int .i64 5) (.slice T0A t0.length n0) (.slice T1A t1.length n1) (.slice T2A t2.length n2)
            go_wp2
            refine ret_cell_tmp rfl rfl HE.out.1 Tryz.underlying160 rfl (by kernel_rfl) rfl ?_
            exact ⟨⟨5, t0, t1, t2⟩, _, _, _, _, rfl, HE.out.2.1.S HY0.out (by decide), HE.out.2.1.S HY1.out (by decide), HE.out.2.1.S HY2.out (by decide), ⟨fit40 (HF5.out t0 (by simp)), fit40 (HF5.out t1 (by simp)), fit40 (HF5.out t2 (by simp))⟩, HE.out.2.2 w.heap.size w (Nat.le_refl _) HB6.out⟩
      have e61 : (x3.toList == [61]) = false := by have := str_ne' q2; rwa [show (⟨#[61]⟩ : ByteArray).toList = [61] from by rw [Lib.toList_data]] at this
      have HB2 := Lib.hid (bel_alloc HB1.out (.cells #[.int .i64 1, .slice none 0 0, .slice none 0 0, .slice none 0 0] 160))
      have HR2 := Lib.hid (Bx.alloc HR1.out (.cells #[.int .i64 1, .slice none 0 0, .slice none 0 0, .slice none 0 0] 160))
      have HG2 := Lib.hid (Bx.new w1 160 #[.int .i64 1, .slice none 0 0, .slice none 0 0, .slice none 0 0])
      have HW2 := Lib.hid (Kd.S_alloc (.cells #[.int .i64 1, .slice none 0 0, .slice none 0 0, .slice none 0 0] 160) HW1.out)
      go_upto_region 6 with (fail)
      obtain ⟨A2, c2', ev2, _, _, hC2⟩ := HW1.out
      injection ev2 with v4 v5 v6
      obtain ⟨ad, hAA, c0⟩ := str_at hC2 (i := 0) (x := x0) rfl
      rw [add_zero'] at c0
      obtain rfl := v4.trans hAA
      obtain ⟨ad1, hA1, c1⟩ := str_at hC2 (i := 1) (x := ⟨#[43]⟩) rfl
      obtain rfl : ad = ad1 := Option.some.inj (hAA.symm.trans hA1)
      obtain ⟨ad2, hA2, c2⟩ := str_at hC2 (i := 2) (x := x2) rfl
      obtain rfl : ad = ad2 := Option.some.inj (hAA.symm.trans hA2)
      obtain ⟨ad3, hA3, c3⟩ := str_at hC2 (i := 3) (x := x3) rfl
      obtain rfl : ad = ad3 := Option.some.inj (hAA.symm.trans hA3)
      obtain ⟨ad4, hA4, c4⟩ := str_at hC2 (i := 4) (x := x4) rfl
      obtain rfl : ad = ad4 := Option.some.inj (hAA.symm.trans hA4)
      clear hC2 v4 v5 v6 hAA
      have o0 : ∀ o, (w1.alloc o).cell? ad = some (.string x0) := fun o => cell_keep (bel_alloc (Below.refl _ _) o) c0
      have o1 : ∀ o, (w1.alloc o).cell? ⟨ad.block, ad.off + 1, none⟩ = some (.string ⟨#[43]⟩) := fun o => cell_keep (bel_alloc (Below.refl _ _) o) c1
      have o2 : ∀ o, (w1.alloc o).cell? ⟨ad.block, ad.off + 2, none⟩ = some (.string x2) := fun o => cell_keep (bel_alloc (Below.refl _ _) o) c2
      have o3 : ∀ o, (w1.alloc o).cell? ⟨ad.block, ad.off + 3, none⟩ = some (.string x3) := fun o => cell_keep (bel_alloc (Below.refl _ _) o) c3
      have o4 : ∀ o, (w1.alloc o).cell? ⟨ad.block, ad.off + 4, none⟩ = some (.string x4) := fun o => cell_keep (bel_alloc (Below.refl _ _) o) c4
      go_upto_region 16 with (fail)
      generalize w1.alloc (.cells #[.int .i64 1, .slice none 0 0, .slice none 0 0, .slice none 0 0] 160) = w2 at *
      obtain ⟨m0, m1, m2, m3, m4, m5, m6, m7, HE⟩ := put_4 HR2.out (.int .i64 0) (.slice none 0 0) (.slice none 0 0) (.slice none 0 0)
      go_wp2
      refine ret_cell_tmp rfl rfl HE.out.1 Tryz.underlying160 rfl (by kernel_rfl) rfl ?_
      exact grP_zero rfl (HE.out.2.2 w.heap.size w (Nat.le_refl _) HB2.out)
    have e43 : (x1.toList == [43]) = false := by have := str_ne' q1; rwa [show (⟨#[43]⟩ : ByteArray).toList = [43] from by rw [Lib.toList_data]] at this
    have HB2 := Lib.hid (bel_alloc HB1.out (.cells #[.int .i64 1, .slice none 0 0, .slice none 0 0, .slice none 0 0] 160))
    have HR2 := Lib.hid (Bx.alloc HR1.out (.cells #[.int .i64 1, .slice none 0 0, .slice none 0 0, .slice none 0 0] 160))
    have HG2 := Lib.hid (Bx.new w1 160 #[.int .i64 1, .slice none 0 0, .slice none 0 0, .slice none 0 0])
    have HW2 := Lib.hid (Kd.S_alloc (.cells #[.int .i64 1, .slice none 0 0, .slice none 0 0, .slice none 0 0] 160) HW1.out)
    go_upto_region 6 with (fail)
    obtain ⟨A2, c2', ev2, _, _, hC2⟩ := HW1.out
    injection ev2 with v4 v5 v6
    obtain ⟨ad, hAA, c0⟩ := str_at hC2 (i := 0) (x := x0) rfl
    rw [add_zero'] at c0
    obtain rfl := v4.trans hAA
    obtain ⟨ad1, hA1, c1⟩ := str_at hC2 (i := 1) (x := x1) rfl
    obtain rfl : ad = ad1 := Option.some.inj (hAA.symm.trans hA1)
    obtain ⟨ad2, hA2, c2⟩ := str_at hC2 (i := 2) (x := x2) rfl
    obtain rfl : ad = ad2 := Option.some.inj (hAA.symm.trans hA2)
    obtain ⟨ad3, hA3, c3⟩ := str_at hC2 (i := 3) (x := x3) rfl
    obtain rfl : ad = ad3 := Option.some.inj (hAA.symm.trans hA3)
    obtain ⟨ad4, hA4, c4⟩ := str_at hC2 (i := 4) (x := x4) rfl
    obtain rfl : ad = ad4 := Option.some.inj (hAA.symm.trans hA4)
    clear hC2 v4 v5 v6 hAA
    have o0 : ∀ o, (w1.alloc o).cell? ad = some (.string x0) := fun o => cell_keep (bel_alloc (Below.refl _ _) o) c0
    have o1 : ∀ o, (w1.alloc o).cell? ⟨ad.block, ad.off + 1, none⟩ = some (.string x1) := fun o => cell_keep (bel_alloc (Below.refl _ _) o) c1
    have o2 : ∀ o, (w1.alloc o).cell? ⟨ad.block, ad.off + 2, none⟩ = some (.string x2) := fun o => cell_keep (bel_alloc (Below.refl _ _) o) c2
    have o3 : ∀ o, (w1.alloc o).cell? ⟨ad.block, ad.off + 3, none⟩ = some (.string x3) := fun o => cell_keep (bel_alloc (Below.refl _ _) o) c3
    have o4 : ∀ o, (w1.alloc o).cell? ⟨ad.block, ad.off + 4, none⟩ = some (.string x4) := fun o => cell_keep (bel_alloc (Below.refl _ _) o) c4
    go_upto_region 16 with (fail)
    generalize w1.alloc (.cells #[.int .i64 1, .slice none 0 0, .slice none 0 0, .slice none 0 0] 160) = w2 at *
    obtain ⟨m0, m1, m2, m3, m4, m5, m6, m7, HE⟩ := put_4 HR2.out (.int .i64 0) (.slice none 0 0) (.slice none 0 0) (.slice none 0 0)
    go_wp2
    refine ret_cell_tmp rfl rfl HE.out.1 Tryz.underlying160 rfl (by kernel_rfl) rfl ?_
    exact grP_zero rfl (HE.out.2.2 w.heap.size w (Nat.le_refl _) HB2.out)
  have n3 : ((ws.length : Int) == 3) = false := beq_eq_false_iff_ne.2 (by omega)
  have n5 : ((ws.length : Int) == 5) = false := beq_eq_false_iff_ne.2 (by omega)
  have n1 : ((ws.length : Int) != 1) = true := bne_iff_ne.2 (by omega)
  clear h1 h3 h5 hw2 v1 v2 v3 hC
  have hwm : (1 : Int) ≤ (ws.length : Int) := by omega
  have HB2 := Lib.hid (bel_alloc HB1.out (.cells #[.int .i64 1, .slice none 0 0, .slice none 0 0, .slice none 0 0] 160))
  have HR2 := Lib.hid (Bx.alloc HR1.out (.cells #[.int .i64 1, .slice none 0 0, .slice none 0 0, .slice none 0 0] 160))
  have HG2 := Lib.hid (Bx.new w1 160 #[.int .i64 1, .slice none 0 0, .slice none 0 0, .slice none 0 0])
  have HW2 := Lib.hid (Kd.S_alloc (.cells #[.int .i64 1, .slice none 0 0, .slice none 0 0, .slice none 0 0] 160) HW1.out)
  go_upto_region 16 with (fail)
  generalize w1.alloc (.cells #[.int .i64 1, .slice none 0 0, .slice none 0 0, .slice none 0 0] 160) = w2 at *
  obtain ⟨m0, m1, m2, m3, m4, m5, m6, m7, HE⟩ := put_4 HR2.out (.int .i64 0) (.slice none 0 0) (.slice none 0 0) (.slice none 0 0)
  go_wp2
  refine ret_cell_tmp rfl rfl HE.out.1 Tryz.underlying160 rfl (by kernel_rfl) rfl ?_
  exact grP_zero rfl (HE.out.2.2 w.heap.size w (Nat.le_refl _) HB2.out)
end Go.Proofs.YtjglbadkbhopoaaGreatDoor
