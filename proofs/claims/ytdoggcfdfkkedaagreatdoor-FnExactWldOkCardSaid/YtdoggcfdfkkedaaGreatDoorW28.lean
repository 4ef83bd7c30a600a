/- Lemmas and contracts for FnExactWldOk, part 28. -/
import Derived.Test.YtdoggcfdfkkedaaGreatDoorW26
import Derived.Test.YtdoggcfdfkkedaaGreatDoorW27
import Derived.Test.YtdoggcfdfkkedaaGreatDoorW10
import Derived.Test.YtdoggcfdfkkedaaGreatDoorW12
import Derived.Test.YtdoggcfdfkkedaaGreatDoorW13
import Derived.Test.YtdoggcfdfkkedaaGreatDoorW25
namespace Go.Proofs.YtdoggcfdfkkedaaGreatDoor
open Go.RowKit
set_option maxRecDepth 100000
set_option maxHeartbeats 8000000
set_option linter.unusedVariables false
theorem C_take {α : Type} {d : Kd α} {e : Nat} {w : World} {A : Option Addr} {xs : List α} (h : d.C e w A xs) (k : Nat) : d.C e w A (xs.take k) := fun i x hx => by
  rw [List.getElem?_take] at hx
  split at hx
  · exact h i x hx
  · cases hx
theorem agI_c (top : Trm) (b : Nat) (yv : Value) (x : Work) (v1 v2 v3 v4 v5 v6 : Value) (w : World) (hc : w.cell? ⟨b, 8, none⟩ = some yv) (hy : Kd.cell.S 112 w yv top) (h5 : T0 w v5 x.slv.top) (hl : top.length ≤ 1000000000) (hl' : x.slv.top.length ≤ 1000000000) :
    Calls Tryz.prog 65 #[.agg #[v1, .int .i64 x.want, .bool x.asked, .int .i64 x.slv.st, v2, v3, .int .i64 x.slv.vars, v4, v5, v6], .pointer (some ⟨b, 0, none⟩)] w fun e w' => e = .returned (.bool (decide (x.slv.top = top))) ∧ Below w.heap.size w w' := by
  have HX := Lib.hid (fun o => sameI_c x.slv.top top v5 yv (w.alloc o) (Kd.S_alloc o h5) (Kd.S_alloc o hy) hl' hl)
  have H0 := Lib.hid (fun o => bel_alloc (Below.refl _ w) o)
  have hcc : ∀ o, (w.alloc o).cell? ⟨b, 8, none⟩ = some yv := fun o => cell_keep (bel_alloc (Below.refl _ w) o) hc
  obtain ⟨q, hq⟩ : ∃ q, decide (x.slv.top = top) = q := ⟨_, rfl⟩
  rw [hq] at HX ⊢
  clear hq hy h5
  go_enter Tryz.func65, Tryz.ntmps65
  go_wp2_with (go_at_call 62; (with_reducible refine (HX.out _).mono ?_); rintro e w1 ⟨rfl, hb⟩)
  go_ret
  exact ⟨rfl, bel_trans (H0.out _) hb⟩
theorem netI_c (m : NMsg) (v1 : Value) (w : World) (h1 : Kd.byte.S 5 w v1 m.bytes) (hl : m.bytes.length ≤ 4000000) :
    Calls Tryz.prog 28 #[.agg #[.int .i64 m.dst, .bool m.bent, v1]] w fun e w' => e = .returned (.bool (!(netOk m))) ∧ Below w.heap.size w w' := by
  have H0 := Lib.hid (fun o => bel_alloc (Below.refl _ w) o)
  have HNe := Lib.hid (netOk_eq m)
  have HI := Lib.hid (fun W => imIn_c m.dst 0 3 W)
  obtain ⟨BA, bn, rfl, -, -, -⟩ := h1
  obtain ⟨qa, ea⟩ : ∃ q, (decide (0 ≤ m.dst) && decide (m.dst ≤ 3)) = q := ⟨_, rfl⟩
  obtain ⟨qb, eb⟩ : ∃ q, decide ((1104 : Int) < (m.bytes.length : Int)) = q := ⟨_, rfl⟩
  have ebn : decide (1104 < m.bytes.length) = qb := by rw [← eb]; by_cases h : 1104 < m.bytes.length <;> simp [h] <;> omega
  rw [ea, eb] at HNe
  rw [ea] at HI
  rw [HNe.out]
  clear ea HNe
  cases qa <;> cases qb
  all_goals
    go_enter Tryz.func28, Tryz.ntmps28
    go_wp2_with (go_at_call 29; (with_reducible refine (HI.out _).mono ?_); rintro e w4 ⟨rfl, rfl⟩)
    go_ret
    exact ⟨rfl, H0.out _⟩
theorem nodI_c (p : Prog) (node : Int) (n : Nod) (p1 p2 wv : Value) (w : World) (hp : PrR w p p1 p2) (hn : Kd.work.S 107 w wv n.works) (hfp : fitP p) (hf : fitN n) (hkw : ∀ x ∈ n.works, keysWf x.slv.binds) :
    Calls Tryz.prog 27 #[.agg #[p1, p2], .int .i64 node, .agg #[.bool n.up, wv]] w fun e w' => e = .returned (.bool (nodOk p node n)) ∧ Below w.heap.size w w' := by
  have HP := Lib.hid hp
  have HS := Lib.hid hn
  have hlen := hf.1
  have HF := Lib.hid hf.2
  have HK := Lib.hid hkw
  have HPk := Lib.hid (fun W hb => prgOkI_c p p1 p2 W (hp.ext (w := w) hb).c (hp.ext hb).p hfp)
  have HIn := Lib.hid (fun W => imIn_c node 0 2 W)
  have HV := Lib.hid (nodOk_eq p node n)
  have hst := fun (a : Addr) (k : Fn) (g : Nat) (W : World) m => run_store Tryz.prog W a (.func k #[] #[.pointer (some ⟨g, 0, none⟩)]) m rfl
  obtain ⟨WA, wn, rfl, u1, u2, hWC⟩ := hn
  have HWC := Lib.hid hWC
  rw [show (decide (0 ≤ node) && decide (node ≤ 2)) = inR node 0 2 from rfl] at HIn
  obtain ⟨q1, e1⟩ : ∃ q, prgOk p = q := ⟨_, rfl⟩
  obtain ⟨q2, e2⟩ : ∃ q, inR node 0 2 = q := ⟨_, rfl⟩
  obtain ⟨q3, e3⟩ : ∃ q, decide ((32 : Int) < (n.works.length : Int)) = q := ⟨_, rfl⟩
  obtain ⟨q4, e4⟩ : ∃ q, decide ((0 : Int) < (n.works.length : Int)) = q := ⟨_, rfl⟩
  have e3n : decide (32 < n.works.length) = q3 := by rw [← e3]; by_cases h : 32 < n.works.length <;> simp [h] <;> omega
  have e4n : decide (0 < n.works.length) = q4 := by rw [← e4]; by_cases h : 0 < n.works.length <;> simp [h] <;> omega
  obtain ⟨q5, e5⟩ : ∃ q, n.up = q := ⟨_, rfl⟩
  rw [e1, e2, e3, e4, e5] at HV
  rw [e1] at HPk
  rw [e2] at HIn
  rw [e5]
  obtain ⟨Z, hZ⟩ : ∃ Z, worksOk p node (n.works.take 0) (n.works.drop 0) = Z := ⟨_, rfl⟩
  have HZ0 := Lib.hid hZ
  rw [hZ] at HV
  clear e1 e2 e5 hf hWC hZ hkw
  have HB0 := Lib.hid (fun c1 c2 => bel_alloc (bel_alloc (Below.refl w.heap.size w) (.cells c1 37)) (.cells c2 58))
  have HP0 := Lib.hid (fun c1 c2 => bx2_0 w 37 58 c1 c2)
  have HQ0 := Lib.hid (fun c1 c2 => bx2_1 w 37 58 c1 c2)
  by_cases hall : (q1 && q2 && !q3 && !(!q5 && q4)) = true
  · obtain ⟨rfl, rfl, rfl⟩ : q1 = true ∧ q2 = true ∧ q3 = false := by cases q1 <;> cases q2 <;> cases q3 <;> simp_all
    cases q5
    · obtain rfl : q4 = false := by cases q4 <;> simp_all
      clear hall
      have HN := Lib.hid (show nodOk p node n = Z by rw [HV.out]; rfl)
      go_enter Tryz.func27, Tryz.ntmps27
      go_wp2_with (first | (go_at_call 24; (with_reducible refine (HPk.out _ (HB0.out _ _)).mono ?_); rintro e w1 ⟨rfl, hb⟩; have HB1 := Lib.hid (bel_trans (HB0.out _ _) hb); have HP1 := Lib.hid (Bx.below (HP0.out _ _) hb); have HQ1 := Lib.hid (Bx.below (HQ0.out _ _) hb); have b1 := Bx.at' HQ1.out 1 (.slice WA n.works.length wn) rfl; have b0 := Bx.at' HQ1.out 0 (.bool false) rfl; clear hb) | (go_at_call 29; (with_reducible refine (HIn.out _).mono ?_); rintro e w4 ⟨rfl, rfl⟩))
      go_loopw [38] (fun v7 wr => ∃ k : Nat, v7 = .int .i64 k ∧ k ≤ n.works.length ∧ Hid (worksOk p node (n.works.take k) (n.works.drop k) = Z) ∧ Hid (Below w1.heap.size w1 wr)) (fun v7 _ => n.works.length - (intOf v7).toNat)
      case atStart => exact ⟨0, rfl, Nat.zero_le _, HZ0, Lib.hid (Below.refl _ _)⟩
      case round =>
        obtain ⟨k, rfl, hk, HRr, HBr⟩ := hrel
        have HBw := Lib.hid (bel_trans HB1.out HBr.out)
        have HPr := Lib.hid (Bx.below HP1.out HBr.out)
        have HQr := Lib.hid (Bx.below HQ1.out HBr.out)
        clear b0 b1
        by_cases hlt : k < n.works.length
        · obtain ⟨x, hc⟩ : ∃ x, n.works[k]? = some x := ⟨_, List.getElem?_eq_getElem hlt⟩
          obtain ⟨ad, v1, v2, v3, v4, v5, v6, had, x0, x1, x2, x3, x4, x5, x6, x7, x8, x9, h1, h2, h3, h4, h5, h6⟩ := dwork_at HWC.out hc
          have hfx := HF.out x (List.mem_of_getElem? hc)
          have hkx := HK.out x (List.mem_of_getElem? hc)
          have HWk := Lib.hid (fun W (hb : Below w.heap.size w W) => workI_c p node x p1 p2 v1 v2 v3 v4 v5 v6 W (HP.out.ext hb) ⟨Kd.S_ext hb h1, Kd.S_ext hb h2, Kd.S_ext hb h3, Kd.S_ext hb h4, Kd.S_ext hb h5, Kd.S_ext hb h6⟩ hfp hfx hkx)
          have HCw := Lib.hid (show ∀ W b, Below w.heap.size w W → W.cell? ⟨b, 8, none⟩ = some v5 → Calls Tryz.prog 67 #[.slice WA k wn, .func (.func 65) #[] #[.pointer (some ⟨b, 0, none⟩)]] W fun e w' => e = .returned (.bool ((n.works.take k).any (fun y => decide (y.slv.top = x.slv.top)))) ∧ Below W.heap.size W w' from fun W b hb hcell => by
            have hh := cw_con (fun y => decide (y.slv.top = x.slv.top)) (n.works.take k) WA wn ⟨b, 0, none⟩ W (Kd.C_ext hb (C_take HWC.out k)) (by rw [List.length_take]; omega) (fun W' y hy hb' u1 u2 u3 u4 u5 u6 g1 g2 g3 g4 g5 g6 => agI_c x.slv.top b v5 y u1 u2 u3 u4 u5 u6 W' (cell_keep hb' hcell) (Kd.S_ext (bel_trans hb hb') h5) g5 (fit_len hfx.2.2.2.2.1) (fit_len (HF.out y (List.mem_of_mem_take hy)).2.2.2.2.1))
            rwa [List.length_take, Nat.min_eq_left (by omega)] at hh)
          have HST := Lib.hid ((worksOk_step (p := p) (node := node) hc).symm.trans HRr.out)
          obtain ⟨qa, ea⟩ : ∃ q, workOk p node x = q := ⟨_, rfl⟩
          obtain ⟨qf, ef⟩ : ∃ q, (n.works.take k).any (fun y => decide (y.slv.top = x.slv.top)) = q := ⟨_, rfl⟩
          rw [ea, ef] at HST
          rw [ea] at HWk
          rw [ef] at HCw
          have x0 := cell_keep HBw.out x0
          have x1 := cell_keep HBw.out x1
          have x2 := cell_keep HBw.out x2
          have x3 := cell_keep HBw.out x3
          have x4 := cell_keep HBw.out x4
          have x5 := cell_keep HBw.out x5
          have x6 := cell_keep HBw.out x6
          have x7 := cell_keep HBw.out x7
          have x8 := cell_keep HBw.out x8
          have x9 := cell_keep HBw.out x9
          obtain ⟨E1, f1, rfl, -, -, -⟩ := h1
          obtain ⟨E2, f2, rfl, -, -, -⟩ := h2
          obtain ⟨E3, f3, rfl, -, -, -⟩ := h3
          obtain ⟨E4, f4, rfl, -, -, -⟩ := h4
          obtain ⟨E5, f5, rfl, -, -, -⟩ := h5
          obtain ⟨E6, f6, rfl, -, -, -⟩ := h6
          have HNb := Lib.hid (Bx.new wr 107 #[.slice E1 x.outs.length f1, .int .i64 x.want, .bool x.asked, .int .i64 x.slv.st, .slice E2 x.slv.goals.length f2, .slice E3 x.slv.binds.length f3, .int .i64 x.slv.vars, .slice E4 x.slv.ch.length f4, .slice E5 x.slv.top.length f5, .slice E6 x.slv.out.length f6])
          have HBa := Lib.hid (fun ob => bel_alloc HBw.out ob)
          have HBc := Lib.hid (fun ob => bel_alloc HBr.out ob)
          have HPa := Lib.hid (fun ob => Bx.alloc HPr.out ob)
          have HQa := Lib.hid (fun ob => Bx.alloc HQr.out ob)
          have c0 : ∀ ob, (wr.alloc ob).cell? ⟨w.heap.size, 0, none⟩ = some p1 := fun ob => Bx.at' (HPa.out ob) 0 p1 rfl
          have c1 : ∀ ob, (wr.alloc ob).cell? ⟨w.heap.size, 1, none⟩ = some p2 := fun ob => Bx.at' (HPa.out ob) 1 p2 rfl
          clear ea ef hc hfx hkx
          subst had
          cases qa
          · have HX := Lib.hid (show false = Z from HST.out)
            go_wp2_with (first | (go_at_call 66; (with_reducible refine (HWk.out _ (HBa.out _)).mono ?_); rintro e w2 ⟨rfl, hb2⟩; have HB2 := Lib.hid (bel_trans (HBa.out _) hb2); have HBn2 := Lib.hid (bel_trans (HBc.out _) hb2); have HQ2 := Lib.hid (Bx.below (HQa.out _) hb2); have HC8 := Lib.hid (Bx.at' (Bx.below HNb.out hb2) 8 (.slice E5 x.slv.top.length f5) rfl); have d1 := Bx.at' HQ2.out 1 (.slice (some ad) n.works.length wn) rfl; clear hb2) | (go_at_call 67; (with_reducible refine (HCw.out _ _ HB2.out HC8.out).mono ?_); rintro e w3 ⟨rfl, hb3⟩; have HB3 := Lib.hid (bel_trans HB2.out hb3); have HBn3 := Lib.hid (bel_trans HBn2.out hb3); clear hb3))
            go_ret
            exact ⟨ret_bool (HX.out.trans HN.out.symm), HB2.out⟩
          · cases qf
            · have HX := Lib.hid (show worksOk p node (n.works.take (k + 1)) (n.works.drop (k + 1)) = Z from HST.out)
              go_wp2_with (first | (go_at_call 66; (with_reducible refine (HWk.out _ (HBa.out _)).mono ?_); rintro e w2 ⟨rfl, hb2⟩; have HB2 := Lib.hid (bel_trans (HBa.out _) hb2); have HBn2 := Lib.hid (bel_trans (HBc.out _) hb2); have HQ2 := Lib.hid (Bx.below (HQa.out _) hb2); have HC8 := Lib.hid (Bx.at' (Bx.below HNb.out hb2) 8 (.slice E5 x.slv.top.length f5) rfl); have d1 := Bx.at' HQ2.out 1 (.slice (some ad) n.works.length wn) rfl; clear hb2) | (go_at_call 67; (with_reducible refine (HCw.out _ _ HB2.out HC8.out).mono ?_); rintro e w3 ⟨rfl, hb3⟩; have HB3 := Lib.hid (bel_trans HB2.out hb3); have HBn3 := Lib.hid (bel_trans HBn2.out hb3); clear hb3))
              exact ⟨⟨k + 1, by go_num, hlt, HX, HBn3⟩, by simp [intOf]; omega⟩
            · have HX := Lib.hid (show false = Z from HST.out)
              go_wp2_with (first | (go_at_call 66; (with_reducible refine (HWk.out _ (HBa.out _)).mono ?_); rintro e w2 ⟨rfl, hb2⟩; have HB2 := Lib.hid (bel_trans (HBa.out _) hb2); have HBn2 := Lib.hid (bel_trans (HBc.out _) hb2); have HQ2 := Lib.hid (Bx.below (HQa.out _) hb2); have HC8 := Lib.hid (Bx.at' (Bx.below HNb.out hb2) 8 (.slice E5 x.slv.top.length f5) rfl); have d1 := Bx.at' HQ2.out 1 (.slice (some ad) n.works.length wn) rfl; clear hb2) | (go_at_call 67; (with_reducible refine (HCw.out _ _ HB2.out HC8.out).mono ?_); rintro e w3 ⟨rfl, hb3⟩; have HB3 := Lib.hid (bel_trans HB2.out hb3); have HBn3 := Lib.hid (bel_trans HBn2.out hb3); clear hb3))
              go_ret
              exact ⟨ret_bool (HX.out.trans HN.out.symm), HB3.out⟩
        · have HX := Lib.hid (show true = Z by have := HRr.out; rwa [List.drop_of_length_le (by omega)] at this)
          go_wp2
          go_ret
          exact ⟨ret_bool (HX.out.trans HN.out.symm), HBw.out⟩
    · clear hall
      cases q4
      all_goals
        have HN := Lib.hid (show nodOk p node n = Z by rw [HV.out]; rfl)
        go_enter Tryz.func27, Tryz.ntmps27
        go_wp2_with (first | (go_at_call 24; (with_reducible refine (HPk.out _ (HB0.out _ _)).mono ?_); rintro e w1 ⟨rfl, hb⟩; have HB1 := Lib.hid (bel_trans (HB0.out _ _) hb); have HP1 := Lib.hid (Bx.below (HP0.out _ _) hb); have HQ1 := Lib.hid (Bx.below (HQ0.out _ _) hb); have b1 := Bx.at' HQ1.out 1 (.slice WA n.works.length wn) rfl; have b0 := Bx.at' HQ1.out 0 (.bool true) rfl; clear hb) | (go_at_call 29; (with_reducible refine (HIn.out _).mono ?_); rintro e w4 ⟨rfl, rfl⟩))
        go_loopw [38] (fun v7 wr => ∃ k : Nat, v7 = .int .i64 k ∧ k ≤ n.works.length ∧ Hid (worksOk p node (n.works.take k) (n.works.drop k) = Z) ∧ Hid (Below w1.heap.size w1 wr)) (fun v7 _ => n.works.length - (intOf v7).toNat)
        case atStart => exact ⟨0, rfl, Nat.zero_le _, HZ0, Lib.hid (Below.refl _ _)⟩
        case round =>
          obtain ⟨k, rfl, hk, HRr, HBr⟩ := hrel
          have HBw := Lib.hid (bel_trans HB1.out HBr.out)
          have HPr := Lib.hid (Bx.below HP1.out HBr.out)
          have HQr := Lib.hid (Bx.below HQ1.out HBr.out)
          clear b0 b1
          by_cases hlt : k < n.works.length
          · obtain ⟨x, hc⟩ : ∃ x, n.works[k]? = some x := ⟨_, List.getElem?_eq_getElem hlt⟩
            obtain ⟨ad, v1, v2, v3, v4, v5, v6, had, x0, x1, x2, x3, x4, x5, x6, x7, x8, x9, h1, h2, h3, h4, h5, h6⟩ := dwork_at HWC.out hc
            have hfx := HF.out x (List.mem_of_getElem? hc)
            have hkx := HK.out x (List.mem_of_getElem? hc)
            have HWk := Lib.hid (fun W (hb : Below w.heap.size w W) => workI_c p node x p1 p2 v1 v2 v3 v4 v5 v6 W (HP.out.ext hb) ⟨Kd.S_ext hb h1, Kd.S_ext hb h2, Kd.S_ext hb h3, Kd.S_ext hb h4, Kd.S_ext hb h5, Kd.S_ext hb h6⟩ hfp hfx hkx)
            have HCw := Lib.hid (show ∀ W b, Below w.heap.size w W → W.cell? ⟨b, 8, none⟩ = some v5 → Calls Tryz.prog 67 #[.slice WA k wn, .func (.func 65) #[] #[.pointer (some ⟨b, 0, none⟩)]] W fun e w' => e = .returned (.bool ((n.works.take k).any (fun y => decide (y.slv.top = x.slv.top)))) ∧ Below W.heap.size W w' from fun W b hb hcell => by
              have hh := cw_con (fun y => decide (y.slv.top = x.slv.top)) (n.works.take k) WA wn ⟨b, 0, none⟩ W (Kd.C_ext hb (C_take HWC.out k)) (by rw [List.length_take]; omega) (fun W' y hy hb' u1 u2 u3 u4 u5 u6 g1 g2 g3 g4 g5 g6 => agI_c x.slv.top b v5 y u1 u2 u3 u4 u5 u6 W' (cell_keep hb' hcell) (Kd.S_ext (bel_trans hb hb') h5) g5 (fit_len hfx.2.2.2.2.1) (fit_len (HF.out y (List.mem_of_mem_take hy)).2.2.2.2.1))
              rwa [List.length_take, Nat.min_eq_left (by omega)] at hh)
            have HST := Lib.hid ((worksOk_step (p := p) (node := node) hc).symm.trans HRr.out)
            obtain ⟨qa, ea⟩ : ∃ q, workOk p node x = q := ⟨_, rfl⟩
            obtain ⟨qf, ef⟩ : ∃ q, (n.works.take k).any (fun y => decide (y.slv.top = x.slv.top)) = q := ⟨_, rfl⟩
            rw [ea, ef] at HST
            rw [ea] at HWk
            rw [ef] at HCw
            have x0 := cell_keep HBw.out x0
            have x1 := cell_keep HBw.out x1
            have x2 := cell_keep HBw.out x2
            have x3 := cell_keep HBw.out x3
            have x4 := cell_keep HBw.out x4
            have x5 := cell_keep HBw.out x5
            have x6 := cell_keep HBw.out x6
            have x7 := cell_keep HBw.out x7
            have x8 := cell_keep HBw.out x8
            have x9 := cell_keep HBw.out x9
            obtain ⟨E1, f1, rfl, -, -, -⟩ := h1
            obtain ⟨E2, f2, rfl, -, -, -⟩ := h2
            obtain ⟨E3, f3, rfl, -, -, -⟩ := h3
            obtain ⟨E4, f4, rfl, -, -, -⟩ := h4
            obtain ⟨E5, f5, rfl, -, -, -⟩ := h5
            obtain ⟨E6, f6, rfl, -, -, -⟩ := h6
            have HNb := Lib.hid (Bx.new wr 107 #[.slice E1 x.outs.length f1, .int .i64 x.want, .bool x.asked, .int .i64 x.slv.st, .slice E2 x.slv.goals.length f2, .slice E3 x.slv.binds.length f3, .int .i64 x.slv.vars, .slice E4 x.slv.ch.length f4, .slice E5 x.slv.top.length f5, .slice E6 x.slv.out.length f6])
            have HBa := Lib.hid (fun ob => bel_alloc HBw.out ob)
            have HBc := Lib.hid (fun ob => bel_alloc HBr.out ob)
            have HPa := Lib.hid (fun ob => Bx.alloc HPr.out ob)
            have HQa := Lib.hid (fun ob => Bx.alloc HQr.out ob)
            have c0 : ∀ ob, (wr.alloc ob).cell? ⟨w.heap.size, 0, none⟩ = some p1 := fun ob => Bx.at' (HPa.out ob) 0 p1 rfl
            have c1 : ∀ ob, (wr.alloc ob).cell? ⟨w.heap.size, 1, none⟩ = some p2 := fun ob => Bx.at' (HPa.out ob) 1 p2 rfl
            clear ea ef hc hfx hkx
            subst had
            cases qa
            · have HX := Lib.hid (show false = Z from HST.out)
              go_wp2_with (first | (go_at_call 66; (with_reducible refine (HWk.out _ (HBa.out _)).mono ?_); rintro e w2 ⟨rfl, hb2⟩; have HB2 := Lib.hid (bel_trans (HBa.out _) hb2); have HBn2 := Lib.hid (bel_trans (HBc.out _) hb2); have HQ2 := Lib.hid (Bx.below (HQa.out _) hb2); have HC8 := Lib.hid (Bx.at' (Bx.below HNb.out hb2) 8 (.slice E5 x.slv.top.length f5) rfl); have d1 := Bx.at' HQ2.out 1 (.slice (some ad) n.works.length wn) rfl; clear hb2) | (go_at_call 67; (with_reducible refine (HCw.out _ _ HB2.out HC8.out).mono ?_); rintro e w3 ⟨rfl, hb3⟩; have HB3 := Lib.hid (bel_trans HB2.out hb3); have HBn3 := Lib.hid (bel_trans HBn2.out hb3); clear hb3))
              go_ret
              exact ⟨ret_bool (HX.out.trans HN.out.symm), HB2.out⟩
            · cases qf
              · have HX := Lib.hid (show worksOk p node (n.works.take (k + 1)) (n.works.drop (k + 1)) = Z from HST.out)
                go_wp2_with (first | (go_at_call 66; (with_reducible refine (HWk.out _ (HBa.out _)).mono ?_); rintro e w2 ⟨rfl, hb2⟩; have HB2 := Lib.hid (bel_trans (HBa.out _) hb2); have HBn2 := Lib.hid (bel_trans (HBc.out _) hb2); have HQ2 := Lib.hid (Bx.below (HQa.out _) hb2); have HC8 := Lib.hid (Bx.at' (Bx.below HNb.out hb2) 8 (.slice E5 x.slv.top.length f5) rfl); have d1 := Bx.at' HQ2.out 1 (.slice (some ad) n.works.length wn) rfl; clear hb2) | (go_at_call 67; (with_reducible refine (HCw.out _ _ HB2.out HC8.out).mono ?_); rintro e w3 ⟨rfl, hb3⟩; have HB3 := Lib.hid (bel_trans HB2.out hb3); have HBn3 := Lib.hid (bel_trans HBn2.out hb3); clear hb3))
                exact ⟨⟨k + 1, by go_num, hlt, HX, HBn3⟩, by simp [intOf]; omega⟩
              · have HX := Lib.hid (show false = Z from HST.out)
                go_wp2_with (first | (go_at_call 66; (with_reducible refine (HWk.out _ (HBa.out _)).mono ?_); rintro e w2 ⟨rfl, hb2⟩; have HB2 := Lib.hid (bel_trans (HBa.out _) hb2); have HBn2 := Lib.hid (bel_trans (HBc.out _) hb2); have HQ2 := Lib.hid (Bx.below (HQa.out _) hb2); have HC8 := Lib.hid (Bx.at' (Bx.below HNb.out hb2) 8 (.slice E5 x.slv.top.length f5) rfl); have d1 := Bx.at' HQ2.out 1 (.slice (some ad) n.works.length wn) rfl; clear hb2) | (go_at_call 67; (with_reducible refine (HCw.out _ _ HB2.out HC8.out).mono ?_); rintro e w3 ⟨rfl, hb3⟩; have HB3 := Lib.hid (bel_trans HB2.out hb3); have HBn3 := Lib.hid (bel_trans HBn2.out hb3); clear hb3))
                go_ret
                exact ⟨ret_bool (HX.out.trans HN.out.symm), HB3.out⟩
          · have HX := Lib.hid (show true = Z by have := HRr.out; rwa [List.drop_of_length_le (by omega)] at this)
            go_wp2
            go_ret
            exact ⟨ret_bool (HX.out.trans HN.out.symm), HBw.out⟩
  · have HN := Lib.hid (show nodOk p node n = false by rw [HV.out, Bool.eq_false_iff.2 hall]; rfl)
    cases q5
    · cases q1 <;> cases q2 <;> cases q3 <;> cases q4
      all_goals (try exact absurd rfl hall)
      all_goals
        clear hall
        go_enter Tryz.func27, Tryz.ntmps27
        go_wp2_with (first | (go_at_call 24; (with_reducible refine (HPk.out _ (HB0.out _ _)).mono ?_); rintro e w1 ⟨rfl, hb⟩; have HB1 := Lib.hid (bel_trans (HB0.out _ _) hb); have HP1 := Lib.hid (Bx.below (HP0.out _ _) hb); have HQ1 := Lib.hid (Bx.below (HQ0.out _ _) hb); have b1 := Bx.at' HQ1.out 1 (.slice WA n.works.length wn) rfl; have b0 := Bx.at' HQ1.out 0 (.bool false) rfl; clear hb) | (go_at_call 29; (with_reducible refine (HIn.out _).mono ?_); rintro e w4 ⟨rfl, rfl⟩))
        go_ret
        exact ⟨ret_bool HN.out.symm, HB1.out⟩
    · cases q1 <;> cases q2 <;> cases q3 <;> cases q4
      all_goals (try exact absurd rfl hall)
      all_goals
        clear hall
        go_enter Tryz.func27, Tryz.ntmps27
        go_wp2_with (first | (go_at_call 24; (with_reducible refine (HPk.out _ (HB0.out _ _)).mono ?_); rintro e w1 ⟨rfl, hb⟩; have HB1 := Lib.hid (bel_trans (HB0.out _ _) hb); have HP1 := Lib.hid (Bx.below (HP0.out _ _) hb); have HQ1 := Lib.hid (Bx.below (HQ0.out _ _) hb); have b1 := Bx.at' HQ1.out 1 (.slice WA n.works.length wn) rfl; have b0 := Bx.at' HQ1.out 0 (.bool true) rfl; clear hb) | (go_at_call 29; (with_reducible refine (HIn.out _).mono ?_); rintro e w4 ⟨rfl, rfl⟩))
        go_ret
        exact ⟨ret_bool HN.out.symm, HB1.out⟩
end Go.Proofs.YtdoggcfdfkkedaaGreatDoor
namespace Go.Proofs.YtdoggcfdfkkedaaGreatDoor
open Go.RowKit
set_option maxRecDepth 100000
set_option maxHeartbeats 8000000
set_option linter.unusedVariables false
theorem wldOk_eq2 (x : Wld) : wldOk x = (prgOk x.prog && isQ x.top && !((x.nodes.length : Int) != 3) && outsOk x.top x.outs && !decide ((160 : Int) < (x.net.length : Int)) && nodesOk x.prog 0 (x.nodes.drop 0) && x.net.all netOk) := by
  unfold wldOk
  rw [le_not x.net.length 160, show decide (x.nodes.length = 3) = !((x.nodes.length : Int) != 3) by
    by_cases h : x.nodes.length = 3
    · rw [decide_eq_true h, h]; rfl
    · rw [decide_eq_false h, show ((x.nodes.length : Int) != 3) = true by simp; omega]; rfl]
  rfl
theorem wldI_c (x : Wld) (p1 p2 nv tv uv mv : Value) (w : World) (hr : WlR w x p1 p2 nv tv uv mv) (hf : fitWld x) (hkw : ∀ n ∈ x.nodes, ∀ y ∈ n.works, keysWf y.slv.binds) :
    Calls Tryz.prog 7 #[.agg #[p1, p2, nv, tv, uv, mv]] w fun e w' => e = .returned (.bool (wldOk x)) ∧ Below w.heap.size w w' := by
  have HR := Lib.hid hr
  have HFn := Lib.hid hf.2.2.2.2.1
  have HK := Lib.hid hkw
  have hfp := hf.1
  have HPk := Lib.hid (fun W hb => prgOkI_c x.prog p1 p2 W (hr.ext (w := w) hb).p.c (hr.ext hb).p.p hf.1)
  have HTo := Lib.hid (fun W hb => isQI_c x.top tv W (hr.ext (w := w) hb).t (fit_len hf.2.1) hf.2.1.2)
  have HOs := Lib.hid (fun W hb => outsOkI_c x.top x.outs tv uv W (hr.ext (w := w) hb).t (hr.ext hb).u hf.2.1 hf.2.2.1)
  have hln := hf.2.2.2.1
  have hlm := hf.2.2.2.2.2.1
  have HFm := Lib.hid hf.2.2.2.2.2.2
  have HV := Lib.hid (wldOk_eq2 x)
  have HNot := Lib.hid (show (!(x.net.any (fun m => !(netOk m)))) = x.net.all netOk by rw [any_not, Bool.not_not])
  obtain ⟨NA, nn, rfl, n1, n2, hNC⟩ := hr.n
  obtain ⟨TA, tn, rfl, -, -, -⟩ := hr.t
  obtain ⟨UA, un, rfl, -, -, -⟩ := hr.u
  obtain ⟨MA, mn, rfl, m1, m2, hMC⟩ := hr.m
  have HNC := Lib.hid hNC
  have HCn := Lib.hid (fun W (hb : Below w.heap.size w W) => cn_con (fun m => !(netOk m)) x.net MA mn W (Kd.C_ext hb hMC) (by omega) (fun W' m hm hb' v1 g1 => netI_c m v1 W' g1 (HFm.out m hm)))
  obtain ⟨q1, e1⟩ : ∃ q, prgOk x.prog = q := ⟨_, rfl⟩
  obtain ⟨q2, e2⟩ : ∃ q, isQ x.top = q := ⟨_, rfl⟩
  obtain ⟨q3, e3⟩ : ∃ q, ((x.nodes.length : Int) != 3) = q := ⟨_, rfl⟩
  obtain ⟨q4, e4⟩ : ∃ q, outsOk x.top x.outs = q := ⟨_, rfl⟩
  obtain ⟨q6, e6⟩ : ∃ q, decide ((160 : Int) < (x.net.length : Int)) = q := ⟨_, rfl⟩
  obtain ⟨Z, hZ⟩ : ∃ Z, nodesOk x.prog 0 (x.nodes.drop 0) = Z := ⟨_, rfl⟩
  obtain ⟨Y, hY⟩ : ∃ Y, x.net.any (fun m => !(netOk m)) = Y := ⟨_, rfl⟩
  have HZ0 := Lib.hid hZ
  have HE3 := Lib.hid e3
  rw [← HNot.out, e1, e2, e3, e4, e6, hZ, hY] at HV
  rw [hY] at HCn
  rw [e1] at HPk
  rw [e2] at HTo
  rw [e4] at HOs
  clear e1 e2 e4 hr hf hNC hMC hZ hY hkw HNot
  have HB0 := Lib.hid (fun c1 => bel_alloc (Below.refl w.heap.size w) (.cells c1 43))
  have HP0 := Lib.hid (fun c1 => Bx.new w 43 c1)
  cases q1
  · have HN := Lib.hid (show wldOk x = false by rw [HV.out]; simp)
    go_enter Tryz.func7, Tryz.ntmps7
    go_wp2_with (first | (go_at_call 24; (with_reducible refine (HPk.out _ (HB0.out _)).mono ?_); rintro e w1 ⟨rfl, hb⟩; have HB1 := Lib.hid (bel_trans (HB0.out _) hb); have HP1 := Lib.hid (Bx.below (HP0.out _) hb); have a1_0 := Bx.at' HP1.out 0 (p1) rfl; have a1_1 := Bx.at' HP1.out 1 (p2) rfl; have a1_2 := Bx.at' HP1.out 2 (.slice NA x.nodes.length nn) rfl; have a1_3 := Bx.at' HP1.out 3 (.slice TA x.top.length tn) rfl; have a1_4 := Bx.at' HP1.out 4 (.slice UA x.outs.length un) rfl; have a1_5 := Bx.at' HP1.out 5 (.slice MA x.net.length mn) rfl; clear hb) | (go_at_call 25; (with_reducible refine (HTo.out _ HB1.out).mono ?_); rintro e w2 ⟨rfl, hb⟩; have HB2 := Lib.hid (bel_trans HB1.out hb); have HP2 := Lib.hid (Bx.below HP1.out hb); have a2_0 := Bx.at' HP2.out 0 (p1) rfl; have a2_1 := Bx.at' HP2.out 1 (p2) rfl; have a2_2 := Bx.at' HP2.out 2 (.slice NA x.nodes.length nn) rfl; have a2_3 := Bx.at' HP2.out 3 (.slice TA x.top.length tn) rfl; have a2_4 := Bx.at' HP2.out 4 (.slice UA x.outs.length un) rfl; have a2_5 := Bx.at' HP2.out 5 (.slice MA x.net.length mn) rfl; clear hb) | (go_at_call 26; (with_reducible refine (HOs.out _ HB2.out).mono ?_); rintro e w3 ⟨rfl, hb⟩; have HB3 := Lib.hid (bel_trans HB2.out hb); have HP3 := Lib.hid (Bx.below HP2.out hb); have a3_0 := Bx.at' HP3.out 0 (p1) rfl; have a3_1 := Bx.at' HP3.out 1 (p2) rfl; have a3_2 := Bx.at' HP3.out 2 (.slice NA x.nodes.length nn) rfl; have a3_3 := Bx.at' HP3.out 3 (.slice TA x.top.length tn) rfl; have a3_4 := Bx.at' HP3.out 4 (.slice UA x.outs.length un) rfl; have a3_5 := Bx.at' HP3.out 5 (.slice MA x.net.length mn) rfl; clear hb))
    go_ret
    first | exact ⟨ret_bool HN.out.symm, HB3.out⟩ | exact ⟨ret_bool HN.out.symm, HB2.out⟩ | exact ⟨ret_bool HN.out.symm, HB1.out⟩
  ·
    cases q2
    · have HN := Lib.hid (show wldOk x = false by rw [HV.out]; simp)
      go_enter Tryz.func7, Tryz.ntmps7
      go_wp2_with (first | (go_at_call 24; (with_reducible refine (HPk.out _ (HB0.out _)).mono ?_); rintro e w1 ⟨rfl, hb⟩; have HB1 := Lib.hid (bel_trans (HB0.out _) hb); have HP1 := Lib.hid (Bx.below (HP0.out _) hb); have a1_0 := Bx.at' HP1.out 0 (p1) rfl; have a1_1 := Bx.at' HP1.out 1 (p2) rfl; have a1_2 := Bx.at' HP1.out 2 (.slice NA x.nodes.length nn) rfl; have a1_3 := Bx.at' HP1.out 3 (.slice TA x.top.length tn) rfl; have a1_4 := Bx.at' HP1.out 4 (.slice UA x.outs.length un) rfl; have a1_5 := Bx.at' HP1.out 5 (.slice MA x.net.length mn) rfl; clear hb) | (go_at_call 25; (with_reducible refine (HTo.out _ HB1.out).mono ?_); rintro e w2 ⟨rfl, hb⟩; have HB2 := Lib.hid (bel_trans HB1.out hb); have HP2 := Lib.hid (Bx.below HP1.out hb); have a2_0 := Bx.at' HP2.out 0 (p1) rfl; have a2_1 := Bx.at' HP2.out 1 (p2) rfl; have a2_2 := Bx.at' HP2.out 2 (.slice NA x.nodes.length nn) rfl; have a2_3 := Bx.at' HP2.out 3 (.slice TA x.top.length tn) rfl; have a2_4 := Bx.at' HP2.out 4 (.slice UA x.outs.length un) rfl; have a2_5 := Bx.at' HP2.out 5 (.slice MA x.net.length mn) rfl; clear hb) | (go_at_call 26; (with_reducible refine (HOs.out _ HB2.out).mono ?_); rintro e w3 ⟨rfl, hb⟩; have HB3 := Lib.hid (bel_trans HB2.out hb); have HP3 := Lib.hid (Bx.below HP2.out hb); have a3_0 := Bx.at' HP3.out 0 (p1) rfl; have a3_1 := Bx.at' HP3.out 1 (p2) rfl; have a3_2 := Bx.at' HP3.out 2 (.slice NA x.nodes.length nn) rfl; have a3_3 := Bx.at' HP3.out 3 (.slice TA x.top.length tn) rfl; have a3_4 := Bx.at' HP3.out 4 (.slice UA x.outs.length un) rfl; have a3_5 := Bx.at' HP3.out 5 (.slice MA x.net.length mn) rfl; clear hb))
      go_ret
      first | exact ⟨ret_bool HN.out.symm, HB3.out⟩ | exact ⟨ret_bool HN.out.symm, HB2.out⟩ | exact ⟨ret_bool HN.out.symm, HB1.out⟩
    ·
      cases q3
      rotate_left
      · have HN := Lib.hid (show wldOk x = false by rw [HV.out]; simp)
        go_enter Tryz.func7, Tryz.ntmps7
        go_wp2_with (first | (go_at_call 24; (with_reducible refine (HPk.out _ (HB0.out _)).mono ?_); rintro e w1 ⟨rfl, hb⟩; have HB1 := Lib.hid (bel_trans (HB0.out _) hb); have HP1 := Lib.hid (Bx.below (HP0.out _) hb); have a1_0 := Bx.at' HP1.out 0 (p1) rfl; have a1_1 := Bx.at' HP1.out 1 (p2) rfl; have a1_2 := Bx.at' HP1.out 2 (.slice NA x.nodes.length nn) rfl; have a1_3 := Bx.at' HP1.out 3 (.slice TA x.top.length tn) rfl; have a1_4 := Bx.at' HP1.out 4 (.slice UA x.outs.length un) rfl; have a1_5 := Bx.at' HP1.out 5 (.slice MA x.net.length mn) rfl; clear hb) | (go_at_call 25; (with_reducible refine (HTo.out _ HB1.out).mono ?_); rintro e w2 ⟨rfl, hb⟩; have HB2 := Lib.hid (bel_trans HB1.out hb); have HP2 := Lib.hid (Bx.below HP1.out hb); have a2_0 := Bx.at' HP2.out 0 (p1) rfl; have a2_1 := Bx.at' HP2.out 1 (p2) rfl; have a2_2 := Bx.at' HP2.out 2 (.slice NA x.nodes.length nn) rfl; have a2_3 := Bx.at' HP2.out 3 (.slice TA x.top.length tn) rfl; have a2_4 := Bx.at' HP2.out 4 (.slice UA x.outs.length un) rfl; have a2_5 := Bx.at' HP2.out 5 (.slice MA x.net.length mn) rfl; clear hb) | (go_at_call 26; (with_reducible refine (HOs.out _ HB2.out).mono ?_); rintro e w3 ⟨rfl, hb⟩; have HB3 := Lib.hid (bel_trans HB2.out hb); have HP3 := Lib.hid (Bx.below HP2.out hb); have a3_0 := Bx.at' HP3.out 0 (p1) rfl; have a3_1 := Bx.at' HP3.out 1 (p2) rfl; have a3_2 := Bx.at' HP3.out 2 (.slice NA x.nodes.length nn) rfl; have a3_3 := Bx.at' HP3.out 3 (.slice TA x.top.length tn) rfl; have a3_4 := Bx.at' HP3.out 4 (.slice UA x.outs.length un) rfl; have a3_5 := Bx.at' HP3.out 5 (.slice MA x.net.length mn) rfl; clear hb))
        go_ret
        first | exact ⟨ret_bool HN.out.symm, HB3.out⟩ | exact ⟨ret_bool HN.out.symm, HB2.out⟩ | exact ⟨ret_bool HN.out.symm, HB1.out⟩
      ·
        cases q4
        · have HN := Lib.hid (show wldOk x = false by rw [HV.out]; simp)
          go_enter Tryz.func7, Tryz.ntmps7
          go_wp2_with (first | (go_at_call 24; (with_reducible refine (HPk.out _ (HB0.out _)).mono ?_); rintro e w1 ⟨rfl, hb⟩; have HB1 := Lib.hid (bel_trans (HB0.out _) hb); have HP1 := Lib.hid (Bx.below (HP0.out _) hb); have a1_0 := Bx.at' HP1.out 0 (p1) rfl; have a1_1 := Bx.at' HP1.out 1 (p2) rfl; have a1_2 := Bx.at' HP1.out 2 (.slice NA x.nodes.length nn) rfl; have a1_3 := Bx.at' HP1.out 3 (.slice TA x.top.length tn) rfl; have a1_4 := Bx.at' HP1.out 4 (.slice UA x.outs.length un) rfl; have a1_5 := Bx.at' HP1.out 5 (.slice MA x.net.length mn) rfl; clear hb) | (go_at_call 25; (with_reducible refine (HTo.out _ HB1.out).mono ?_); rintro e w2 ⟨rfl, hb⟩; have HB2 := Lib.hid (bel_trans HB1.out hb); have HP2 := Lib.hid (Bx.below HP1.out hb); have a2_0 := Bx.at' HP2.out 0 (p1) rfl; have a2_1 := Bx.at' HP2.out 1 (p2) rfl; have a2_2 := Bx.at' HP2.out 2 (.slice NA x.nodes.length nn) rfl; have a2_3 := Bx.at' HP2.out 3 (.slice TA x.top.length tn) rfl; have a2_4 := Bx.at' HP2.out 4 (.slice UA x.outs.length un) rfl; have a2_5 := Bx.at' HP2.out 5 (.slice MA x.net.length mn) rfl; clear hb) | (go_at_call 26; (with_reducible refine (HOs.out _ HB2.out).mono ?_); rintro e w3 ⟨rfl, hb⟩; have HB3 := Lib.hid (bel_trans HB2.out hb); have HP3 := Lib.hid (Bx.below HP2.out hb); have a3_0 := Bx.at' HP3.out 0 (p1) rfl; have a3_1 := Bx.at' HP3.out 1 (p2) rfl; have a3_2 := Bx.at' HP3.out 2 (.slice NA x.nodes.length nn) rfl; have a3_3 := Bx.at' HP3.out 3 (.slice TA x.top.length tn) rfl; have a3_4 := Bx.at' HP3.out 4 (.slice UA x.outs.length un) rfl; have a3_5 := Bx.at' HP3.out 5 (.slice MA x.net.length mn) rfl; clear hb))
          go_ret
          first | exact ⟨ret_bool HN.out.symm, HB3.out⟩ | exact ⟨ret_bool HN.out.symm, HB2.out⟩ | exact ⟨ret_bool HN.out.symm, HB1.out⟩
        ·
          cases q6
          rotate_left
          · have HN := Lib.hid (show wldOk x = false by rw [HV.out]; simp)
            go_enter Tryz.func7, Tryz.ntmps7
            go_wp2_with (first | (go_at_call 24; (with_reducible refine (HPk.out _ (HB0.out _)).mono ?_); rintro e w1 ⟨rfl, hb⟩; have HB1 := Lib.hid (bel_trans (HB0.out _) hb); have HP1 := Lib.hid (Bx.below (HP0.out _) hb); have a1_0 := Bx.at' HP1.out 0 (p1) rfl; have a1_1 := Bx.at' HP1.out 1 (p2) rfl; have a1_2 := Bx.at' HP1.out 2 (.slice NA x.nodes.length nn) rfl; have a1_3 := Bx.at' HP1.out 3 (.slice TA x.top.length tn) rfl; have a1_4 := Bx.at' HP1.out 4 (.slice UA x.outs.length un) rfl; have a1_5 := Bx.at' HP1.out 5 (.slice MA x.net.length mn) rfl; clear hb) | (go_at_call 25; (with_reducible refine (HTo.out _ HB1.out).mono ?_); rintro e w2 ⟨rfl, hb⟩; have HB2 := Lib.hid (bel_trans HB1.out hb); have HP2 := Lib.hid (Bx.below HP1.out hb); have a2_0 := Bx.at' HP2.out 0 (p1) rfl; have a2_1 := Bx.at' HP2.out 1 (p2) rfl; have a2_2 := Bx.at' HP2.out 2 (.slice NA x.nodes.length nn) rfl; have a2_3 := Bx.at' HP2.out 3 (.slice TA x.top.length tn) rfl; have a2_4 := Bx.at' HP2.out 4 (.slice UA x.outs.length un) rfl; have a2_5 := Bx.at' HP2.out 5 (.slice MA x.net.length mn) rfl; clear hb) | (go_at_call 26; (with_reducible refine (HOs.out _ HB2.out).mono ?_); rintro e w3 ⟨rfl, hb⟩; have HB3 := Lib.hid (bel_trans HB2.out hb); have HP3 := Lib.hid (Bx.below HP2.out hb); have a3_0 := Bx.at' HP3.out 0 (p1) rfl; have a3_1 := Bx.at' HP3.out 1 (p2) rfl; have a3_2 := Bx.at' HP3.out 2 (.slice NA x.nodes.length nn) rfl; have a3_3 := Bx.at' HP3.out 3 (.slice TA x.top.length tn) rfl; have a3_4 := Bx.at' HP3.out 4 (.slice UA x.outs.length un) rfl; have a3_5 := Bx.at' HP3.out 5 (.slice MA x.net.length mn) rfl; clear hb))
            go_ret
            first | exact ⟨ret_bool HN.out.symm, HB3.out⟩ | exact ⟨ret_bool HN.out.symm, HB2.out⟩ | exact ⟨ret_bool HN.out.symm, HB1.out⟩
          ·
            have HN := Lib.hid (show wldOk x = (Z && !Y) by rw [HV.out]; rfl)
            go_enter Tryz.func7, Tryz.ntmps7
            go_wp2_with (first | (go_at_call 24; (with_reducible refine (HPk.out _ (HB0.out _)).mono ?_); rintro e w1 ⟨rfl, hb⟩; have HB1 := Lib.hid (bel_trans (HB0.out _) hb); have HP1 := Lib.hid (Bx.below (HP0.out _) hb); have a1_0 := Bx.at' HP1.out 0 (p1) rfl; have a1_1 := Bx.at' HP1.out 1 (p2) rfl; have a1_2 := Bx.at' HP1.out 2 (.slice NA x.nodes.length nn) rfl; have a1_3 := Bx.at' HP1.out 3 (.slice TA x.top.length tn) rfl; have a1_4 := Bx.at' HP1.out 4 (.slice UA x.outs.length un) rfl; have a1_5 := Bx.at' HP1.out 5 (.slice MA x.net.length mn) rfl; clear hb) | (go_at_call 25; (with_reducible refine (HTo.out _ HB1.out).mono ?_); rintro e w2 ⟨rfl, hb⟩; have HB2 := Lib.hid (bel_trans HB1.out hb); have HP2 := Lib.hid (Bx.below HP1.out hb); have a2_0 := Bx.at' HP2.out 0 (p1) rfl; have a2_1 := Bx.at' HP2.out 1 (p2) rfl; have a2_2 := Bx.at' HP2.out 2 (.slice NA x.nodes.length nn) rfl; have a2_3 := Bx.at' HP2.out 3 (.slice TA x.top.length tn) rfl; have a2_4 := Bx.at' HP2.out 4 (.slice UA x.outs.length un) rfl; have a2_5 := Bx.at' HP2.out 5 (.slice MA x.net.length mn) rfl; clear hb) | (go_at_call 26; (with_reducible refine (HOs.out _ HB2.out).mono ?_); rintro e w3 ⟨rfl, hb⟩; have HB3 := Lib.hid (bel_trans HB2.out hb); have HP3 := Lib.hid (Bx.below HP2.out hb); have a3_0 := Bx.at' HP3.out 0 (p1) rfl; have a3_1 := Bx.at' HP3.out 1 (p2) rfl; have a3_2 := Bx.at' HP3.out 2 (.slice NA x.nodes.length nn) rfl; have a3_3 := Bx.at' HP3.out 3 (.slice TA x.top.length tn) rfl; have a3_4 := Bx.at' HP3.out 4 (.slice UA x.outs.length un) rfl; have a3_5 := Bx.at' HP3.out 5 (.slice MA x.net.length mn) rfl; clear hb))
            go_loopw [39] (fun v3 wr => ∃ k : Nat, v3 = .int .i64 k ∧ k ≤ x.nodes.length ∧ Hid (nodesOk x.prog k (x.nodes.drop k) = Z) ∧ Hid (Below w3.heap.size w3 wr)) (fun v3 _ => x.nodes.length - (intOf v3).toNat)
            case atStart => exact ⟨0, rfl, Nat.zero_le _, HZ0, Lib.hid (Below.refl _ _)⟩
            case round =>
              obtain ⟨k, rfl, hk, HRr, HBr⟩ := hrel
              have HBw := Lib.hid (bel_trans HB3.out HBr.out)
              have HPr := Lib.hid (Bx.below HP3.out HBr.out)
              clear a3_0 a3_1 a3_2 a3_3 a3_4 a3_5
              by_cases hlt : k < x.nodes.length
              · obtain ⟨n, hc⟩ : ∃ n, x.nodes[k]? = some n := ⟨_, List.getElem?_eq_getElem hlt⟩
                obtain ⟨ad, v1, had, x0, x1, h1⟩ := dnode_at HNC.out hc
                have hfx := HFn.out n (List.mem_of_getElem? hc)
                have hkx := HK.out n (List.mem_of_getElem? hc)
                have HX := Lib.hid (fun W (hb : Below w.heap.size w W) => nodI_c x.prog k n p1 p2 v1 W (HR.out.ext hb).p (Kd.S_ext hb h1) hfp hfx hkx)
                have HST := Lib.hid ((nodesOk_step (p := x.prog) hc).symm.trans HRr.out)
                have x0 := cell_keep HBw.out x0
                have x1 := cell_keep HBw.out x1
                obtain ⟨E1, f1, rfl, -, -, -⟩ := h1
                have HBa := Lib.hid (fun ob => bel_alloc HBw.out ob)
                have HBc := Lib.hid (fun ob => bel_alloc HBr.out ob)
                have HPa := Lib.hid (fun ob => Bx.alloc HPr.out ob)
                have c0 : ∀ ob, (wr.alloc ob).cell? ⟨w.heap.size, 0, none⟩ = some p1 := fun ob => Bx.at' (HPa.out ob) 0 p1 rfl
                have c1 : ∀ ob, (wr.alloc ob).cell? ⟨w.heap.size, 1, none⟩ = some p2 := fun ob => Bx.at' (HPa.out ob) 1 p2 rfl
                obtain ⟨qa, ea⟩ : ∃ q, nodOk x.prog k n = q := ⟨_, rfl⟩
                rw [ea] at HST HX
                clear ea hc hfx hkx
                subst had
                cases qa
                · have HV := Lib.hid (show wldOk x = false by rw [HN.out, show Z = false from HST.out.symm]; rfl)
                  go_wp2_with ((go_at_call 27; (with_reducible refine (HX.out _ (HBa.out _)).mono ?_); rintro e w4 ⟨rfl, hb⟩; have HB4 := Lib.hid (bel_trans (HBa.out _) hb); have HBn4 := Lib.hid (bel_trans (HBc.out _) hb); clear hb))
                  go_ret
                  exact ⟨ret_bool HV.out.symm, HB4.out⟩
                · have HV := Lib.hid (show nodesOk x.prog (k + 1) (x.nodes.drop (k + 1)) = Z from HST.out)
                  go_wp2_with ((go_at_call 27; (with_reducible refine (HX.out _ (HBa.out _)).mono ?_); rintro e w4 ⟨rfl, hb⟩; have HB4 := Lib.hid (bel_trans (HBa.out _) hb); have HBn4 := Lib.hid (bel_trans (HBc.out _) hb); clear hb))
                  exact ⟨⟨k + 1, by go_num, hlt, HV, HBn4⟩, by simp [intOf]; omega⟩
              · have HN := Lib.hid (show wldOk x = !Y by rw [HN.out, show Z = true by have := HRr.out; rw [List.drop_of_length_le (by omega)] at this; exact this.symm]; rfl)
                have hge : ¬ (k : Int) < (x.nodes.length : Int) := by omega
                have c9_0 := Bx.at' HPr.out 0 (p1) rfl
                have c9_1 := Bx.at' HPr.out 1 (p2) rfl
                have c9_2 := Bx.at' HPr.out 2 (.slice NA x.nodes.length nn) rfl
                have c9_3 := Bx.at' HPr.out 3 (.slice TA x.top.length tn) rfl
                have c9_4 := Bx.at' HPr.out 4 (.slice UA x.outs.length un) rfl
                have c9_5 := Bx.at' HPr.out 5 (.slice MA x.net.length mn) rfl
                go_wp2_with (go_at_call 30; (with_reducible refine (HCn.out _ HBw.out).mono ?_); rintro e w4 ⟨rfl, hb⟩; have HB4 := Lib.hid (bel_trans HBw.out hb); clear hb)
                go_ret
                exact ⟨ret_bool HN.out.symm, HB4.out⟩
end Go.Proofs.YtdoggcfdfkkedaaGreatDoor
namespace Go.Proofs.YtdoggcfdfkkedaaGreatDoor
open Go.RowKit
set_option maxRecDepth 100000
set_option maxHeartbeats 8000000
set_option linter.unusedVariables false
theorem lawWld_c (x : Wld) (v1 v2 v3 v4 v5 v6 : Value) (W : World) (h1 : KI.clause.S W v1 x.prog.cl) (h2 : KI.place.S W v2 x.prog.pl) (h3 : KI.node.S W v3 x.nodes) (h4 : KI.cell.S W v4 x.top) (h5 : KI.sout.S W v5 x.outs) (h6 : KI.nmsg.S W v6 x.net) (hkw : ∀ n ∈ x.nodes, ∀ y ∈ n.works, keysWf y.slv.binds) :
    Calls Tryz.prog 3 #[.agg #[v1, v2, v3, v4, v5, v6]] W fun e w' => e = .returned (.bool true) ∧ Below W.heap.size W w' := by
  have HSz := Lib.hid (fun w' (hb : Below W.heap.size W w') => sz_wld_c x v1 v2 v3 v4 v5 v6 1048576 w' (KI.S_ext hb h1) (KI.S_ext hb h2) (KI.S_ext hb h3) (KI.S_ext hb h4) (KI.S_ext hb h5) (KI.S_ext hb h6) (by omega) (by omega))
  have HTo := Lib.hid (fun w' (hb : Below W.heap.size W w') (hl : mz_wld x ≤ 1048576) => to_wld_c x v1 v2 v3 v4 v5 v6 w' (KI.S_ext hb h1) (KI.S_ext hb h2) (KI.S_ext hb h3) (KI.S_ext hb h4) (KI.S_ext hb h5) (KI.S_ext hb h6) hl)
  have HEq := Lib.hid (fun u1 u2 u3 u4 u5 u6 t1 t2 t3 t4 t5 t6 w' a1 a2 a3 a4 a5 a6 b1 b2 b3 b4 b5 b6 hl => eq_wld_c x u1 u2 u3 u4 u5 u6 t1 t2 t3 t4 t5 t6 w' a1 a2 a3 a4 a5 a6 b1 b2 b3 b4 b5 b6 hl)
  have HSp := Lib.hid (fun u1 u2 u3 u4 u5 u6 w' (hr : WlR w' x u1 u2 u3 u4 u5 u6) (hl : mz_wld x ≤ 1048576) => wldS_c x u1 u2 u3 u4 u5 u6 w' hr (fitWld_of hl))
  have HIm := Lib.hid (fun u1 u2 u3 u4 u5 u6 w' (hr : WlR w' x u1 u2 u3 u4 u5 u6) (hl : mz_wld x ≤ 1048576) => wldI_c x u1 u2 u3 u4 u5 u6 w' hr (fitWld_of hl) hkw)
  obtain ⟨q, hq⟩ : ∃ q, wldOk x = q := ⟨_, rfl⟩
  rw [hq] at HSp HIm
  have k1 := h1
  obtain ⟨I1, i1, rfl, -, -, -⟩ := k1
  have k2 := h2
  obtain ⟨I2, i2, rfl, -, -, -⟩ := k2
  have k3 := h3
  obtain ⟨I3, i3, rfl, -, -, -⟩ := k3
  have k4 := h4
  obtain ⟨I4, i4, rfl, -, -, -⟩ := k4
  have k5 := h5
  obtain ⟨I5, i5, rfl, -, -, -⟩ := k5
  have k6 := h6
  obtain ⟨I6, i6, rfl, -, -, -⟩ := k6
  clear hq h1 h2 h3 h4 h5 h6 hkw
  have HB0 := Lib.hid (fun o => bel_alloc (Below.refl W.heap.size W) o)
  have HN0 := Lib.hid (Bx.new W 31 #[.slice I1 x.prog.cl.length i1, .slice I2 x.prog.pl.length i2, .slice I3 x.nodes.length i3, .slice I4 x.top.length i4, .slice I5 x.outs.length i5, .slice I6 x.net.length i6])
  cases q
  all_goals
    go_enter Tryz.func3, Tryz.ntmps3
    go_upto_region 10 with (first | (go_at_call 4; (with_reducible refine (HSz.out _ (HB0.out _)).mono ?_); rintro e w1 ⟨r, rfl, hr, hb⟩; have HR := Lib.hid hr; have HB1 := Lib.hid (bel_trans (HB0.out _) hb); have HN1 := Lib.hid (Bx.below HN0.out hb); have a1_0 := Bx.at' HN1.out 0 (.slice I1 x.prog.cl.length i1) rfl; have a1_1 := Bx.at' HN1.out 1 (.slice I2 x.prog.pl.length i2) rfl; have a1_2 := Bx.at' HN1.out 2 (.slice I3 x.nodes.length i3) rfl; have a1_3 := Bx.at' HN1.out 3 (.slice I4 x.top.length i4) rfl; have a1_4 := Bx.at' HN1.out 4 (.slice I5 x.outs.length i5) rfl; have a1_5 := Bx.at' HN1.out 5 (.slice I6 x.net.length i6) rfl; clear hr hb) | (go_at_call 6; (with_reducible refine (HTo.out _ HB1.out (by have := HR.out; omega)).mono ?_); rintro e w2 ⟨u1, u2, u3, u4, u5, u6, rfl, g1, g2, g3, g4, g5, g6, hb⟩; have HU := Lib.hid (WlR.mk ⟨g1, g2⟩ g3 g4 g5 g6); have HB2 := Lib.hid (bel_trans HB1.out hb); have HN2 := Lib.hid (Bx.below HN1.out hb); have a2_0 := Bx.at' HN2.out 0 (.slice I1 x.prog.cl.length i1) rfl; have a2_1 := Bx.at' HN2.out 1 (.slice I2 x.prog.pl.length i2) rfl; have a2_2 := Bx.at' HN2.out 2 (.slice I3 x.nodes.length i3) rfl; have a2_3 := Bx.at' HN2.out 3 (.slice I4 x.top.length i4) rfl; have a2_4 := Bx.at' HN2.out 4 (.slice I5 x.outs.length i5) rfl; have a2_5 := Bx.at' HN2.out 5 (.slice I6 x.net.length i6) rfl; clear g1 g2 g3 g4 g5 g6 hb) | (go_at_call 5; (with_reducible refine (HSp.out _ _ _ _ _ _ _ HU.out (by have := HR.out; omega)).mono ?_); rintro e w3 ⟨rfl, hb⟩; have HB3 := Lib.hid (bel_trans HB2.out hb); have HN3 := Lib.hid (Bx.below HN2.out hb); have a3_0 := Bx.at' HN3.out 0 (.slice I1 x.prog.cl.length i1) rfl; have a3_1 := Bx.at' HN3.out 1 (.slice I2 x.prog.pl.length i2) rfl; have a3_2 := Bx.at' HN3.out 2 (.slice I3 x.nodes.length i3) rfl; have a3_3 := Bx.at' HN3.out 3 (.slice I4 x.top.length i4) rfl; have a3_4 := Bx.at' HN3.out 4 (.slice I5 x.outs.length i5) rfl; have a3_5 := Bx.at' HN3.out 5 (.slice I6 x.net.length i6) rfl; clear hb) | (go_at_call 6; (with_reducible refine (HTo.out _ HB3.out (by have := HR.out; omega)).mono ?_); rintro e w4 ⟨t1, t2, t3, t4, t5, t6, rfl, g1, g2, g3, g4, g5, g6, hb⟩; have HT := Lib.hid (WlR.mk ⟨g1, g2⟩ g3 g4 g5 g6); have HB4 := Lib.hid (bel_trans HB3.out hb); have HN4 := Lib.hid (Bx.below HN3.out hb); have a4_0 := Bx.at' HN4.out 0 (.slice I1 x.prog.cl.length i1) rfl; have a4_1 := Bx.at' HN4.out 1 (.slice I2 x.prog.pl.length i2) rfl; have a4_2 := Bx.at' HN4.out 2 (.slice I3 x.nodes.length i3) rfl; have a4_3 := Bx.at' HN4.out 3 (.slice I4 x.top.length i4) rfl; have a4_4 := Bx.at' HN4.out 4 (.slice I5 x.outs.length i5) rfl; have a4_5 := Bx.at' HN4.out 5 (.slice I6 x.net.length i6) rfl; obtain ⟨J1, j1, rfl, -, -, -⟩ := g1; obtain ⟨J2, j2, rfl, -, -, -⟩ := g2; obtain ⟨J3, j3, rfl, -, -, -⟩ := g3; obtain ⟨J4, j4, rfl, -, -, -⟩ := g4; obtain ⟨J5, j5, rfl, -, -, -⟩ := g5; obtain ⟨J6, j6, rfl, -, -, -⟩ := g6; have HNx := Lib.hid (Bx.new w4 43 #[.slice J1 x.prog.cl.length j1, .slice J2 x.prog.pl.length j2, .slice J3 x.nodes.length j3, .slice J4 x.top.length j4, .slice J5 x.outs.length j5, .slice J6 x.net.length j6]); clear hb) | (go_at_call 7; (with_reducible refine (HIm.out _ _ _ _ _ _ _ (WlR.ext HT.out (bel_alloc (Below.refl _ w4) _)) (by have := HR.out; omega)).mono ?_); rintro e w5 ⟨rfl, hb⟩; have HB5 := Lib.hid (bel_trans (bel_alloc HB4.out _) hb); have HT5 := Lib.hid (WlR.ext HT.out (bel_trans (bel_alloc (Below.refl _ w4) _) hb)); have HN5 := Lib.hid (Bx.below (Bx.alloc HN4.out _) hb); have HX5 := Lib.hid (Bx.below HNx.out hb); clear hb))
    · go_ret
      exact ⟨rfl, HB1.out⟩
    · have HL := Lib.hid (show mz_wld x ≤ 1048576 by have := HR.out; omega)
      have a5_0 := Bx.at' HN5.out 0 (.slice I1 x.prog.cl.length i1) rfl
      have x5_0 := Bx.at' HX5.out 0 (.slice J1 x.prog.cl.length j1) rfl
      have a5_1 := Bx.at' HN5.out 1 (.slice I2 x.prog.pl.length i2) rfl
      have x5_1 := Bx.at' HX5.out 1 (.slice J2 x.prog.pl.length j2) rfl
      have a5_2 := Bx.at' HN5.out 2 (.slice I3 x.nodes.length i3) rfl
      have x5_2 := Bx.at' HX5.out 2 (.slice J3 x.nodes.length j3) rfl
      have a5_3 := Bx.at' HN5.out 3 (.slice I4 x.top.length i4) rfl
      have x5_3 := Bx.at' HX5.out 3 (.slice J4 x.top.length j4) rfl
      have a5_4 := Bx.at' HN5.out 4 (.slice I5 x.outs.length i5) rfl
      have x5_4 := Bx.at' HX5.out 4 (.slice J5 x.outs.length j5) rfl
      have a5_5 := Bx.at' HN5.out 5 (.slice I6 x.net.length i6) rfl
      have x5_5 := Bx.at' HX5.out 5 (.slice J6 x.net.length j6) rfl
      have hst : ∀ W1 W2, Below W1.heap.size W1 W2 → (W1.cell? ⟨W.heap.size, 0, none⟩ = some (.slice I1 x.prog.cl.length i1) ∧ W1.cell? ⟨W.heap.size, 1, none⟩ = some (.slice I2 x.prog.pl.length i2) ∧ W1.cell? ⟨W.heap.size, 2, none⟩ = some (.slice I3 x.nodes.length i3) ∧ W1.cell? ⟨W.heap.size, 3, none⟩ = some (.slice I4 x.top.length i4) ∧ W1.cell? ⟨W.heap.size, 4, none⟩ = some (.slice I5 x.outs.length i5) ∧ W1.cell? ⟨W.heap.size, 5, none⟩ = some (.slice I6 x.net.length i6) ∧ W1.cell? ⟨w4.heap.size, 0, none⟩ = some (.slice J1 x.prog.cl.length j1) ∧ W1.cell? ⟨w4.heap.size, 1, none⟩ = some (.slice J2 x.prog.pl.length j2) ∧ W1.cell? ⟨w4.heap.size, 2, none⟩ = some (.slice J3 x.nodes.length j3) ∧ W1.cell? ⟨w4.heap.size, 3, none⟩ = some (.slice J4 x.top.length j4) ∧ W1.cell? ⟨w4.heap.size, 4, none⟩ = some (.slice J5 x.outs.length j5) ∧ W1.cell? ⟨w4.heap.size, 5, none⟩ = some (.slice J6 x.net.length j6) ∧ Hid (Below w5.heap.size w5 W1)) → (W2.cell? ⟨W.heap.size, 0, none⟩ = some (.slice I1 x.prog.cl.length i1) ∧ W2.cell? ⟨W.heap.size, 1, none⟩ = some (.slice I2 x.prog.pl.length i2) ∧ W2.cell? ⟨W.heap.size, 2, none⟩ = some (.slice I3 x.nodes.length i3) ∧ W2.cell? ⟨W.heap.size, 3, none⟩ = some (.slice I4 x.top.length i4) ∧ W2.cell? ⟨W.heap.size, 4, none⟩ = some (.slice I5 x.outs.length i5) ∧ W2.cell? ⟨W.heap.size, 5, none⟩ = some (.slice I6 x.net.length i6) ∧ W2.cell? ⟨w4.heap.size, 0, none⟩ = some (.slice J1 x.prog.cl.length j1) ∧ W2.cell? ⟨w4.heap.size, 1, none⟩ = some (.slice J2 x.prog.pl.length j2) ∧ W2.cell? ⟨w4.heap.size, 2, none⟩ = some (.slice J3 x.nodes.length j3) ∧ W2.cell? ⟨w4.heap.size, 3, none⟩ = some (.slice J4 x.top.length j4) ∧ W2.cell? ⟨w4.heap.size, 4, none⟩ = some (.slice J5 x.outs.length j5) ∧ W2.cell? ⟨w4.heap.size, 5, none⟩ = some (.slice J6 x.net.length j6) ∧ Hid (Below w5.heap.size w5 W2)) := fun W1 W2 hb h => ⟨cell_keep hb h.1, cell_keep hb h.2.1, cell_keep hb h.2.2.1, cell_keep hb h.2.2.2.1, cell_keep hb h.2.2.2.2.1, cell_keep hb h.2.2.2.2.2.1, cell_keep hb h.2.2.2.2.2.2.1, cell_keep hb h.2.2.2.2.2.2.2.1, cell_keep hb h.2.2.2.2.2.2.2.2.1, cell_keep hb h.2.2.2.2.2.2.2.2.2.1, cell_keep hb h.2.2.2.2.2.2.2.2.2.2.1, cell_keep hb h.2.2.2.2.2.2.2.2.2.2.2.1, Lib.hid (bel_trans h.2.2.2.2.2.2.2.2.2.2.2.2.out hb)⟩
      have hS0 := hst w5 w5.drew (bel_drew (Below.refl _ _)) ⟨a5_0, a5_1, a5_2, a5_3, a5_4, a5_5, x5_0, x5_1, x5_2, x5_3, x5_4, x5_5, Lib.hid (Below.refl _ _)⟩
      go_region_held3 (fun W1 => W1.cell? ⟨W.heap.size, 0, none⟩ = some (.slice I1 x.prog.cl.length i1) ∧ W1.cell? ⟨W.heap.size, 1, none⟩ = some (.slice I2 x.prog.pl.length i2) ∧ W1.cell? ⟨W.heap.size, 2, none⟩ = some (.slice I3 x.nodes.length i3) ∧ W1.cell? ⟨W.heap.size, 3, none⟩ = some (.slice I4 x.top.length i4) ∧ W1.cell? ⟨W.heap.size, 4, none⟩ = some (.slice I5 x.outs.length i5) ∧ W1.cell? ⟨W.heap.size, 5, none⟩ = some (.slice I6 x.net.length i6) ∧ W1.cell? ⟨w4.heap.size, 0, none⟩ = some (.slice J1 x.prog.cl.length j1) ∧ W1.cell? ⟨w4.heap.size, 1, none⟩ = some (.slice J2 x.prog.pl.length j2) ∧ W1.cell? ⟨w4.heap.size, 2, none⟩ = some (.slice J3 x.nodes.length j3) ∧ W1.cell? ⟨w4.heap.size, 3, none⟩ = some (.slice J4 x.top.length j4) ∧ W1.cell? ⟨w4.heap.size, 4, none⟩ = some (.slice J5 x.outs.length j5) ∧ W1.cell? ⟨w4.heap.size, 5, none⟩ = some (.slice J6 x.net.length j6) ∧ Hid (Below w5.heap.size w5 W1)) (assumption) (first | (go_at_call 6; refine (HTo.out _ (bel_trans HB5.out hS0.2.2.2.2.2.2.2.2.2.2.2.2.out) HL.out).mono ?_; rintro e w6 ⟨s1, s2, s3, s4, s5, s6, rfl, g1, g2, g3, g4, g5, g6, hb⟩; have HV6 := Lib.hid (WlR.mk ⟨g1, g2⟩ g3 g4 g5 g6); have hS6 := hst _ _ hb (by assumption); clear g1 g2 g3 g4 g5 g6 hb) | (go_at_call 8; refine (HEq.out _ _ _ _ _ _ _ _ _ _ _ _ _ (HT5.out.ext hS6.2.2.2.2.2.2.2.2.2.2.2.2.out).p.c (HT5.out.ext hS6.2.2.2.2.2.2.2.2.2.2.2.2.out).p.p (HT5.out.ext hS6.2.2.2.2.2.2.2.2.2.2.2.2.out).n (HT5.out.ext hS6.2.2.2.2.2.2.2.2.2.2.2.2.out).t (HT5.out.ext hS6.2.2.2.2.2.2.2.2.2.2.2.2.out).u (HT5.out.ext hS6.2.2.2.2.2.2.2.2.2.2.2.2.out).m HV6.out.p.c HV6.out.p.p HV6.out.n HV6.out.t HV6.out.u HV6.out.m HL.out).mono ?_; rintro e w7 ⟨rfl, hb⟩; have hS7 := hst _ _ hb (by assumption); clear hb))
      all_goals
        have HB7 := hS7.2.2.2.2.2.2.2.2.2.2.2.2
        clear hst hS0
        go_wp2
        go_ret
        exact ⟨rfl, bel_trans HB5.out HB7.out⟩
end Go.Proofs.YtdoggcfdfkkedaaGreatDoor
