/- Lemmas and contracts for FnExactWldOk, part 25. -/
import Derived.Test.YtdoggcfdfkkedaaGreatDoorW18
import Derived.Test.YtdoggcfdfkkedaaGreatDoorW24
import Derived.Test.YtdoggcfdfkkedaaGreatDoorW11
import Derived.Test.YtdoggcfdfkkedaaGreatDoorW19
import Derived.Test.YtdoggcfdfkkedaaGreatDoorW08
namespace Go.Proofs.YtdoggcfdfkkedaaGreatDoor
open Go.RowKit
set_option maxRecDepth 100000
set_option maxHeartbeats 8000000
set_option linter.unusedVariables false
def fitN (n : Nod) : Prop := n.works.length ≤ 4000000 ∧ (∀ x ∈ n.works, fitW x)
def fitWld (x : Wld) : Prop := fitP x.prog ∧ fitT x.top ∧ fitOs x.outs ∧ x.nodes.length ≤ 4000000 ∧ (∀ n ∈ x.nodes, fitN n) ∧ x.net.length ≤ 4000000 ∧ ∀ m ∈ x.net, m.bytes.length ≤ 4000000
theorem AppI.work : AppI Tryz.prog 56 107 Kd.work := ⟨Tryz.underlying56, ⟨.agg #[.slice none 0 0, .int .i64 0, .bool false, .int .i64 0, .slice none 0 0, .slice none 0 0, .int .i64 0, .slice none 0 0, .slice none 0 0, .slice none 0 0], 176, by kernel_rfl, rfl, by decide⟩, by decide, by decide⟩
theorem load_cell10 {W : World} {ad : Addr} {v0 v1 v2 v3 v4 v5 v6 v7 v8 v9 : Value} (h0 : W.cell? ad = some v0) (h1 : W.cell? ⟨ad.block, ad.off + 1, none⟩ = some v1) (h2 : W.cell? ⟨ad.block, ad.off + 2, none⟩ = some v2) (h3 : W.cell? ⟨ad.block, ad.off + 3, none⟩ = some v3) (h4 : W.cell? ⟨ad.block, ad.off + 4, none⟩ = some v4) (h5 : W.cell? ⟨ad.block, ad.off + 5, none⟩ = some v5) (h6 : W.cell? ⟨ad.block, ad.off + 6, none⟩ = some v6) (h7 : W.cell? ⟨ad.block, ad.off + 7, none⟩ = some v7) (h8 : W.cell? ⟨ad.block, ad.off + 8, none⟩ = some v8) (h9 : W.cell? ⟨ad.block, ad.off + 9, none⟩ = some v9) : (Instr.loadAt 107 (.pointer (some ad))).run Tryz.prog W = .ok (.agg #[v0, v1, v2, v3, v4, v5, v6, v7, v8, v9]) W := by
  go_simp
theorem quiet_row10 {C : World → Prop} {K : Act → Prop} {a : Act} {o : Oper} {x : Operand} {ad : Addr} (ho : o.op = .load 107 x) (hx : a.eval x = .pointer (some ad))
    {v0 v1 v2 v3 v4 v5 v6 v7 v8 v9 : Value} (h0 : ∀ W, C W → W.cell? ad = some v0) (h1 : ∀ W, C W → W.cell? ⟨ad.block, ad.off + 1, none⟩ = some v1) (h2 : ∀ W, C W → W.cell? ⟨ad.block, ad.off + 2, none⟩ = some v2) (h3 : ∀ W, C W → W.cell? ⟨ad.block, ad.off + 3, none⟩ = some v3) (h4 : ∀ W, C W → W.cell? ⟨ad.block, ad.off + 4, none⟩ = some v4) (h5 : ∀ W, C W → W.cell? ⟨ad.block, ad.off + 5, none⟩ = some v5) (h6 : ∀ W, C W → W.cell? ⟨ad.block, ad.off + 6, none⟩ = some v6) (h7 : ∀ W, C W → W.cell? ⟨ad.block, ad.off + 7, none⟩ = some v7) (h8 : ∀ W, C W → W.cell? ⟨ad.block, ad.off + 8, none⟩ = some v8) (h9 : ∀ W, C W → W.cell? ⟨ad.block, ad.off + 9, none⟩ = some v9)
    (hk : K (a.put o.dst (.agg #[v0, v1, v2, v3, v4, v5, v6, v7, v8, v9]))) : o.quiet Tryz.prog a C K :=
  quiet_load ho hx (fun W hW => load_cell10 (h0 W hW) (h1 W hW) (h2 W hW) (h3 W hW) (h4 W hW) (h5 W hW) (h6 W hW) (h7 W hW) (h8 W hW) (h9 W hW)) hk
theorem load_nod {W : World} {ad : Addr} {v0 v1 : Value} (h0 : W.cell? ad = some v0) (h1 : W.cell? ⟨ad.block, ad.off + 1, none⟩ = some v1) : (Instr.loadAt 58 (.pointer (some ad))).run Tryz.prog W = .ok (.agg #[v0, v1]) W := by
  go_simp
theorem quiet_nod {C : World → Prop} {K : Act → Prop} {a : Act} {o : Oper} {x : Operand} {ad : Addr} (ho : o.op = .load 58 x) (hx : a.eval x = .pointer (some ad))
    {v0 v1 : Value} (h0 : ∀ W, C W → W.cell? ad = some v0) (h1 : ∀ W, C W → W.cell? ⟨ad.block, ad.off + 1, none⟩ = some v1)
    (hk : K (a.put o.dst (.agg #[v0, v1]))) : o.quiet Tryz.prog a C K :=
  quiet_load ho hx (fun W hW => load_nod (h0 W hW) (h1 W hW)) hk
theorem worksOk_step {p : Prog} {node : Int} {ws : List Work} {k : Nat} {x : Work} (h : ws[k]? = some x) :
    worksOk p node (ws.take k) (ws.drop k) = (workOk p node x && !(ws.take k).any (fun y => decide (y.slv.top = x.slv.top)) && worksOk p node (ws.take (k + 1)) (ws.drop (k + 1))) := by
  obtain ⟨hl, hx⟩ := List.getElem?_eq_some_iff.1 h
  rw [drop_one h, List.take_succ_eq_append_getElem hl, hx]; rfl
theorem nodOk_eq (p : Prog) (node : Int) (n : Nod) : nodOk p node n = (prgOk p && inR node 0 2 && !decide ((32 : Int) < (n.works.length : Int)) && !(!n.up && decide ((0 : Int) < (n.works.length : Int))) && worksOk p node (n.works.take 0) (n.works.drop 0)) := by
  unfold nodOk
  have e1 : decide (n.works.length ≤ 32) = !decide ((32 : Int) < (n.works.length : Int)) := by
    by_cases h : n.works.length ≤ 32
    · rw [decide_eq_true h, decide_eq_false (by omega)]; rfl
    · rw [decide_eq_false h, decide_eq_true (by omega)]; rfl
  have e2 : (n.up || n.works.isEmpty) = !(!n.up && decide ((0 : Int) < (n.works.length : Int))) := by
    cases hn : n.works with
    | nil => cases n.up <;> rfl
    | cons a b => rw [show decide ((0 : Int) < ((a :: b).length : Int)) = true from decide_eq_true (by simp)]; cases n.up <;> rfl
  rw [e1, e2]; rfl
theorem nodS_c (p : Prog) (node : Int) (n : Nod) (p1 p2 wv : Value) (w : World) (hp : PrR w p p1 p2) (hn : Kd.work.S 107 w wv n.works) (hfp : fitP p) (hf : fitN n) :
    Calls Tryz.prog 17 #[.agg #[p1, p2], .int .i64 node, .agg #[.bool n.up, wv]] w fun e w' => e = .returned (.bool (nodOk p node n)) ∧ Below w.heap.size w w' := by
  have HP := Lib.hid hp
  have HS := Lib.hid hn
  have hlen := hf.1
  have HF := Lib.hid hf.2
  have HPk := Lib.hid (fun W hb => prgOkS_c p p1 p2 W (hp.ext (w := w) hb).c (hp.ext hb).p hfp)
  have HIn := Lib.hid (fun W => lIn_c node 0 2 W)
  have HV := Lib.hid (nodOk_eq p node n)
  obtain ⟨WA, wn, rfl, u1, u2, hWC⟩ := hn
  have HWC := Lib.hid hWC
  rw [show (decide (0 ≤ node) && decide (node ≤ 2)) = inR node 0 2 from rfl] at HIn
  obtain ⟨q1, e1⟩ : ∃ q, prgOk p = q := ⟨_, rfl⟩
  obtain ⟨q2, e2⟩ : ∃ q, inR node 0 2 = q := ⟨_, rfl⟩
  obtain ⟨q3, e3⟩ : ∃ q, decide ((32 : Int) < (n.works.length : Int)) = q := ⟨_, rfl⟩
  obtain ⟨q4, e4⟩ : ∃ q, decide ((0 : Int) < (n.works.length : Int)) = q := ⟨_, rfl⟩
  have e3n : decide (32 < n.works.length) = q3 := by rw [← e3]; by_cases h : 32 < n.works.length <;> simp [h] <;> omega
  have e4n : decide (0 < n.works.length) = q4 := by rw [← e4]; by_cases h : 0 < n.works.length <;> simp [h] <;> omega
  obtain ⟨q5, e5⟩ : ∃ q, n.up = q := ⟨_, rfl⟩
  rw [e1, e2, e3, e4, e5] at HV
  rw [e1] at HPk
  rw [e2] at HIn
  rw [e5]
  obtain ⟨Z, hZ⟩ : ∃ Z, worksOk p node (n.works.take 0) (n.works.drop 0) = Z := ⟨_, rfl⟩
  have HZ0 := Lib.hid hZ
  rw [hZ] at HV
  clear e1 e2 e5 hf hWC hZ
  have HB0 := Lib.hid (fun c1 c2 => bel_alloc (bel_alloc (Below.refl w.heap.size w) (.cells c1 37)) (.cells c2 58))
  have HP0 := Lib.hid (fun c1 c2 => bx2_0 w 37 58 c1 c2)
  have HQ0 := Lib.hid (fun c1 c2 => bx2_1 w 37 58 c1 c2)
  by_cases hall : (q1 && q2 && !q3 && !(!q5 && q4)) = true
  · obtain ⟨rfl, rfl, rfl⟩ : q1 = true ∧ q2 = true ∧ q3 = false := by cases q1 <;> cases q2 <;> cases q3 <;> simp_all
    cases q5
    · obtain rfl : q4 = false := by cases q4 <;> simp_all
      clear hall
      have HN := Lib.hid (show nodOk p node n = Z by rw [HV.out]; rfl)
      go_enter Tryz.func17, Tryz.ntmps17
      go_wp2_with (first | (go_at_call 14; (with_reducible refine (HPk.out _ (HB0.out _ _)).mono ?_); rintro e w1 ⟨rfl, hb⟩; have HB1 := Lib.hid (bel_trans (HB0.out _ _) hb); have HP1 := Lib.hid (Bx.below (HP0.out _ _) hb); have HQ1 := Lib.hid (Bx.below (HQ0.out _ _) hb); have b1 := Bx.at' HQ1.out 1 (.slice WA n.works.length wn) rfl; have b0 := Bx.at' HQ1.out 0 (.bool false) rfl; clear hb) | (go_at_call 18; (with_reducible refine (HIn.out _).mono ?_); rintro e w4 ⟨rfl, rfl⟩))
      go_loopw [7] (fun v7 wr => ∃ k : Nat, v7 = .int .i64 k ∧ k ≤ n.works.length ∧ Hid (worksOk p node (n.works.take k) (n.works.drop k) = Z) ∧ Hid (Below w1.heap.size w1 wr)) (fun v7 _ => n.works.length - (intOf v7).toNat)
      case atStart => exact ⟨0, rfl, Nat.zero_le _, HZ0, Lib.hid (Below.refl _ _)⟩
      case round =>
        obtain ⟨k, rfl, hk, HRr, HBr⟩ := hrel
        have HBw := Lib.hid (bel_trans HB1.out HBr.out)
        have HPr := Lib.hid (Bx.below HP1.out HBr.out)
        have HQr := Lib.hid (Bx.below HQ1.out HBr.out)
        have c0 := Bx.at' HPr.out 0 p1 rfl
        have c1 := Bx.at' HPr.out 1 p2 rfl
        have c2 := Bx.at' HQr.out 1 (.slice WA n.works.length wn) rfl
        clear b0 b1
        by_cases hlt : k < n.works.length
        · obtain ⟨x, hc⟩ : ∃ x, n.works[k]? = some x := ⟨_, List.getElem?_eq_getElem hlt⟩
          obtain ⟨ad, v1, v2, v3, v4, v5, v6, had, x0, x1, x2, x3, x4, x5, x6, x7, x8, x9, h1, h2, h3, h4, h5, h6⟩ := dwork_at HWC.out hc
          have hfx := HF.out x (List.mem_of_getElem? hc)
          have HWk := Lib.hid (fun W (hb : Below w.heap.size w W) => workS_c p node x p1 p2 v1 v2 v3 v4 v5 v6 W (HP.out.ext hb) ⟨Kd.S_ext hb h1, Kd.S_ext hb h2, Kd.S_ext hb h3, Kd.S_ext hb h4, Kd.S_ext hb h5, Kd.S_ext hb h6⟩ hfp hfx)
          have HFd := Lib.hid (fun W (hb : Below w.heap.size w W) => findS_c x.slv.top (n.works.take k) (.slice WA k wn) v5 W (S_take (Kd.S_ext hb HS.out) (by omega)) (Kd.S_ext hb h5) (by rw [List.length_take]; omega) (fit_len hfx.2.2.2.2.1) (fun y hy => fit_len (HF.out y (List.mem_of_mem_take hy)).2.2.2.2.1))
          have HST := Lib.hid ((worksOk_step (p := p) (node := node) hc).symm.trans HRr.out)
          obtain ⟨qa, ea⟩ : ∃ q, workOk p node x = q := ⟨_, rfl⟩
          obtain ⟨r, er⟩ : ∃ r, findW x.slv.top 0 (n.works.take k) = r := ⟨_, rfl⟩
          obtain ⟨qf, ef⟩ : ∃ q, decide (0 ≤ r) = q := ⟨_, rfl⟩
          rw [ea, ← findW_any x.slv.top 0 (n.works.take k), er, ef] at HST
          rw [ea] at HWk
          rw [er] at HFd
          have x0 := cell_keep HBw.out x0
          have x1 := cell_keep HBw.out x1
          have x2 := cell_keep HBw.out x2
          have x3 := cell_keep HBw.out x3
          have x4 := cell_keep HBw.out x4
          have x5 := cell_keep HBw.out x5
          have x6 := cell_keep HBw.out x6
          have x7 := cell_keep HBw.out x7
          have x8 := cell_keep HBw.out x8
          have x9 := cell_keep HBw.out x9
          clear ea er hc hfx h1 h2 h3 h4 h5 h6
          subst had
          go_upto_region 6 with (fail)
          cases qa
          · have HX := Lib.hid (show false = Z from HST.out)
            refine wp_region_below (by kernel_rfl) (by kernel_rfl) ?_; (repeat (first | go_big_quiet_skip | (go_big_quiet_want; first | (first | (refine quiet_row2 rfl rfl (fun W hW => BelC.cell hW (by assumption)) (fun W hW => BelC.cell hW (by assumption)) ?_; go_big_quiet_on; simp only [Act.put, List.setIfInBounds_toArray, List.set_cons_zero, List.set_cons_succ]) | (refine quiet_row10 rfl rfl (fun W hW => BelC.cell hW (by assumption)) (fun W hW => BelC.cell hW (by assumption)) (fun W hW => BelC.cell hW (by assumption)) (fun W hW => BelC.cell hW (by assumption)) (fun W hW => BelC.cell hW (by assumption)) (fun W hW => BelC.cell hW (by assumption)) (fun W hW => BelC.cell hW (by assumption)) (fun W hW => BelC.cell hW (by assumption)) (fun W hW => BelC.cell hW (by assumption)) (fun W hW => BelC.cell hW (by assumption)) ?_; go_big_quiet_on; simp only [Act.put, List.setIfInBounds_toArray, List.set_cons_zero, List.set_cons_succ]) | (refine quiet_sub_h AppI.work rfl rfl rfl (by omega) (by omega) ?_; go_big_quiet_on; simp only [Act.put, List.setIfInBounds_toArray, List.set_cons_zero, List.set_cons_succ])) | (refine quiet_cell rfl rfl (fun W v hv => (by go_simp)) (fun W hW => BelC.cell hW (by assumption)) ?_; go_big_quiet_on; simp only [Act.put, List.setIfInBounds_toArray, List.set_cons_zero, List.set_cons_succ]) | (go_big_quiet_op; first | go_big_quiet_on | ((first | with_reducible refine ⟨_, fun W hW => (HWk.out W (bel_trans HBw.out hW.bel)).mono (fun e w' hh => ⟨hh.1, hW.step hh.2⟩), ?_⟩ | with_reducible refine ⟨_, fun W hW => (HFd.out W (bel_trans HBw.out hW.bel)).mono (fun e w' hh => ⟨hh.1, hW.step hh.2⟩), ?_⟩); go_big_quiet_on) | (refine ⟨_, fun _ _ => rfl, ?_⟩; go_big_quiet_on))))); refine wpQuiet_nil ?_; intro w2 hw2
            go_wp2
            go_ret
            exact ⟨ret_bool (HX.out.trans HN.out.symm), bel_trans HBw.out hw2.bel⟩
          · cases qf
            · have HX := Lib.hid (show worksOk p node (n.works.take (k + 1)) (n.works.drop (k + 1)) = Z from HST.out)
              refine wp_region_below (by kernel_rfl) (by kernel_rfl) ?_; (repeat (first | go_big_quiet_skip | (go_big_quiet_want; first | (first | (refine quiet_row2 rfl rfl (fun W hW => BelC.cell hW (by assumption)) (fun W hW => BelC.cell hW (by assumption)) ?_; go_big_quiet_on; simp only [Act.put, List.setIfInBounds_toArray, List.set_cons_zero, List.set_cons_succ]) | (refine quiet_row10 rfl rfl (fun W hW => BelC.cell hW (by assumption)) (fun W hW => BelC.cell hW (by assumption)) (fun W hW => BelC.cell hW (by assumption)) (fun W hW => BelC.cell hW (by assumption)) (fun W hW => BelC.cell hW (by assumption)) (fun W hW => BelC.cell hW (by assumption)) (fun W hW => BelC.cell hW (by assumption)) (fun W hW => BelC.cell hW (by assumption)) (fun W hW => BelC.cell hW (by assumption)) (fun W hW => BelC.cell hW (by assumption)) ?_; go_big_quiet_on; simp only [Act.put, List.setIfInBounds_toArray, List.set_cons_zero, List.set_cons_succ]) | (refine quiet_sub_h AppI.work rfl rfl rfl (by omega) (by omega) ?_; go_big_quiet_on; simp only [Act.put, List.setIfInBounds_toArray, List.set_cons_zero, List.set_cons_succ])) | (refine quiet_cell rfl rfl (fun W v hv => (by go_simp)) (fun W hW => BelC.cell hW (by assumption)) ?_; go_big_quiet_on; simp only [Act.put, List.setIfInBounds_toArray, List.set_cons_zero, List.set_cons_succ]) | (go_big_quiet_op; first | go_big_quiet_on | ((first | with_reducible refine ⟨_, fun W hW => (HWk.out W (bel_trans HBw.out hW.bel)).mono (fun e w' hh => ⟨hh.1, hW.step hh.2⟩), ?_⟩ | with_reducible refine ⟨_, fun W hW => (HFd.out W (bel_trans HBw.out hW.bel)).mono (fun e w' hh => ⟨hh.1, hW.step hh.2⟩), ?_⟩); go_big_quiet_on) | (refine ⟨_, fun _ _ => rfl, ?_⟩; go_big_quiet_on))))); refine wpQuiet_nil ?_; intro w2 hw2
              have HBn := Lib.hid (bel_trans HBr.out hw2.bel)
              clear hw2
              go_wp2
              exact ⟨⟨k + 1, by go_num, hlt, HX, HBn⟩, by simp [intOf]; omega⟩
            · have HX := Lib.hid (show false = Z from HST.out)
              refine wp_region_below (by kernel_rfl) (by kernel_rfl) ?_; (repeat (first | go_big_quiet_skip | (go_big_quiet_want; first | (first | (refine quiet_row2 rfl rfl (fun W hW => BelC.cell hW (by assumption)) (fun W hW => BelC.cell hW (by assumption)) ?_; go_big_quiet_on; simp only [Act.put, List.setIfInBounds_toArray, List.set_cons_zero, List.set_cons_succ]) | (refine quiet_row10 rfl rfl (fun W hW => BelC.cell hW (by assumption)) (fun W hW => BelC.cell hW (by assumption)) (fun W hW => BelC.cell hW (by assumption)) (fun W hW => BelC.cell hW (by assumption)) (fun W hW => BelC.cell hW (by assumption)) (fun W hW => BelC.cell hW (by assumption)) (fun W hW => BelC.cell hW (by assumption)) (fun W hW => BelC.cell hW (by assumption)) (fun W hW => BelC.cell hW (by assumption)) (fun W hW => BelC.cell hW (by assumption)) ?_; go_big_quiet_on; simp only [Act.put, List.setIfInBounds_toArray, List.set_cons_zero, List.set_cons_succ]) | (refine quiet_sub_h AppI.work rfl rfl rfl (by omega) (by omega) ?_; go_big_quiet_on; simp only [Act.put, List.setIfInBounds_toArray, List.set_cons_zero, List.set_cons_succ])) | (refine quiet_cell rfl rfl (fun W v hv => (by go_simp)) (fun W hW => BelC.cell hW (by assumption)) ?_; go_big_quiet_on; simp only [Act.put, List.setIfInBounds_toArray, List.set_cons_zero, List.set_cons_succ]) | (go_big_quiet_op; first | go_big_quiet_on | ((first | with_reducible refine ⟨_, fun W hW => (HWk.out W (bel_trans HBw.out hW.bel)).mono (fun e w' hh => ⟨hh.1, hW.step hh.2⟩), ?_⟩ | with_reducible refine ⟨_, fun W hW => (HFd.out W (bel_trans HBw.out hW.bel)).mono (fun e w' hh => ⟨hh.1, hW.step hh.2⟩), ?_⟩); go_big_quiet_on) | (refine ⟨_, fun _ _ => rfl, ?_⟩; go_big_quiet_on))))); refine wpQuiet_nil ?_; intro w2 hw2
              go_wp2
              go_ret
              exact ⟨ret_bool (HX.out.trans HN.out.symm), bel_trans HBw.out hw2.bel⟩
        · have HX := Lib.hid (show true = Z by have := HRr.out; rwa [List.drop_of_length_le (by omega)] at this)
          go_wp2
          go_ret
          exact ⟨ret_bool (HX.out.trans HN.out.symm), HBw.out⟩
    · clear hall
      cases q4
      all_goals
        have HN := Lib.hid (show nodOk p node n = Z by rw [HV.out]; rfl)
        go_enter Tryz.func17, Tryz.ntmps17
        go_wp2_with (first | (go_at_call 14; (with_reducible refine (HPk.out _ (HB0.out _ _)).mono ?_); rintro e w1 ⟨rfl, hb⟩; have HB1 := Lib.hid (bel_trans (HB0.out _ _) hb); have HP1 := Lib.hid (Bx.below (HP0.out _ _) hb); have HQ1 := Lib.hid (Bx.below (HQ0.out _ _) hb); have b1 := Bx.at' HQ1.out 1 (.slice WA n.works.length wn) rfl; have b0 := Bx.at' HQ1.out 0 (.bool true) rfl; clear hb) | (go_at_call 18; (with_reducible refine (HIn.out _).mono ?_); rintro e w4 ⟨rfl, rfl⟩))
        go_loopw [7] (fun v7 wr => ∃ k : Nat, v7 = .int .i64 k ∧ k ≤ n.works.length ∧ Hid (worksOk p node (n.works.take k) (n.works.drop k) = Z) ∧ Hid (Below w1.heap.size w1 wr)) (fun v7 _ => n.works.length - (intOf v7).toNat)
        case atStart => exact ⟨0, rfl, Nat.zero_le _, HZ0, Lib.hid (Below.refl _ _)⟩
        case round =>
          obtain ⟨k, rfl, hk, HRr, HBr⟩ := hrel
          have HBw := Lib.hid (bel_trans HB1.out HBr.out)
          have HPr := Lib.hid (Bx.below HP1.out HBr.out)
          have HQr := Lib.hid (Bx.below HQ1.out HBr.out)
          have c0 := Bx.at' HPr.out 0 p1 rfl
          have c1 := Bx.at' HPr.out 1 p2 rfl
          have c2 := Bx.at' HQr.out 1 (.slice WA n.works.length wn) rfl
          clear b0 b1
          by_cases hlt : k < n.works.length
          · obtain ⟨x, hc⟩ : ∃ x, n.works[k]? = some x := ⟨_, List.getElem?_eq_getElem hlt⟩
            obtain ⟨ad, v1, v2, v3, v4, v5, v6, had, x0, x1, x2, x3, x4, x5, x6, x7, x8, x9, h1, h2, h3, h4, h5, h6⟩ := dwork_at HWC.out hc
            have hfx := HF.out x (List.mem_of_getElem? hc)
            have HWk := Lib.hid (fun W (hb : Below w.heap.size w W) => workS_c p node x p1 p2 v1 v2 v3 v4 v5 v6 W (HP.out.ext hb) ⟨Kd.S_ext hb h1, Kd.S_ext hb h2, Kd.S_ext hb h3, Kd.S_ext hb h4, Kd.S_ext hb h5, Kd.S_ext hb h6⟩ hfp hfx)
            have HFd := Lib.hid (fun W (hb : Below w.heap.size w W) => findS_c x.slv.top (n.works.take k) (.slice WA k wn) v5 W (S_take (Kd.S_ext hb HS.out) (by omega)) (Kd.S_ext hb h5) (by rw [List.length_take]; omega) (fit_len hfx.2.2.2.2.1) (fun y hy => fit_len (HF.out y (List.mem_of_mem_take hy)).2.2.2.2.1))
            have HST := Lib.hid ((worksOk_step (p := p) (node := node) hc).symm.trans HRr.out)
            obtain ⟨qa, ea⟩ : ∃ q, workOk p node x = q := ⟨_, rfl⟩
            obtain ⟨r, er⟩ : ∃ r, findW x.slv.top 0 (n.works.take k) = r := ⟨_, rfl⟩
            obtain ⟨qf, ef⟩ : ∃ q, decide (0 ≤ r) = q := ⟨_, rfl⟩
            rw [ea, ← findW_any x.slv.top 0 (n.works.take k), er, ef] at HST
            rw [ea] at HWk
            rw [er] at HFd
            have x0 := cell_keep HBw.out x0
            have x1 := cell_keep HBw.out x1
            have x2 := cell_keep HBw.out x2
            have x3 := cell_keep HBw.out x3
            have x4 := cell_keep HBw.out x4
            have x5 := cell_keep HBw.out x5
            have x6 := cell_keep HBw.out x6
            have x7 := cell_keep HBw.out x7
            have x8 := cell_keep HBw.out x8
            have x9 := cell_keep HBw.out x9
            clear ea er hc hfx h1 h2 h3 h4 h5 h6
            subst had
            go_upto_region 6 with (fail)
            cases qa
            · have HX := Lib.hid (show false = Z from HST.out)
              refine wp_region_below (by kernel_rfl) (by kernel_rfl) ?_; (repeat (first | go_big_quiet_skip | (go_big_quiet_want; first | (first | (refine quiet_row2 rfl rfl (fun W hW => BelC.cell hW (by assumption)) (fun W hW => BelC.cell hW (by assumption)) ?_; go_big_quiet_on; simp only [Act.put, List.setIfInBounds_toArray, List.set_cons_zero, List.set_cons_succ]) | (refine quiet_row10 rfl rfl (fun W hW => BelC.cell hW (by assumption)) (fun W hW => BelC.cell hW (by assumption)) (fun W hW => BelC.cell hW (by assumption)) (fun W hW => BelC.cell hW (by assumption)) (fun W hW => BelC.cell hW (by assumption)) (fun W hW => BelC.cell hW (by assumption)) (fun W hW => BelC.cell hW (by assumption)) (fun W hW => BelC.cell hW (by assumption)) (fun W hW => BelC.cell hW (by assumption)) (fun W hW => BelC.cell hW (by assumption)) ?_; go_big_quiet_on; simp only [Act.put, List.setIfInBounds_toArray, List.set_cons_zero, List.set_cons_succ]) | (refine quiet_sub_h AppI.work rfl rfl rfl (by omega) (by omega) ?_; go_big_quiet_on; simp only [Act.put, List.setIfInBounds_toArray, List.set_cons_zero, List.set_cons_succ])) | (refine quiet_cell rfl rfl (fun W v hv => (by go_simp)) (fun W hW => BelC.cell hW (by assumption)) ?_; go_big_quiet_on; simp only [Act.put, List.setIfInBounds_toArray, List.set_cons_zero, List.set_cons_succ]) | (go_big_quiet_op; first | go_big_quiet_on | ((first | with_reducible refine ⟨_, fun W hW => (HWk.out W (bel_trans HBw.out hW.bel)).mono (fun e w' hh => ⟨hh.1, hW.step hh.2⟩), ?_⟩ | with_reducible refine ⟨_, fun W hW => (HFd.out W (bel_trans HBw.out hW.bel)).mono (fun e w' hh => ⟨hh.1, hW.step hh.2⟩), ?_⟩); go_big_quiet_on) | (refine ⟨_, fun _ _ => rfl, ?_⟩; go_big_quiet_on))))); refine wpQuiet_nil ?_; intro w2 hw2
              go_wp2
              go_ret
              exact ⟨ret_bool (HX.out.trans HN.out.symm), bel_trans HBw.out hw2.bel⟩
            · cases qf
              · have HX := Lib.hid (show worksOk p node (n.works.take (k + 1)) (n.works.drop (k + 1)) = Z from HST.out)
                refine wp_region_below (by kernel_rfl) (by kernel_rfl) ?_; (repeat (first | go_big_quiet_skip | (go_big_quiet_want; first | (first | (refine quiet_row2 rfl rfl (fun W hW => BelC.cell hW (by assumption)) (fun W hW => BelC.cell hW (by assumption)) ?_; go_big_quiet_on; simp only [Act.put, List.setIfInBounds_toArray, List.set_cons_zero, List.set_cons_succ]) | (refine quiet_row10 rfl rfl (fun W hW => BelC.cell hW (by assumption)) (fun W hW => BelC.cell hW (by assumption)) (fun W hW => BelC.cell hW (by assumption)) (fun W hW => BelC.cell hW (by assumption)) (fun W hW => BelC.cell hW (by assumption)) (fun W hW => BelC.cell hW (by assumption)) (fun W hW => BelC.cell hW (by assumption)) (fun W hW => BelC.cell hW (by assumption)) (fun W hW => BelC.cell hW (by assumption)) (fun W hW => BelC.cell hW (by assumption)) ?_; go_big_quiet_on; simp only [Act.put, List.setIfInBounds_toArray, List.set_cons_zero, List.set_cons_succ]) | (refine quiet_sub_h AppI.work rfl rfl rfl (by omega) (by omega) ?_; go_big_quiet_on; simp only [Act.put, List.setIfInBounds_toArray, List.set_cons_zero, List.set_cons_succ])) | (refine quiet_cell rfl rfl (fun W v hv => (by go_simp)) (fun W hW => BelC.cell hW (by assumption)) ?_; go_big_quiet_on; simp only [Act.put, List.setIfInBounds_toArray, List.set_cons_zero, List.set_cons_succ]) | (go_big_quiet_op; first | go_big_quiet_on | ((first | with_reducible refine ⟨_, fun W hW => (HWk.out W (bel_trans HBw.out hW.bel)).mono (fun e w' hh => ⟨hh.1, hW.step hh.2⟩), ?_⟩ | with_reducible refine ⟨_, fun W hW => (HFd.out W (bel_trans HBw.out hW.bel)).mono (fun e w' hh => ⟨hh.1, hW.step hh.2⟩), ?_⟩); go_big_quiet_on) | (refine ⟨_, fun _ _ => rfl, ?_⟩; go_big_quiet_on))))); refine wpQuiet_nil ?_; intro w2 hw2
                have HBn := Lib.hid (bel_trans HBr.out hw2.bel)
                clear hw2
                go_wp2
                exact ⟨⟨k + 1, by go_num, hlt, HX, HBn⟩, by simp [intOf]; omega⟩
              · have HX := Lib.hid (show false = Z from HST.out)
                refine wp_region_below (by kernel_rfl) (by kernel_rfl) ?_; (repeat (first | go_big_quiet_skip | (go_big_quiet_want; first | (first | (refine quiet_row2 rfl rfl (fun W hW => BelC.cell hW (by assumption)) (fun W hW => BelC.cell hW (by assumption)) ?_; go_big_quiet_on; simp only [Act.put, List.setIfInBounds_toArray, List.set_cons_zero, List.set_cons_succ]) | (refine quiet_row10 rfl rfl (fun W hW => BelC.cell hW (by assumption)) (fun W hW => BelC.cell hW (by assumption)) (fun W hW => BelC.cell hW (by assumption)) (fun W hW => BelC.cell hW (by assumption)) (fun W hW => BelC.cell hW (by assumption)) (fun W hW => BelC.cell hW (by assumption)) (fun W hW => BelC.cell hW (by assumption)) (fun W hW => BelC.cell hW (by assumption)) (fun W hW => BelC.cell hW (by assumption)) (fun W hW => BelC.cell hW (by assumption)) ?_; go_big_quiet_on; simp only [Act.put, List.setIfInBounds_toArray, List.set_cons_zero, List.set_cons_succ]) | (refine quiet_sub_h AppI.work rfl rfl rfl (by omega) (by omega) ?_; go_big_quiet_on; simp only [Act.put, List.setIfInBounds_toArray, List.set_cons_zero, List.set_cons_succ])) | (refine quiet_cell rfl rfl (fun W v hv => (by go_simp)) (fun W hW => BelC.cell hW (by assumption)) ?_; go_big_quiet_on; simp only [Act.put, List.setIfInBounds_toArray, List.set_cons_zero, List.set_cons_succ]) | (go_big_quiet_op; first | go_big_quiet_on | ((first | with_reducible refine ⟨_, fun W hW => (HWk.out W (bel_trans HBw.out hW.bel)).mono (fun e w' hh => ⟨hh.1, hW.step hh.2⟩), ?_⟩ | with_reducible refine ⟨_, fun W hW => (HFd.out W (bel_trans HBw.out hW.bel)).mono (fun e w' hh => ⟨hh.1, hW.step hh.2⟩), ?_⟩); go_big_quiet_on) | (refine ⟨_, fun _ _ => rfl, ?_⟩; go_big_quiet_on))))); refine wpQuiet_nil ?_; intro w2 hw2
                go_wp2
                go_ret
                exact ⟨ret_bool (HX.out.trans HN.out.symm), bel_trans HBw.out hw2.bel⟩
          · have HX := Lib.hid (show true = Z by have := HRr.out; rwa [List.drop_of_length_le (by omega)] at this)
            go_wp2
            go_ret
            exact ⟨ret_bool (HX.out.trans HN.out.symm), HBw.out⟩
  · have HN := Lib.hid (show nodOk p node n = false by rw [HV.out, Bool.eq_false_iff.2 hall]; rfl)
    cases q5
    · cases q1 <;> cases q2 <;> cases q3 <;> cases q4
      all_goals (try exact absurd rfl hall)
      all_goals
        clear hall
        go_enter Tryz.func17, Tryz.ntmps17
        go_wp2_with (first | (go_at_call 14; (with_reducible refine (HPk.out _ (HB0.out _ _)).mono ?_); rintro e w1 ⟨rfl, hb⟩; have HB1 := Lib.hid (bel_trans (HB0.out _ _) hb); have HP1 := Lib.hid (Bx.below (HP0.out _ _) hb); have HQ1 := Lib.hid (Bx.below (HQ0.out _ _) hb); have b1 := Bx.at' HQ1.out 1 (.slice WA n.works.length wn) rfl; have b0 := Bx.at' HQ1.out 0 (.bool false) rfl; clear hb) | (go_at_call 18; (with_reducible refine (HIn.out _).mono ?_); rintro e w4 ⟨rfl, rfl⟩))
        go_ret
        exact ⟨ret_bool HN.out.symm, HB1.out⟩
    · cases q1 <;> cases q2 <;> cases q3 <;> cases q4
      all_goals (try exact absurd rfl hall)
      all_goals
        clear hall
        go_enter Tryz.func17, Tryz.ntmps17
        go_wp2_with (first | (go_at_call 14; (with_reducible refine (HPk.out _ (HB0.out _ _)).mono ?_); rintro e w1 ⟨rfl, hb⟩; have HB1 := Lib.hid (bel_trans (HB0.out _ _) hb); have HP1 := Lib.hid (Bx.below (HP0.out _ _) hb); have HQ1 := Lib.hid (Bx.below (HQ0.out _ _) hb); have b1 := Bx.at' HQ1.out 1 (.slice WA n.works.length wn) rfl; have b0 := Bx.at' HQ1.out 0 (.bool true) rfl; clear hb) | (go_at_call 18; (with_reducible refine (HIn.out _).mono ?_); rintro e w4 ⟨rfl, rfl⟩))
        go_ret
        exact ⟨ret_bool HN.out.symm, HB1.out⟩
end Go.Proofs.YtdoggcfdfkkedaaGreatDoor
namespace Go.Proofs.YtdoggcfdfkkedaaGreatDoor
set_option linter.unusedVariables false
theorem fitT_of {t : Trm} (h : szL mz_cell t ≤ 1048576) : fitT t :=
  ⟨by have := szL_len (m := mz_cell) (xs := t); omega, fun c hc => by have := szL_mem (m := mz_cell) hc; unfold mz_cell at *; omega⟩
theorem fitG_of {g : Goal} (h : mz_goal g ≤ 1048576) : fitG g := by
  unfold mz_goal at h
  exact ⟨fitT_of (by omega), fitT_of (by omega), fitT_of (by omega)⟩
theorem fitC_of {c : Clause} (h : mz_clause c ≤ 1048576) : fitC c := by
  unfold mz_clause at h
  have h2 := szL_len (m := mz_goal) (xs := c.body)
  exact ⟨fitT_of (by omega), by omega, fun g hg => fitG_of (by have := szL_mem (m := mz_goal) hg; omega)⟩
theorem fitP_of {p : Prog} (h : mz_prog p ≤ 1048576) : fitP p := by
  unfold mz_prog at h
  have h2 := szL_len (m := mz_clause) (xs := p.cl)
  have h3 := szL_len (m := mz_place) (xs := p.pl)
  exact ⟨by omega, fun c hc => fitC_of (by have := szL_mem (m := mz_clause) hc; omega), by omega, fun x hx => by have := szL_mem (m := mz_place) hx; unfold mz_place at *; omega⟩
theorem fitGs_of {gs : List SGoal} (h : szL mz_sgoal gs ≤ 1048576) : fitGs gs :=
  ⟨by have := szL_len (m := mz_sgoal) (xs := gs); omega, fun g hg => fitG_of (by have := szL_mem (m := mz_sgoal) hg; have e : mz_sgoal g = mz_goal g.g := rfl; omega)⟩
theorem sum_le_of {α : Type} {f g : α → Nat} (h : ∀ x, f x ≤ g x) : ∀ xs : List α, (xs.map f).sum ≤ (xs.map g).sum
  | [] => Nat.le_refl _
  | x :: xs => by
    simp only [List.map_cons, List.sum_cons]
    have := h x
    have := sum_le_of h xs
    omega
theorem fitB_of {s : Binds} (h : szL mz_bind s ≤ 1048576) : fitB s := by
  have h2 := szL_len (m := mz_bind) (xs := s)
  have h3 := sum_le_of (f := fun b : Int × Trm => b.2.length) (g := mz_bind) (fun b => by unfold mz_bind; exact szL_len) s
  have h4 : (s.map mz_bind).sum ≤ szL mz_bind s := Nat.le_add_left _ _
  exact ⟨by omega, by omega, fun b hb => fitT_of (by have := szL_mem (m := mz_bind) hb; have e : mz_bind b = szL mz_cell b.2 := rfl; omega)⟩
theorem fitCh_of {c : TCh} (h : mz_tch c ≤ 1048576) : fitCh c := by
  unfold mz_tch at h
  exact ⟨fitGs_of (by omega), fitT_of (by omega)⟩
theorem fitS_of {s : TSt} (h : mz_tst s ≤ 1048576) : fitS s := by
  unfold mz_tst at h
  have h2 := szL_len (m := mz_tch) (xs := s.ch)
  exact ⟨fitGs_of (by omega), fitB_of (by omega), ⟨by omega, fun c hc => fitCh_of (by have := szL_mem (m := mz_tch) hc; omega)⟩, fitT_of (by omega), fitT_of (by omega)⟩
theorem fitOs_of {os : List SOut} (h : szL mz_sout os ≤ 1048576) : fitOs os :=
  ⟨by have := szL_len (m := mz_sout) (xs := os); omega, fun o ho => fitT_of (by have := szL_mem (m := mz_sout) ho; have e : mz_sout o = szL mz_cell o.2 := rfl; omega)⟩
theorem fitW_of {x : Work} (h : mz_work x ≤ 1048576) : fitW x := by
  unfold mz_work at h
  exact ⟨fitOs_of (by omega), fitS_of (by omega)⟩
theorem fitN_of {n : Nod} (h : mz_node n ≤ 1048576) : fitN n := by
  unfold mz_node at h
  have h2 := szL_len (m := mz_work) (xs := n.works)
  exact ⟨by omega, fun x hx => fitW_of (by have := szL_mem (m := mz_work) hx; omega)⟩
theorem fitWld_of {x : Wld} (h : mz_wld x ≤ 1048576) : fitWld x := by
  unfold mz_wld at h
  have h2 := szL_len (m := mz_node) (xs := x.nodes)
  have h3 := szL_len (m := mz_nmsg) (xs := x.net)
  exact ⟨fitP_of (by omega), fitT_of (by omega), fitOs_of (by omega), by omega, fun n hn => fitN_of (by have := szL_mem (m := mz_node) hn; omega), by omega, fun m hm => by have := szL_mem (m := mz_nmsg) hm; have e : mz_nmsg m = m.bytes.length := rfl; omega⟩
end Go.Proofs.YtdoggcfdfkkedaaGreatDoor
namespace Go.Proofs.YtdoggcfdfkkedaaGreatDoor
open Go.RowKit
set_option maxRecDepth 100000
set_option maxHeartbeats 2000000
set_option linter.unusedVariables false
theorem outOkI_c (top : Trm) (tv : Value) (st : Int) (t : Trm) (ov : Value) (w : World) (h : Kd.cell.S 112 w tv top) (h' : Kd.cell.S 112 w ov t) (hl : top.length ≤ 1000000000) (hl' : t.length ≤ 1000000000) (hz : sized top) (hz' : sized t) :
    Calls Tryz.prog 64 #[tv, .agg #[.int .i64 st, ov]] w fun e w' => e = .returned (.bool (outOk top st t)) ∧ Below w.heap.size w w' := by
  have H := Lib.hid h
  have H' := Lib.hid h'
  obtain ⟨B, k, rfl, b1, b2, -⟩ := h'
  have HT := Lib.hid (fun W hb => isQI_c top tv W (Kd.S_ext (w' := W) hb H.out) hl hz)
  clear h
  cases hq : isQ top with
  | false =>
    have HV := Lib.hid (show outOk top st t = false by unfold outOk; rw [if_pos hq])
    rw [hq] at HT
    clear hq
    go_enter Tryz.func64, Tryz.ntmps64
    go_wp2_with (go_at_call 25; (with_reducible refine (HT.out _ (bel_alloc (Below.refl _ _) _)).mono ?_); rintro e w1 ⟨rfl, hb⟩)
    go_ret
    exact ⟨ret_bool HV.out.symm, bel_trans (bel_alloc (Below.refl _ _) _) hb⟩
  | true =>
    rw [hq] at HT
    have HQ := Lib.hid hq
    clear hq
    have hbx : ∀ w1, Below (w.alloc (.cells #[.int .i64 st, .slice B t.length k] 99)).heap.size (w.alloc (.cells #[.int .i64 st, .slice B t.length k] 99)) w1 →
        w1.cell? ⟨w.heap.size, 0, none⟩ = some (.int .i64 st) ∧ w1.cell? ⟨w.heap.size, 1, none⟩ = some (.slice B t.length k) ∧ Below w.heap.size w w1 := fun w1 hb => ⟨cell_keep hb (box_cell _ _ _ 0), cell_keep hb (box_cell _ _ _ 1), bel_trans (bel_alloc (Below.refl _ _) _) hb⟩
    have HBX := Lib.hid hbx
    clear hbx
    by_cases h2 : st = 2
    · subst h2
      have HI2 : Hid (∀ W, Calls Tryz.prog 29 #[.int .i64 2, .int .i64 3, .int .i64 5] W fun e w' => e = .returned (.bool false) ∧ W = w') := Lib.hid (fun W => imIn_c 2 3 5 W)
      have HO := Lib.hid (fun W hb => imOkS_c t _ W (Kd.S_ext (w' := W) hb H'.out) hl' hz')
      have HV0 := Lib.hid (show outOk top 2 t = (trmOk t && (decide (canon t = t) && (uni [] [(t, shift top t.length)]).isSome)) by
        unfold outOk
        rw [if_neg (by rw [HQ.out]; simp), if_neg (by omega), if_neg (by omega)]
        cases trmOk t with
        | false => rfl
        | true =>
          rw [if_neg (by simp), Bool.true_and]
          by_cases hc : canon t = t
          · rw [if_neg (by simpa using hc), decide_eq_true hc, Bool.true_and]
          · rw [if_pos hc, decide_eq_false hc, Bool.false_and])
      have hst : ∀ W W' : World, Below W.heap.size W W' → (W.cell? ⟨w.heap.size, 0, none⟩ = some (.int .i64 2) ∧ W.cell? ⟨w.heap.size, 1, none⟩ = some (.slice B t.length k) ∧ Hid (Below w.heap.size w W)) → (W'.cell? ⟨w.heap.size, 0, none⟩ = some (.int .i64 2) ∧ W'.cell? ⟨w.heap.size, 1, none⟩ = some (.slice B t.length k) ∧ Hid (Below w.heap.size w W')) := fun W W' hb h => ⟨cell_keep hb h.1, cell_keep hb h.2.1, Lib.hid (bel_trans h.2.2.out hb)⟩
      cases ho : trmOk t with
      | false =>
        rw [ho] at HO
        have HV := Lib.hid (show outOk top 2 t = false by rw [HV0.out, ho]; rfl)
        clear ho
        have HO2 := Lib.hid (fun W (h : W.cell? ⟨w.heap.size, 0, none⟩ = some (.int .i64 2) ∧ W.cell? ⟨w.heap.size, 1, none⟩ = some (.slice B t.length k) ∧ Hid (Below w.heap.size w W)) => HO.out W h.2.2.out)
        go_enter Tryz.func64, Tryz.ntmps64
        go_upto_region 5 with (first | (go_at_call 25; (with_reducible refine (HT.out _ (bel_alloc (Below.refl _ _) _)).mono ?_); rintro e w1 ⟨rfl, hb⟩; obtain ⟨c0, c1, hb1⟩ := HBX.out _ hb; have HB1 := Lib.hid hb1; clear hb hb1) | (go_at_call 29; (with_reducible refine (HI2.out _).mono ?_); rintro e w9 ⟨rfl, rfl⟩))
        have hS0 := hst w1 w1.drew (bel_drew (Below.refl _ _)) ⟨c0, c1, HB1⟩
        obtain ⟨C, hC⟩ : ∃ C : World → Prop, ∀ W, C W ↔ (W.cell? ⟨w.heap.size, 0, none⟩ = some (.int .i64 2) ∧ W.cell? ⟨w.heap.size, 1, none⟩ = some (.slice B t.length k) ∧ Hid (Below w.heap.size w W)) := ⟨_, fun W => Iff.rfl⟩
        have HCi := Lib.hid hC
        have hC0 := (hC _).2 hS0
        clear hC hS0
        refine wp_region_class (C := C) (by kernel_rfl) (by kernel_rfl) hC0 ?_; (repeat (first | go_big_quiet_skip | (go_big_quiet_want; first | (go_big_quiet_op; first | go_big_quiet_on | (refine ⟨_, fun _ _ => rfl, ?_⟩; go_big_quiet_on)) | (refine quiet_cell rfl rfl (fun W v hv => (by go_simp)) (fun W hW => ((HCi.out W).1 hW).1) ?_; go_big_quiet_on; simp only [Act.put, List.setIfInBounds_toArray, List.set_cons_zero, List.set_cons_succ]) | (refine quiet_cell rfl rfl (fun W v hv => (by go_simp)) (fun W hW => ((HCi.out W).1 hW).2.1) ?_; go_big_quiet_on; simp only [Act.put, List.setIfInBounds_toArray, List.set_cons_zero, List.set_cons_succ]) | (go_big_quiet_op; refine ⟨_, fun W hW => ((HO2.out W ((HCi.out W).1 hW)).mono (fun e w' hh => ⟨hh.1, (HCi.out _).2 (hst _ _ hh.2 ((HCi.out W).1 hW))⟩)), ?_⟩; go_big_quiet_on)))); refine wpQuiet_nil ?_; intro w2 hw2
        have HB := ((HCi.out w2).1 hw2).2.2
        clear hw2 hC0
        go_wp2
        go_ret
        exact ⟨ret_bool HV.out.symm, HB.out⟩
      | true =>
        rw [ho] at HO
        have hcan : Hid (∀ W, (W.cell? ⟨w.heap.size, 0, none⟩ = some (.int .i64 2) ∧ W.cell? ⟨w.heap.size, 1, none⟩ = some (.slice B t.length k) ∧ Hid (Below w.heap.size w W)) → Calls Tryz.prog 63 #[.slice B t.length k] W fun e w' => ∃ v, e = .returned v ∧ Kd.cell.S 112 w' v (canon t) ∧ Below W.heap.size W w') := Lib.hid (fun W h => (canonI_c t _ W (Kd.S_ext h.2.2.out H'.out) hl').mono (fun e w' hh => by obtain ⟨v, h1, h2, h3⟩ := hh; exact ⟨v, h1, Kd.O_read h2, h3⟩))
        have hsam : Hid (∀ W v, (W.cell? ⟨w.heap.size, 0, none⟩ = some (.int .i64 2) ∧ W.cell? ⟨w.heap.size, 1, none⟩ = some (.slice B t.length k) ∧ Hid (Below w.heap.size w W)) → Kd.cell.S 112 W v (canon t) → Calls Tryz.prog 62 #[.slice B t.length k, v] W fun e w' => e = .returned (.bool (decide (canon t = t))) ∧ Below W.heap.size W w') := Lib.hid (fun W v h hv => by rw [show decide (canon t = t) = decide (t = canon t) from decide_eq_decide.2 ⟨Eq.symm, Eq.symm⟩]; exact sameI_c t (canon t) _ v W (Kd.S_ext h.2.2.out H'.out) hv hl' (by rw [canon_len]; exact hl'))
        have HO2 := Lib.hid (fun W (h : W.cell? ⟨w.heap.size, 0, none⟩ = some (.int .i64 2) ∧ W.cell? ⟨w.heap.size, 1, none⟩ = some (.slice B t.length k) ∧ Hid (Below w.heap.size w W)) => HO.out W h.2.2.out)
        cases hc : decide (canon t = t) with
        | false =>
          have HV := Lib.hid (show outOk top 2 t = false by rw [HV0.out, ho, hc]; rfl)
          rw [hc] at hsam
          clear ho hc
          go_enter Tryz.func64, Tryz.ntmps64
          go_upto_region 5 with (first | (go_at_call 25; (with_reducible refine (HT.out _ (bel_alloc (Below.refl _ _) _)).mono ?_); rintro e w1 ⟨rfl, hb⟩; obtain ⟨c0, c1, hb1⟩ := HBX.out _ hb; have HB1 := Lib.hid hb1; clear hb hb1) | (go_at_call 29; (with_reducible refine (HI2.out _).mono ?_); rintro e w9 ⟨rfl, rfl⟩))
          have hS0 := hst w1 w1.drew (bel_drew (Below.refl _ _)) ⟨c0, c1, HB1⟩
          go_region_held3 (fun W => W.cell? ⟨w.heap.size, 0, none⟩ = some (.int .i64 2) ∧ W.cell? ⟨w.heap.size, 1, none⟩ = some (.slice B t.length k) ∧ Hid (Below w.heap.size w W)) (assumption) (first | (go_at_call 101; refine (HO2.out _ (by assumption)).mono ?_; rintro e w2 ⟨rfl, hb2⟩; have hS1 := hst _ _ hb2 (by assumption); clear hb2) | (go_at_call 63; refine (hcan.out _ (by assumption)).mono ?_; rintro e w3 ⟨v3, rfl, hv3, hb3⟩; have hS3 := hst _ _ hb3 (by assumption); have HV3 := Lib.hid (fun W' hb' => Kd.S_ext (w' := W') hb' hv3); clear hb3 hv3) | (go_at_call 62; refine (hsam.out _ _ (by assumption) (HV3.out _ (by first | exact Below.refl _ _ | exact bel_drew (Below.refl _ _)))).mono ?_; rintro e w4 ⟨rfl, hb4⟩; have hS4 := hst _ _ hb4 (by assumption); clear hb4))
          all_goals
            have HB := hS4.2.2
            clear hS0 hst
            go_wp2
            go_ret
            exact ⟨ret_bool HV.out.symm, HB.out⟩
        | true =>
          rw [hc] at hsam
          have ht40 := (trmOk_iff.1 ho).2.1
          have hsq := shiftQ_ok HQ.out ht40
          have hI : Uinv (vars (shift top t.length) ++ vars t) [] [(t, shift top t.length)] := .start (.nil _) ho hsq (fun v hv => List.mem_append_right _ hv) (fun v hv => List.mem_append_left _ hv)
          have hVr : ∀ x ∈ vars (shift top t.length) ++ vars t, 0 ≤ x ∧ x ≤ 1000000000 := fun x hx => by
            rcases List.mem_append.1 hx with hx | hx
            · have := vars_ok hsq x hx; omega
            · have := vars_ok ho x hx; omega
          obtain ⟨n, hU⟩ := uni_U hI
          have hVl : (vars (shift top t.length) ++ vars t).length ≤ 4000000 := by
            have h1 := vars_len (shift top t.length)
            have h2 := vars_len t
            have h3 := (trmOk_iff.1 hsq).2.1
            rw [List.length_append]; omega
          have HV := Lib.hid (show outOk top 2 t = (uni [] [(t, shift top t.length)]).isSome by rw [HV0.out, ho, hc]; rfl)
          have HSh := Lib.hid (fun W (h : W.cell? ⟨w.heap.size, 0, none⟩ = some (.int .i64 2) ∧ W.cell? ⟨w.heap.size, 1, none⟩ = some (.slice B t.length k) ∧ Hid (Below w.heap.size w W)) => shiftedI_c top tv t.length W (Kd.S_ext h.2.2.out H.out) hl (by omega) (by omega) (n_small (isQ_ok HQ.out).1))
          obtain ⟨r, hr⟩ : ∃ r, uni [] [(t, shift top t.length)] = r := ⟨_, rfl⟩
          rw [hr] at HV hU
          have HUn := Lib.hid (fun W av h1 (h : W.cell? ⟨w.heap.size, 0, none⟩ = some (.int .i64 2) ∧ W.cell? ⟨w.heap.size, 1, none⟩ = some (.slice B t.length k) ∧ Hid (Below w.heap.size w W)) hb => unifyI_c _ (w.heap.size + 1) hVl hVr (n + 1) n [] (.slice none 0 0) (.slice B t.length k) av t (shift top t.length) r W (Nat.lt_succ_self _) hU hI.b (hI.p _ List.mem_cons_self) (Kd.F_nil _ _ _ _) (Kd.S_ext h.2.2.out H'.out) h1 hb)
          have hst2 : ∀ W W' : World, Wrote (w.heap.size + 1) 216 W W' → (W.cell? ⟨w.heap.size, 0, none⟩ = some (.int .i64 2) ∧ W.cell? ⟨w.heap.size, 1, none⟩ = some (.slice B t.length k) ∧ Hid (Below w.heap.size w W)) → (W'.cell? ⟨w.heap.size, 0, none⟩ = some (.int .i64 2) ∧ W'.cell? ⟨w.heap.size, 1, none⟩ = some (.slice B t.length k) ∧ Hid (Below w.heap.size w W')) := fun W W' hb h => ⟨(hb.bel.cell (p := ⟨w.heap.size, 0, none⟩) (Nat.lt_succ_self _)).trans h.1, (hb.bel.cell (p := ⟨w.heap.size, 1, none⟩) (Nat.lt_succ_self _)).trans h.2.1, Lib.hid (h.2.2.out.trans (hb.bel.mono (Nat.le_succ _)))⟩
          have hsz : ∀ W : World, (W.cell? ⟨w.heap.size, 0, none⟩ = some (.int .i64 2) ∧ W.cell? ⟨w.heap.size, 1, none⟩ = some (.slice B t.length k) ∧ Hid (Below w.heap.size w W)) → w.heap.size + 1 ≤ W.heap.size := fun W h => World.block_lt_of_cell? W _ h.1
          have Hsz := Lib.hid hsz
          clear ho hc hsq hI hU hVl hVr hr ht40 hsz
          cases r with
          | none =>
            go_enter Tryz.func64, Tryz.ntmps64
            go_upto_region 5 with (first | (go_at_call 25; (with_reducible refine (HT.out _ (bel_alloc (Below.refl _ _) _)).mono ?_); rintro e w1 ⟨rfl, hb⟩; obtain ⟨c0, c1, hb1⟩ := HBX.out _ hb; have HB1 := Lib.hid hb1; clear hb hb1) | (go_at_call 29; (with_reducible refine (HI2.out _).mono ?_); rintro e w9 ⟨rfl, rfl⟩))
            have hS0 := hst w1 w1.drew (bel_drew (Below.refl _ _)) ⟨c0, c1, HB1⟩
            go_region_held3 (fun W => W.cell? ⟨w.heap.size, 0, none⟩ = some (.int .i64 2) ∧ W.cell? ⟨w.heap.size, 1, none⟩ = some (.slice B t.length k) ∧ Hid (Below w.heap.size w W)) (assumption) (first | (go_at_call 101; refine (HO2.out _ (by assumption)).mono ?_; rintro e w2 ⟨rfl, hb2⟩; have hS1 := hst _ _ hb2 (by assumption); clear hb2) | (go_at_call 63; refine (hcan.out _ (by assumption)).mono ?_; rintro e w3 ⟨v3, rfl, hv3, hb3⟩; have hS3 := hst _ _ hb3 (by assumption); have HV3 := Lib.hid (fun W' hb' => Kd.S_ext (w' := W') hb' hv3); clear hb3 hv3) | (go_at_call 62; refine (hsam.out _ _ (by assumption) (HV3.out _ (by first | exact Below.refl _ _ | exact bel_drew (Below.refl _ _)))).mono ?_; rintro e w4 ⟨rfl, hb4⟩; have hS4 := hst _ _ hb4 (by assumption); clear hb4))
            clear hS0 hS1 hS3
            go_upto_region 7 with fail
            have hS0 := hst _ _ (bel_drew (Below.refl w4.heap.size w4)) hS4
            go_region_held3 (fun W => W.cell? ⟨w.heap.size, 0, none⟩ = some (.int .i64 2) ∧ W.cell? ⟨w.heap.size, 1, none⟩ = some (.slice B t.length k) ∧ Hid (Below w.heap.size w W)) (first | assumption | (exact hst _ _ (bel_alloc (Below.refl _ _) _) (by assumption))) (first | (go_at_call 107; refine (HSh.out _ (by assumption)).mono ?_; rintro e w5 ⟨v5, rfl, ho5, hb5⟩; have hv5 := Kd.O_read ho5; have hS5 := hst _ _ hb5 (by assumption); have HV5 := Lib.hid (fun W' hb' => Kd.S_ext (w' := W') hb' hv5); have HB5 := Lib.hid hb5; clear hb5 hv5 ho5) | (go_at_call 106; refine (HUn.out _ _ (HV5.out _ (by first | exact Below.refl _ _ | exact bel_alloc (Below.refl _ _) _)) (by assumption) (Hsz.out _ (by assumption))).mono ?_; rintro e w6 ⟨rv, rfl, hw6⟩; have hS6 := hst2 _ _ hw6 (by assumption); clear hw6))
            all_goals
              have HB := hS6.2.2
              clear hS0 hst
              go_wp2
              go_ret
              exact ⟨ret_bool HV.out.symm, HB.out⟩
          | some s' =>
            go_enter Tryz.func64, Tryz.ntmps64
            go_upto_region 5 with (first | (go_at_call 25; (with_reducible refine (HT.out _ (bel_alloc (Below.refl _ _) _)).mono ?_); rintro e w1 ⟨rfl, hb⟩; obtain ⟨c0, c1, hb1⟩ := HBX.out _ hb; have HB1 := Lib.hid hb1; clear hb hb1) | (go_at_call 29; (with_reducible refine (HI2.out _).mono ?_); rintro e w9 ⟨rfl, rfl⟩))
            have hS0 := hst w1 w1.drew (bel_drew (Below.refl _ _)) ⟨c0, c1, HB1⟩
            go_region_held3 (fun W => W.cell? ⟨w.heap.size, 0, none⟩ = some (.int .i64 2) ∧ W.cell? ⟨w.heap.size, 1, none⟩ = some (.slice B t.length k) ∧ Hid (Below w.heap.size w W)) (assumption) (first | (go_at_call 101; refine (HO2.out _ (by assumption)).mono ?_; rintro e w2 ⟨rfl, hb2⟩; have hS1 := hst _ _ hb2 (by assumption); clear hb2) | (go_at_call 63; refine (hcan.out _ (by assumption)).mono ?_; rintro e w3 ⟨v3, rfl, hv3, hb3⟩; have hS3 := hst _ _ hb3 (by assumption); have HV3 := Lib.hid (fun W' hb' => Kd.S_ext (w' := W') hb' hv3); clear hb3 hv3) | (go_at_call 62; refine (hsam.out _ _ (by assumption) (HV3.out _ (by first | exact Below.refl _ _ | exact bel_drew (Below.refl _ _)))).mono ?_; rintro e w4 ⟨rfl, hb4⟩; have hS4 := hst _ _ hb4 (by assumption); clear hb4))
            clear hS0 hS1 hS3
            go_upto_region 7 with fail
            have hS0 := hst _ _ (bel_drew (Below.refl w4.heap.size w4)) hS4
            go_region_held3 (fun W => W.cell? ⟨w.heap.size, 0, none⟩ = some (.int .i64 2) ∧ W.cell? ⟨w.heap.size, 1, none⟩ = some (.slice B t.length k) ∧ Hid (Below w.heap.size w W)) (first | assumption | (exact hst _ _ (bel_alloc (Below.refl _ _) _) (by assumption))) (first | (go_at_call 107; refine (HSh.out _ (by assumption)).mono ?_; rintro e w5 ⟨v5, rfl, ho5, hb5⟩; have hv5 := Kd.O_read ho5; have hS5 := hst _ _ hb5 (by assumption); have HV5 := Lib.hid (fun W' hb' => Kd.S_ext (w' := W') hb' hv5); have HB5 := Lib.hid hb5; clear hb5 hv5 ho5) | (go_at_call 106; refine (HUn.out _ _ (HV5.out _ (by first | exact Below.refl _ _ | exact bel_alloc (Below.refl _ _) _)) (by assumption) (Hsz.out _ (by assumption))).mono ?_; rintro e w6 ⟨rv, ⟨rfl, -⟩, hw6⟩; have hS6 := hst2 _ _ hw6 (by assumption); clear hw6))
            all_goals
              have HB := hS6.2.2
              clear hS0 hst
              go_wp2
              go_ret
              exact ⟨ret_bool HV.out.symm, HB.out⟩
    · have e2 : (st != 2) = true := bne_iff_ne.2 h2
      have HI := Lib.hid (fun W => imIn_c st 3 5 W)
      by_cases h35 : 3 ≤ st ∧ st ≤ 5
      · have HV := Lib.hid (show outOk top st t = t.isEmpty by unfold outOk; rw [if_neg (by rw [HQ.out]; simp), if_pos h35])
        have hI : (decide (3 ≤ st) && decide (st ≤ 5)) = true := by rw [decide_eq_true h35.1, decide_eq_true h35.2]; rfl
        rw [hI] at HI
        have HE := Lib.hid (show (((t.length : Nat) : Int) == 0) = t.isEmpty by cases t <;> simp <;> try omega)
        obtain ⟨m, hm⟩ : ∃ m, t.length = m := ⟨_, rfl⟩
        have HM := Lib.hid hm
        rw [hm] at HBX HE ⊢
        clear hI h35 h2 hm
        go_enter Tryz.func64, Tryz.ntmps64
        go_wp2_with (first | (go_at_call 25; (with_reducible refine (HT.out _ (bel_alloc (Below.refl _ _) _)).mono ?_); rintro e w1 ⟨rfl, hb⟩; obtain ⟨c0, c1, hb1⟩ := HBX.out _ hb; have HB1 := Lib.hid hb1; clear hb hb1) | (go_at_call 29; (with_reducible refine (HI.out _).mono ?_); rintro e w2 ⟨rfl, rfl⟩))
        go_ret
        exact ⟨ret_bool (by rw [HV.out, ← HE.out]), HB1.out⟩
      · have HV := Lib.hid (show outOk top st t = false by unfold outOk; rw [if_neg (by rw [HQ.out]; simp), if_neg h35, if_pos h2])
        have hI : (decide (3 ≤ st) && decide (st ≤ 5)) = false := by
          cases hd : (decide (3 ≤ st) && decide (st ≤ 5)) with
          | false => rfl
          | true => simp at hd; exact absurd hd h35
        rw [hI] at HI
        clear hI h35 h2
        go_enter Tryz.func64, Tryz.ntmps64
        go_upto_region 5 with (first | (go_at_call 25; (with_reducible refine (HT.out _ (bel_alloc (Below.refl _ _) _)).mono ?_); rintro e w1 ⟨rfl, hb⟩; obtain ⟨c0, c1, hb1⟩ := HBX.out _ hb; have HB1 := Lib.hid hb1; clear hb hb1) | (go_at_call 29; (with_reducible refine (HI.out _).mono ?_); rintro e w2 ⟨rfl, rfl⟩))
        go_quiet (fail)
        go_wp2
        go_ret
        exact ⟨ret_bool HV.out.symm, bel_drewN HB1.out _⟩
end Go.Proofs.YtdoggcfdfkkedaaGreatDoor
