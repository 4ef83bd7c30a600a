/- Lemmas and contracts for FnExactWldOk, part 22. -/
import Derived.Test.YtdoggcfdfkkedaaGreatDoorW20
import Derived.Test.YtdoggcfdfkkedaaGreatDoorW21
import Derived.Test.YtdoggcfdfkkedaaGreatDoorW08
namespace Go.Proofs.YtdoggcfdfkkedaaGreatDoor
open Go.RowKit
set_option maxRecDepth 100000
set_option maxHeartbeats 16000000
set_option linter.unusedVariables false
theorem load_cell2 {W : World} {ad : Addr} {v0 v1 : Value} (h0 : W.cell? ad = some v0) (h1 : W.cell? ⟨ad.block, ad.off + 1, none⟩ = some v1) : (Instr.loadAt 37 (.pointer (some ad))).run Tryz.prog W = .ok (.agg #[v0, v1]) W := by
  go_simp
theorem quiet_row2 {C : World → Prop} {K : Act → Prop} {a : Act} {o : Oper} {x : Operand} {ad : Addr} (ho : o.op = .load 37 x) (hx : a.eval x = .pointer (some ad))
    {v0 v1 : Value} (h0 : ∀ W, C W → W.cell? ad = some v0) (h1 : ∀ W, C W → W.cell? ⟨ad.block, ad.off + 1, none⟩ = some v1)
    (hk : K (a.put o.dst (.agg #[v0, v1]))) : o.quiet Tryz.prog a C K :=
  quiet_load ho hx (fun W hW => load_cell2 (h0 W hW) (h1 W hW)) hk
theorem farOk_eq (p : Prog) (node : Int) (c : TCh) : farOk p node c = (!(node == -1) && (decide (1 ≤ c.far) && decide (c.far ≤ 12000)) && !(c.next != 0) && !(nodeOf p c.call == node)) := by
  unfold farOk inR
  rw [Bool.eq_iff_iff]
  simp
theorem chsI_drop {p : Prog} {node : Int} {B : Binds} {V m v : Int} {cs : List TCh} {k : Nat} {c : TCh} (hlt : k < cs.length) (hc : cs[k]? = some c) : chAll p node B V m v k (cs.drop k) = (chOne p node B V m v k c && chAll p node B V c.mark c.vars (k + 1) (cs.drop (k + 1))) := by
  rw [List.drop_eq_getElem_cons hlt, (List.getElem?_eq_some_iff.1 hc).2, chAll]
theorem choicesI_c (p : Prog) (s : TSt) (node : Int) (b : Nat) (p1 p2 gv bv cv tv ov : Value) (w : World) (hv : SlvB w b s node p1 p2 gv bv cv tv ov) (hp : PrR w p p1 p2) (hs : StR w s gv bv cv tv ov) (hprg : prgOk p = true) (hfp : fitP p) (hf : fitS s) :
    Calls Tryz.prog 150 #[.pointer (some ⟨b, 0, none⟩)] w fun e w' => e = .returned (.bool (chAll p node s.binds s.vars 0 0 0 s.ch)) ∧ Below w.heap.size w w' := by
  have HSl := Lib.hid hv
  have HPrg := Lib.hid hprg
  have HFit := Lib.hid hf
  have hl := hf.2.2.1.1
  have hlb := hf.2.1.1
  have hlc := hfp.1
  have hlp := hfp.2.2.1
  have HC := Lib.hid hs.c
  have HBd := Lib.hid hs.b
  have HCl := Lib.hid hp.c
  have HPp := Lib.hid hp.p
  obtain ⟨x0, x1, x2, x3, x4, x5, x6, x7, x8, x9⟩ := hv
  obtain ⟨CA, cn, rfl, n1, n2, -⟩ := hs.c
  obtain ⟨BA, bn, rfl, m1, m2, -⟩ := hs.b
  obtain ⟨LA, ln, rfl, o1, o2, -⟩ := hp.c
  have HV := Lib.hid (show chAll p node s.binds s.vars 0 0 0 (s.ch.drop 0) = chAll p node s.binds s.vars 0 0 0 s.ch by rw [List.drop_zero])
  clear hp hs hf hfp hprg
  go_enter Tryz.func150, Tryz.ntmps150
  go_wp2
  go_loopw [3, 4, 13] (fun v3 v4 v13 wr => ∃ (m v : Int) (k : Nat), v3 = .int .i64 m ∧ v4 = .int .i64 v ∧ v13 = .int .i64 k ∧ k ≤ s.ch.length ∧ 0 ≤ m ∧ Hid (chAll p node s.binds s.vars m v k (s.ch.drop k) = chAll p node s.binds s.vars 0 0 0 s.ch) ∧ Hid (Below w.heap.size w wr)) (fun _ _ v13 _ => s.ch.length - (intOf v13).toNat)
  case atStart => exact ⟨0, 0, 0, rfl, rfl, rfl, Nat.zero_le _, Int.le_refl _, HV, Lib.hid (Below.refl _ _)⟩
  case round =>
    clear HV x0 x1 x2 x3 x4 x5 x6 x7 x8 x9
    obtain ⟨m, v, k, rfl, rfl, rfl, hk, hm0, HA, HBw⟩ := hrel
    by_cases hlt : k < s.ch.length
    · obtain ⟨c, hc⟩ : ∃ c, s.ch[k]? = some c := ⟨_, List.getElem?_eq_getElem hlt⟩
      have Hc := Lib.hid hc
      have hfc := HFit.out.2.2.1.2 c (List.mem_of_getElem? hc)
      obtain ⟨CA', cn', ev, _, _, hCC⟩ := HC.out
      injection ev with u1 u2 u3
      obtain ⟨ad, xg, xa, hA, y0, y1, y2, y3, y4, y5, yg, ya⟩ := tch_at hCC hc
      obtain rfl := u1.trans hA
      have z0 := cell_keep HBw.out y0
      have z1 := cell_keep HBw.out y1
      have z2 := cell_keep HBw.out y2
      have z3 := cell_keep HBw.out y3
      have z4 := cell_keep HBw.out y4
      have z5 := cell_keep HBw.out y5
      have Yg := Lib.hid yg
      have Ya := Lib.hid ya
      have hAA := HA.out
      rw [chsI_drop hlt hc] at hAA
      have HF := Lib.hid (show chOne p node s.binds s.vars m v k c = false → chAll p node s.binds s.vars 0 0 0 s.ch = false from fun h => by rw [← hAA, h]; rfl)
      have HT := Lib.hid (show chOne p node s.binds s.vars m v k c = true → chAll p node s.binds s.vars c.mark c.vars (k + 1) (s.ch.drop (k + 1)) = chAll p node s.binds s.vars 0 0 0 s.ch from fun h => by rw [← hAA, h]; rfl)
      obtain ⟨GA, gn, rfl, g1, g2, -⟩ := yg
      obtain ⟨AA, an, rfl, a1, a2, -⟩ := ya
      obtain ⟨x0, x1, x2, x3, x4, x5, x6, x7, x8, x9⟩ := HSl.out.ext HBw.out
      clear hA u1 u2 u3 hCC hc y0 y1 y2 y3 y4 y5 hAA HA
      go_upto_region 5 with fail
      clear x0 x1 x2 x3 x4 x5 x6 x7 x8 x9 z0 z1 z2 z3 z4 z5
      have HBW := Lib.hid (bel_trans HBw.out (bel_alloc (Below.refl _ wr) (.cells #[.slice GA c.goals.length gn, .int .i64 c.mark, .int .i64 c.vars, .slice AA c.call.length an, .int .i64 c.next, .int .i64 c.far] 183)))
      obtain ⟨t0, t1, t2, t3, t4, t5⟩ := box6_at (Below.refl (wr.alloc (.cells #[.slice GA c.goals.length gn, .int .i64 c.mark, .int .i64 c.vars, .slice AA c.call.length an, .int .i64 c.next, .int .i64 c.far] 183)).heap.size _)
      obtain ⟨x0, x1, x2, x3, x4, x5, x6, x7, x8, x9⟩ := HSl.out.ext HBW.out
      generalize wr.alloc (.cells #[.slice GA c.goals.length gn, .int .i64 c.mark, .int .i64 c.vars, .slice AA c.call.length an, .int .i64 c.next, .int .i64 c.far] 183) = W at *
      have HI1 := Lib.hid (fun W' => imIn_c c.mark m (s.binds.length : Int) W')
      have HI2 := Lib.hid (fun W' => imIn_c c.vars v s.vars W')
      have HG4 := Lib.hid (fun W' hb => goalsI_c c.goals c.vars (k : Int) (.slice GA c.goals.length gn) W' (Kd.S_ext (w := w) hb Yg.out) hfc.1)
      have HC5 := Lib.hid (fun W' hb => calledI_c c.call (.slice AA c.call.length an) W' (Kd.S_ext (w := w) hb Ya.out) (fit_len hfc.2) hfc.2.2)
      have HL6 := Lib.hid (fun W' hb => belowI_c c.call c.vars (.slice AA c.call.length an) W' (Kd.S_ext (w := w) hb Ya.out) (fit_len hfc.2))
      obtain ⟨q1, e1⟩ : ∃ q, (decide (m ≤ c.mark) && decide (c.mark ≤ (s.binds.length : Int))) = q := ⟨_, rfl⟩
      obtain ⟨q2, e2⟩ : ∃ q, (decide (v ≤ c.vars) && decide (c.vars ≤ s.vars)) = q := ⟨_, rfl⟩
      obtain ⟨q3, e3⟩ : ∃ q, bindsBelow (s.binds.take c.mark.toNat) c.vars = q := ⟨_, rfl⟩
      obtain ⟨q4, e4⟩ : ∃ q, c.goals.all (sgOk c.vars (k : Int)) = q := ⟨_, rfl⟩
      obtain ⟨q5, e5⟩ : ∃ q, (trmOk c.call && calls c.call) = q := ⟨_, rfl⟩
      obtain ⟨q6, e6⟩ : ∃ q, belowV c.vars c.call = q := ⟨_, rfl⟩
      have HO : Hid (chOne p node s.binds s.vars m v k c = (q1 && q2 && q3 && q4 && q5 && q6 && (if c.far = 0 then nearOk p c else farOk p node c))) := Lib.hid (by
        unfold chOne inR; rw [e1, e2, e3, e4, e5, e6])
      rw [e1] at HI1
      rw [e2] at HI2
      rw [e4] at HG4
      rw [e5] at HC5
      rw [e6] at HL6
      have HE1 := Lib.hid e1
      have HE3 := Lib.hid e3
      have HE5 := Lib.hid e5
      clear e1 e2 e3 e4 e5 e6
      cases q1 with
      | false =>
        have HQ := Lib.hid (show chOne p node s.binds s.vars m v k c = false by rw [HO.out]; rfl)
        clear HO
        refine wp_region_below (by kernel_rfl) (by kernel_rfl) ?_; (repeat (first | go_big_quiet_skip | (go_big_quiet_want; first | (refine quiet_sub_h AppI.bind rfl rfl rfl (by omega) (by omega) ?_; go_big_quiet_on; simp only [Act.put, List.setIfInBounds_toArray, List.set_cons_zero, List.set_cons_succ]) | (refine quiet_cell rfl rfl (fun W v hv => (by go_simp)) (fun W hW => BelC.cell hW (by assumption)) ?_; go_big_quiet_on; simp only [Act.put, List.setIfInBounds_toArray, List.set_cons_zero, List.set_cons_succ]) | (go_big_quiet_op; first | go_big_quiet_on | ((first | with_reducible refine ⟨_, fun W' hW => (HI1.out W').mono (fun e w' hh => ⟨hh.1, hh.2 ▸ hW⟩), ?_⟩ | with_reducible refine ⟨_, fun W' hW => (HI2.out W').mono (fun e w' hh => ⟨hh.1, hh.2 ▸ hW⟩), ?_⟩ | with_reducible refine ⟨_, fun W' hW => (HB3.out W' (bel_trans HBW.out hW.bel)).mono (fun e w' hh => ⟨hh.1, hW.step hh.2⟩), ?_⟩ | with_reducible refine ⟨_, fun W' hW => (HG4.out W' (bel_trans HBW.out hW.bel)).mono (fun e w' hh => ⟨hh.1, hW.step hh.2⟩), ?_⟩ | with_reducible refine ⟨_, fun W' hW => (HC5.out W' (bel_trans HBW.out hW.bel)).mono (fun e w' hh => ⟨hh.1, hW.step hh.2⟩), ?_⟩ | with_reducible refine ⟨_, fun W' hW => (HL6.out W' (bel_trans HBW.out hW.bel)).mono (fun e w' hh => ⟨hh.1, hW.step hh.2⟩), ?_⟩); go_big_quiet_on) | (refine ⟨_, fun _ _ => rfl, ?_⟩; go_big_quiet_on))))); refine wpQuiet_nil ?_; intro w2 hw2
        have HB := Lib.hid (bel_trans HBW.out hw2.bel)
        clear hw2
        go_wp2
        go_ret
        exact ⟨ret_bool (HF.out HQ.out).symm, HB.out⟩
      | true =>
        have hmk : 0 ≤ c.mark ∧ m ≤ c.mark ∧ c.mark ≤ (s.binds.length : Int) := by
          have := HE1.out
          simp only [Bool.and_eq_true, decide_eq_true_eq] at this
          omega
        obtain ⟨hmk0, hmk1, hmk2⟩ := hmk
        have HB3 := Lib.hid (fun W' hb => bbI_c (s.binds.take c.mark.toNat) c.vars (.slice BA c.mark.toNat bn) W' (S_take (Kd.S_ext (w := w) hb HBd.out) (by omega)) (fitB_take HFit.out.2.1 _))
        rw [HE3.out] at HB3
        cases q2 with
        | false =>
          have HQ := Lib.hid (show chOne p node s.binds s.vars m v k c = false by rw [HO.out]; rfl)
          clear HO
          refine wp_region_below (by kernel_rfl) (by kernel_rfl) ?_; (repeat (first | go_big_quiet_skip | (go_big_quiet_want; first | (refine quiet_sub_h AppI.bind rfl rfl rfl (by omega) (by omega) ?_; go_big_quiet_on; simp only [Act.put, List.setIfInBounds_toArray, List.set_cons_zero, List.set_cons_succ]) | (refine quiet_cell rfl rfl (fun W v hv => (by go_simp)) (fun W hW => BelC.cell hW (by assumption)) ?_; go_big_quiet_on; simp only [Act.put, List.setIfInBounds_toArray, List.set_cons_zero, List.set_cons_succ]) | (go_big_quiet_op; first | go_big_quiet_on | ((first | with_reducible refine ⟨_, fun W' hW => (HI1.out W').mono (fun e w' hh => ⟨hh.1, hh.2 ▸ hW⟩), ?_⟩ | with_reducible refine ⟨_, fun W' hW => (HI2.out W').mono (fun e w' hh => ⟨hh.1, hh.2 ▸ hW⟩), ?_⟩ | with_reducible refine ⟨_, fun W' hW => (HB3.out W' (bel_trans HBW.out hW.bel)).mono (fun e w' hh => ⟨hh.1, hW.step hh.2⟩), ?_⟩ | with_reducible refine ⟨_, fun W' hW => (HG4.out W' (bel_trans HBW.out hW.bel)).mono (fun e w' hh => ⟨hh.1, hW.step hh.2⟩), ?_⟩ | with_reducible refine ⟨_, fun W' hW => (HC5.out W' (bel_trans HBW.out hW.bel)).mono (fun e w' hh => ⟨hh.1, hW.step hh.2⟩), ?_⟩ | with_reducible refine ⟨_, fun W' hW => (HL6.out W' (bel_trans HBW.out hW.bel)).mono (fun e w' hh => ⟨hh.1, hW.step hh.2⟩), ?_⟩); go_big_quiet_on) | (refine ⟨_, fun _ _ => rfl, ?_⟩; go_big_quiet_on))))); refine wpQuiet_nil ?_; intro w2 hw2
          have HB := Lib.hid (bel_trans HBW.out hw2.bel)
          clear hw2
          go_wp2
          go_ret
          exact ⟨ret_bool (HF.out HQ.out).symm, HB.out⟩
        | true =>
          cases q3 with
          | false =>
            have HQ := Lib.hid (show chOne p node s.binds s.vars m v k c = false by rw [HO.out]; rfl)
            clear HO
            refine wp_region_below (by kernel_rfl) (by kernel_rfl) ?_; (repeat (first | go_big_quiet_skip | (go_big_quiet_want; first | (refine quiet_sub_h AppI.bind rfl rfl rfl (by omega) (by omega) ?_; go_big_quiet_on; simp only [Act.put, List.setIfInBounds_toArray, List.set_cons_zero, List.set_cons_succ]) | (refine quiet_cell rfl rfl (fun W v hv => (by go_simp)) (fun W hW => BelC.cell hW (by assumption)) ?_; go_big_quiet_on; simp only [Act.put, List.setIfInBounds_toArray, List.set_cons_zero, List.set_cons_succ]) | (go_big_quiet_op; first | go_big_quiet_on | ((first | with_reducible refine ⟨_, fun W' hW => (HI1.out W').mono (fun e w' hh => ⟨hh.1, hh.2 ▸ hW⟩), ?_⟩ | with_reducible refine ⟨_, fun W' hW => (HI2.out W').mono (fun e w' hh => ⟨hh.1, hh.2 ▸ hW⟩), ?_⟩ | with_reducible refine ⟨_, fun W' hW => (HB3.out W' (bel_trans HBW.out hW.bel)).mono (fun e w' hh => ⟨hh.1, hW.step hh.2⟩), ?_⟩ | with_reducible refine ⟨_, fun W' hW => (HG4.out W' (bel_trans HBW.out hW.bel)).mono (fun e w' hh => ⟨hh.1, hW.step hh.2⟩), ?_⟩ | with_reducible refine ⟨_, fun W' hW => (HC5.out W' (bel_trans HBW.out hW.bel)).mono (fun e w' hh => ⟨hh.1, hW.step hh.2⟩), ?_⟩ | with_reducible refine ⟨_, fun W' hW => (HL6.out W' (bel_trans HBW.out hW.bel)).mono (fun e w' hh => ⟨hh.1, hW.step hh.2⟩), ?_⟩); go_big_quiet_on) | (refine ⟨_, fun _ _ => rfl, ?_⟩; go_big_quiet_on))))); refine wpQuiet_nil ?_; intro w2 hw2
            have HB := Lib.hid (bel_trans HBW.out hw2.bel)
            clear hw2
            go_wp2
            go_ret
            exact ⟨ret_bool (HF.out HQ.out).symm, HB.out⟩
          | true =>
            cases q4 with
            | false =>
              have HQ := Lib.hid (show chOne p node s.binds s.vars m v k c = false by rw [HO.out]; rfl)
              clear HO
              refine wp_region_below (by kernel_rfl) (by kernel_rfl) ?_; (repeat (first | go_big_quiet_skip | (go_big_quiet_want; first | (refine quiet_sub_h AppI.bind rfl rfl rfl (by omega) (by omega) ?_; go_big_quiet_on; simp only [Act.put, List.setIfInBounds_toArray, List.set_cons_zero, List.set_cons_succ]) | (refine quiet_cell rfl rfl (fun W v hv => (by go_simp)) (fun W hW => BelC.cell hW (by assumption)) ?_; go_big_quiet_on; simp only [Act.put, List.setIfInBounds_toArray, List.set_cons_zero, List.set_cons_succ]) | (go_big_quiet_op; first | go_big_quiet_on | ((first | with_reducible refine ⟨_, fun W' hW => (HI1.out W').mono (fun e w' hh => ⟨hh.1, hh.2 ▸ hW⟩), ?_⟩ | with_reducible refine ⟨_, fun W' hW => (HI2.out W').mono (fun e w' hh => ⟨hh.1, hh.2 ▸ hW⟩), ?_⟩ | with_reducible refine ⟨_, fun W' hW => (HB3.out W' (bel_trans HBW.out hW.bel)).mono (fun e w' hh => ⟨hh.1, hW.step hh.2⟩), ?_⟩ | with_reducible refine ⟨_, fun W' hW => (HG4.out W' (bel_trans HBW.out hW.bel)).mono (fun e w' hh => ⟨hh.1, hW.step hh.2⟩), ?_⟩ | with_reducible refine ⟨_, fun W' hW => (HC5.out W' (bel_trans HBW.out hW.bel)).mono (fun e w' hh => ⟨hh.1, hW.step hh.2⟩), ?_⟩ | with_reducible refine ⟨_, fun W' hW => (HL6.out W' (bel_trans HBW.out hW.bel)).mono (fun e w' hh => ⟨hh.1, hW.step hh.2⟩), ?_⟩); go_big_quiet_on) | (refine ⟨_, fun _ _ => rfl, ?_⟩; go_big_quiet_on))))); refine wpQuiet_nil ?_; intro w2 hw2
              have HB := Lib.hid (bel_trans HBW.out hw2.bel)
              clear hw2
              go_wp2
              go_ret
              exact ⟨ret_bool (HF.out HQ.out).symm, HB.out⟩
            | true =>
              cases q5 with
              | false =>
                have HQ := Lib.hid (show chOne p node s.binds s.vars m v k c = false by rw [HO.out]; rfl)
                clear HO
                refine wp_region_below (by kernel_rfl) (by kernel_rfl) ?_; (repeat (first | go_big_quiet_skip | (go_big_quiet_want; first | (refine quiet_sub_h AppI.bind rfl rfl rfl (by omega) (by omega) ?_; go_big_quiet_on; simp only [Act.put, List.setIfInBounds_toArray, List.set_cons_zero, List.set_cons_succ]) | (refine quiet_cell rfl rfl (fun W v hv => (by go_simp)) (fun W hW => BelC.cell hW (by assumption)) ?_; go_big_quiet_on; simp only [Act.put, List.setIfInBounds_toArray, List.set_cons_zero, List.set_cons_succ]) | (go_big_quiet_op; first | go_big_quiet_on | ((first | with_reducible refine ⟨_, fun W' hW => (HI1.out W').mono (fun e w' hh => ⟨hh.1, hh.2 ▸ hW⟩), ?_⟩ | with_reducible refine ⟨_, fun W' hW => (HI2.out W').mono (fun e w' hh => ⟨hh.1, hh.2 ▸ hW⟩), ?_⟩ | with_reducible refine ⟨_, fun W' hW => (HB3.out W' (bel_trans HBW.out hW.bel)).mono (fun e w' hh => ⟨hh.1, hW.step hh.2⟩), ?_⟩ | with_reducible refine ⟨_, fun W' hW => (HG4.out W' (bel_trans HBW.out hW.bel)).mono (fun e w' hh => ⟨hh.1, hW.step hh.2⟩), ?_⟩ | with_reducible refine ⟨_, fun W' hW => (HC5.out W' (bel_trans HBW.out hW.bel)).mono (fun e w' hh => ⟨hh.1, hW.step hh.2⟩), ?_⟩ | with_reducible refine ⟨_, fun W' hW => (HL6.out W' (bel_trans HBW.out hW.bel)).mono (fun e w' hh => ⟨hh.1, hW.step hh.2⟩), ?_⟩); go_big_quiet_on) | (refine ⟨_, fun _ _ => rfl, ?_⟩; go_big_quiet_on))))); refine wpQuiet_nil ?_; intro w2 hw2
                have HB := Lib.hid (bel_trans HBW.out hw2.bel)
                clear hw2
                go_wp2
                go_ret
                exact ⟨ret_bool (HF.out HQ.out).symm, HB.out⟩
              | true =>
                cases q6 with
                | false =>
                  have HQ := Lib.hid (show chOne p node s.binds s.vars m v k c = false by rw [HO.out]; rfl)
                  clear HO
                  refine wp_region_below (by kernel_rfl) (by kernel_rfl) ?_; (repeat (first | go_big_quiet_skip | (go_big_quiet_want; first | (refine quiet_sub_h AppI.bind rfl rfl rfl (by omega) (by omega) ?_; go_big_quiet_on; simp only [Act.put, List.setIfInBounds_toArray, List.set_cons_zero, List.set_cons_succ]) | (refine quiet_cell rfl rfl (fun W v hv => (by go_simp)) (fun W hW => BelC.cell hW (by assumption)) ?_; go_big_quiet_on; simp only [Act.put, List.setIfInBounds_toArray, List.set_cons_zero, List.set_cons_succ]) | (go_big_quiet_op; first | go_big_quiet_on | ((first | with_reducible refine ⟨_, fun W' hW => (HI1.out W').mono (fun e w' hh => ⟨hh.1, hh.2 ▸ hW⟩), ?_⟩ | with_reducible refine ⟨_, fun W' hW => (HI2.out W').mono (fun e w' hh => ⟨hh.1, hh.2 ▸ hW⟩), ?_⟩ | with_reducible refine ⟨_, fun W' hW => (HB3.out W' (bel_trans HBW.out hW.bel)).mono (fun e w' hh => ⟨hh.1, hW.step hh.2⟩), ?_⟩ | with_reducible refine ⟨_, fun W' hW => (HG4.out W' (bel_trans HBW.out hW.bel)).mono (fun e w' hh => ⟨hh.1, hW.step hh.2⟩), ?_⟩ | with_reducible refine ⟨_, fun W' hW => (HC5.out W' (bel_trans HBW.out hW.bel)).mono (fun e w' hh => ⟨hh.1, hW.step hh.2⟩), ?_⟩ | with_reducible refine ⟨_, fun W' hW => (HL6.out W' (bel_trans HBW.out hW.bel)).mono (fun e w' hh => ⟨hh.1, hW.step hh.2⟩), ?_⟩); go_big_quiet_on) | (refine ⟨_, fun _ _ => rfl, ?_⟩; go_big_quiet_on))))); refine wpQuiet_nil ?_; intro w2 hw2
                  have HB := Lib.hid (bel_trans HBW.out hw2.bel)
                  clear hw2
                  go_wp2
                  go_ret
                  exact ⟨ret_bool (HF.out HQ.out).symm, HB.out⟩
                | true =>
                  refine wp_region_below (by kernel_rfl) (by kernel_rfl) ?_; (repeat (first | go_big_quiet_skip | (go_big_quiet_want; first | (refine quiet_sub_h AppI.bind rfl rfl rfl (by omega) (by omega) ?_; go_big_quiet_on; simp only [Act.put, List.setIfInBounds_toArray, List.set_cons_zero, List.set_cons_succ]) | (refine quiet_cell rfl rfl (fun W v hv => (by go_simp)) (fun W hW => BelC.cell hW (by assumption)) ?_; go_big_quiet_on; simp only [Act.put, List.setIfInBounds_toArray, List.set_cons_zero, List.set_cons_succ]) | (go_big_quiet_op; first | go_big_quiet_on | ((first | with_reducible refine ⟨_, fun W' hW => (HI1.out W').mono (fun e w' hh => ⟨hh.1, hh.2 ▸ hW⟩), ?_⟩ | with_reducible refine ⟨_, fun W' hW => (HI2.out W').mono (fun e w' hh => ⟨hh.1, hh.2 ▸ hW⟩), ?_⟩ | with_reducible refine ⟨_, fun W' hW => (HB3.out W' (bel_trans HBW.out hW.bel)).mono (fun e w' hh => ⟨hh.1, hW.step hh.2⟩), ?_⟩ | with_reducible refine ⟨_, fun W' hW => (HG4.out W' (bel_trans HBW.out hW.bel)).mono (fun e w' hh => ⟨hh.1, hW.step hh.2⟩), ?_⟩ | with_reducible refine ⟨_, fun W' hW => (HC5.out W' (bel_trans HBW.out hW.bel)).mono (fun e w' hh => ⟨hh.1, hW.step hh.2⟩), ?_⟩ | with_reducible refine ⟨_, fun W' hW => (HL6.out W' (bel_trans HBW.out hW.bel)).mono (fun e w' hh => ⟨hh.1, hW.step hh.2⟩), ?_⟩); go_big_quiet_on) | (refine ⟨_, fun _ _ => rfl, ?_⟩; go_big_quiet_on))))); refine wpQuiet_nil ?_; intro w2 hw2
                  have HBV := Lib.hid (bel_trans HBW.out hw2.bel)
                  have T1 := cell_keep hw2.bel t1
                  have T2 := cell_keep hw2.bel t2
                  have T3 := cell_keep hw2.bel t3
                  have T4 := cell_keep hw2.bel t4
                  have T5 := cell_keep hw2.bel t5
                  clear HI1 HI2 HB3 HG4 HL6 t0 t1 t2 t3 t4 t5 x0 x1 x2 x3 x4 x5 x6 x7 x8 x9 hw2 HBW
                  go_upto_region 7 with fail
                  go_quiet (fail)
                  rename_i nq
                  have hb3 := bel_drewN (Below.refl w2.heap.size w2) nq
                  have HBX := Lib.hid (bel_trans HBV.out hb3)
                  have S1 := cell_keep hb3 T1
                  have S2 := cell_keep hb3 T2
                  have S3 := cell_keep hb3 T3
                  have S4 := cell_keep hb3 T4
                  have S5 := cell_keep hb3 T5
                  clear T1 T2 T3 T4 T5 hb3
                  generalize World.drewN w2 nq = W3 at *
                  obtain ⟨x0, x1, x2, x3, x4, x5, x6, x7, x8, x9⟩ := HSl.out.ext HBX.out
                  have HO2 : Hid (chOne p node s.binds s.vars m v k c = (if c.far = 0 then nearOk p c else farOk p node c)) := Lib.hid (by rw [HO.out]; rfl)
                  have hcall : calls c.call = true := by have := HE5.out; simp only [Bool.and_eq_true] at this; exact this.2
                  clear HO HBV
                  by_cases hfar : c.far = 0
                  · have ef : (c.far != 0) = false := bne_eq_false_iff_eq.2 hfar
                    have HO3 := Lib.hid (show chOne p node s.binds s.vars m v k c = nearOk p c by rw [HO2.out, if_pos hfar])
                    clear hfar
                    go_upto_region 11 with fail
                    have HI9 := Lib.hid (fun W' => imIn_c c.next 0 ((p.cl.length : Int) - 1) W')
                    have hwr : IntKind.i64.wrap ((p.cl.length : Int) - 1) = (p.cl.length : Int) - 1 := IntWalk.i64_in _ (by omega)
                    obtain ⟨q7, e7⟩ : ∃ q, (decide (0 ≤ c.next) && decide (c.next ≤ (p.cl.length : Int) - 1)) = q := ⟨_, rfl⟩
                    have HE7 := Lib.hid e7
                    rw [e7] at HI9
                    clear e7
                    cases q7 with
                    | false =>
                      have HQ := Lib.hid (show chOne p node s.binds s.vars m v k c = false by rw [HO3.out]; unfold nearOk inR; rw [HE7.out]; rfl)
                      refine wp_region_below (by kernel_rfl) (by kernel_rfl) ?_; (repeat (first | go_big_quiet_skip | (go_big_quiet_want; first | fail | (refine quiet_cell rfl rfl (fun W v hv => (by go_simp)) (fun W hW => BelC.cell hW (by assumption)) ?_; go_big_quiet_on; simp only [Act.put, List.setIfInBounds_toArray, List.set_cons_zero, List.set_cons_succ]) | (go_big_quiet_op; first | go_big_quiet_on | ((first | with_reducible refine ⟨_, fun W' hW => (HI9.out W').mono (fun e w' hh => ⟨hh.1, hh.2 ▸ hW⟩), ?_⟩ | with_reducible refine ⟨_, fun W' hW => (HA10.out W' (bel_trans HBX.out hW.bel)).mono (fun e w' hh => ⟨hh.1, hW.step hh.2⟩), ?_⟩); go_big_quiet_on) | (refine ⟨_, fun _ _ => rfl, ?_⟩; go_big_quiet_on))))); refine wpQuiet_nil ?_; intro w2 hw2
                      have HB := Lib.hid (bel_trans HBX.out hw2.bel)
                      clear hw2
                      go_wp2
                      go_ret
                      exact ⟨ret_bool (HF.out HQ.out).symm, HB.out⟩
                    | true =>
                      have hnn := HE7.out
                      simp only [Bool.and_eq_true, decide_eq_true_eq] at hnn
                      obtain ⟨nx, hnx⟩ : ∃ nx : Nat, c.next = nx := ⟨c.next.toNat, by omega⟩
                      have hnl : nx < p.cl.length := by omega
                      obtain ⟨x, hx⟩ : ∃ x, p.cl[nx]? = some x := ⟨_, List.getElem?_eq_getElem hnl⟩
                      obtain ⟨y1, y2, y3, y4⟩ := cl_at HPrg.out (List.mem_of_getElem? hx)
                      obtain ⟨hcell, hrest, hhd, hhk⟩ := calls_iff.1 y2
                      obtain ⟨ccell, crest, hcd, hck⟩ := calls_iff.1 hcall
                      have HO4 := Lib.hid (show chOne p node s.binds s.vars m v k c = decide (hcell = ccell) by
                        rw [HO3.out]
                        unfold nearOk inR
                        rw [HE7.out, hnx, Int.toNat_natCast, hx]
                        show (true && decide (headC x.head = headC c.call)) = _
                        rw [hhd, hcd]; rfl)
                      obtain ⟨LA', ln', ev, _, _, hLC⟩ := HCl.out
                      injection ev with v1 v2 v3
                      obtain ⟨lad, hdv, bdv, hLA, r0, r1, th, _⟩ := clause_at hLC hx
                      obtain rfl := v1.trans hLA
                      have Hth := Lib.hid th
                      obtain ⟨HA', hn', rfl, _, _, _⟩ := th
                      have HA10 := Lib.hid (fun W' hb => alikeI_c hcell ccell hrest crest (.slice HA' x.head.length hn') (.slice AA c.call.length an) W' (by rw [← hhd]; exact Kd.S_ext (w := w) hb Hth.out) (by rw [← hcd]; exact Kd.S_ext hb Ya.out))
                      have e3 : (hcell.k == 3) = true := beq_iff_eq.2 hhk
                      rw [e3, Bool.true_and] at HA10
                      have k0 := cell_keep HBX.out r0
                      rw [hnx] at S4 HI9
                      obtain ⟨q8, e8⟩ : ∃ q, decide (hcell = ccell) = q := ⟨_, rfl⟩
                      rw [e8] at HA10 HO4
                      clear e8 hx hhd hcd hhk hck v1 v2 v3 hLA hLC r0 r1 y1 y2 y3 y4 hnn HO2 HO3
                      cases q8 with
                      | false =>
                        have HQ := HO4
                        refine wp_region_below (by kernel_rfl) (by kernel_rfl) ?_; (repeat (first | go_big_quiet_skip | (go_big_quiet_want; first | fail | (refine quiet_cell rfl rfl (fun W v hv => (by go_simp)) (fun W hW => BelC.cell hW (by assumption)) ?_; go_big_quiet_on; simp only [Act.put, List.setIfInBounds_toArray, List.set_cons_zero, List.set_cons_succ]) | (go_big_quiet_op; first | go_big_quiet_on | ((first | with_reducible refine ⟨_, fun W' hW => (HI9.out W').mono (fun e w' hh => ⟨hh.1, hh.2 ▸ hW⟩), ?_⟩ | with_reducible refine ⟨_, fun W' hW => (HA10.out W' (bel_trans HBX.out hW.bel)).mono (fun e w' hh => ⟨hh.1, hW.step hh.2⟩), ?_⟩); go_big_quiet_on) | (refine ⟨_, fun _ _ => rfl, ?_⟩; go_big_quiet_on))))); refine wpQuiet_nil ?_; intro w2 hw2
                        have HB := Lib.hid (bel_trans HBX.out hw2.bel)
                        clear hw2
                        go_wp2
                        go_ret
                        exact ⟨ret_bool (HF.out HQ.out).symm, HB.out⟩
                      | true =>
                        have HQ := Lib.hid (HT.out HO4.out)
                        refine wp_region_below (by kernel_rfl) (by kernel_rfl) ?_; (repeat (first | go_big_quiet_skip | (go_big_quiet_want; first | fail | (refine quiet_cell rfl rfl (fun W v hv => (by go_simp)) (fun W hW => BelC.cell hW (by assumption)) ?_; go_big_quiet_on; simp only [Act.put, List.setIfInBounds_toArray, List.set_cons_zero, List.set_cons_succ]) | (go_big_quiet_op; first | go_big_quiet_on | ((first | with_reducible refine ⟨_, fun W' hW => (HI9.out W').mono (fun e w' hh => ⟨hh.1, hh.2 ▸ hW⟩), ?_⟩ | with_reducible refine ⟨_, fun W' hW => (HA10.out W' (bel_trans HBX.out hW.bel)).mono (fun e w' hh => ⟨hh.1, hW.step hh.2⟩), ?_⟩); go_big_quiet_on) | (refine ⟨_, fun _ _ => rfl, ?_⟩; go_big_quiet_on))))); refine wpQuiet_nil ?_; intro w2 hw2
                        have HB := Lib.hid (bel_trans HBX.out hw2.bel)
                        clear hw2
                        go_wp2
                        exact ⟨⟨c.mark, c.vars, k + 1, rfl, rfl, by go_num, hlt, by omega, HQ, HB⟩, by simp [intOf]; omega⟩
                  · have ef : (c.far != 0) = true := bne_iff_ne.2 hfar
                    have HO3 := Lib.hid (show chOne p node s.binds s.vars m v k c = farOk p node c by rw [HO2.out, if_neg hfar])
                    clear hfar
                    go_upto_region 9 with fail
                    have HI7 := Lib.hid (fun W' => imIn_c c.far 1 12000 W')
                    have HN8 := Lib.hid (fun W' hb => nodeI_c p c.call (.slice LA p.cl.length ln) p2 (.slice AA c.call.length an) W' (Kd.S_ext (w := w) hb HPp.out) (Kd.S_ext hb Ya.out) hcall hlp)
                    obtain ⟨z, ez⟩ : ∃ z, nodeOf p c.call = z := ⟨_, rfl⟩
                    have HF4 := Lib.hid (farOk_eq p node c)
                    obtain ⟨r1, f1⟩ : ∃ q, (node == -1) = q := ⟨_, rfl⟩
                    obtain ⟨r2, f2⟩ : ∃ q, (decide (1 ≤ c.far) && decide (c.far ≤ 12000)) = q := ⟨_, rfl⟩
                    obtain ⟨r3, f3⟩ : ∃ q, (c.next != 0) = q := ⟨_, rfl⟩
                    obtain ⟨r4, f4⟩ : ∃ q, (z == node) = q := ⟨_, rfl⟩
                    rw [ez] at HN8 HF4
                    rw [f1, f2, f3, f4] at HF4
                    rw [f2] at HI7
                    have HO4 : Hid (chOne p node s.binds s.vars m v k c = (!r1 && r2 && !r3 && !r4)) := Lib.hid (by rw [HO3.out, HF4.out])
                    clear ez f2 HO2 HO3 HF4
                    cases r1 with
                    | true =>
                      have HQ := Lib.hid (show chOne p node s.binds s.vars m v k c = false by rw [HO4.out]; rfl)
                      refine wp_region_below (by kernel_rfl) (by kernel_rfl) ?_; (repeat (first | go_big_quiet_skip | (go_big_quiet_want; first | (refine quiet_row2 rfl rfl (fun W hW => BelC.cell hW (by assumption)) (fun W hW => BelC.cell hW (by assumption)) ?_; go_big_quiet_on; simp only [Act.put, List.setIfInBounds_toArray, List.set_cons_zero, List.set_cons_succ]) | (refine quiet_cell rfl rfl (fun W v hv => (by go_simp)) (fun W hW => BelC.cell hW (by assumption)) ?_; go_big_quiet_on; simp only [Act.put, List.setIfInBounds_toArray, List.set_cons_zero, List.set_cons_succ]) | (go_big_quiet_op; first | go_big_quiet_on | ((first | with_reducible refine ⟨_, fun W' hW => (HI7.out W').mono (fun e w' hh => ⟨hh.1, hh.2 ▸ hW⟩), ?_⟩ | with_reducible refine ⟨_, fun W' hW => (HN8.out W' (bel_trans HBX.out hW.bel)).mono (fun e w' hh => ⟨hh.1, hW.step hh.2⟩), ?_⟩); go_big_quiet_on) | (refine ⟨_, fun _ _ => rfl, ?_⟩; go_big_quiet_on))))); refine wpQuiet_nil ?_; intro w2 hw2
                      have HB := Lib.hid (bel_trans HBX.out hw2.bel)
                      clear hw2
                      go_wp2
                      go_ret
                      exact ⟨ret_bool (HF.out HQ.out).symm, HB.out⟩
                    | false =>
                      cases r2 with
                      | false =>
                        have HQ := Lib.hid (show chOne p node s.binds s.vars m v k c = false by rw [HO4.out]; rfl)
                        refine wp_region_below (by kernel_rfl) (by kernel_rfl) ?_; (repeat (first | go_big_quiet_skip | (go_big_quiet_want; first | (refine quiet_row2 rfl rfl (fun W hW => BelC.cell hW (by assumption)) (fun W hW => BelC.cell hW (by assumption)) ?_; go_big_quiet_on; simp only [Act.put, List.setIfInBounds_toArray, List.set_cons_zero, List.set_cons_succ]) | (refine quiet_cell rfl rfl (fun W v hv => (by go_simp)) (fun W hW => BelC.cell hW (by assumption)) ?_; go_big_quiet_on; simp only [Act.put, List.setIfInBounds_toArray, List.set_cons_zero, List.set_cons_succ]) | (go_big_quiet_op; first | go_big_quiet_on | ((first | with_reducible refine ⟨_, fun W' hW => (HI7.out W').mono (fun e w' hh => ⟨hh.1, hh.2 ▸ hW⟩), ?_⟩ | with_reducible refine ⟨_, fun W' hW => (HN8.out W' (bel_trans HBX.out hW.bel)).mono (fun e w' hh => ⟨hh.1, hW.step hh.2⟩), ?_⟩); go_big_quiet_on) | (refine ⟨_, fun _ _ => rfl, ?_⟩; go_big_quiet_on))))); refine wpQuiet_nil ?_; intro w2 hw2
                        have HB := Lib.hid (bel_trans HBX.out hw2.bel)
                        clear hw2
                        go_wp2
                        go_ret
                        exact ⟨ret_bool (HF.out HQ.out).symm, HB.out⟩
                      | true =>
                        cases r3 with
                        | true =>
                          have HQ := Lib.hid (show chOne p node s.binds s.vars m v k c = false by rw [HO4.out]; rfl)
                          refine wp_region_below (by kernel_rfl) (by kernel_rfl) ?_; (repeat (first | go_big_quiet_skip | (go_big_quiet_want; first | (refine quiet_row2 rfl rfl (fun W hW => BelC.cell hW (by assumption)) (fun W hW => BelC.cell hW (by assumption)) ?_; go_big_quiet_on; simp only [Act.put, List.setIfInBounds_toArray, List.set_cons_zero, List.set_cons_succ]) | (refine quiet_cell rfl rfl (fun W v hv => (by go_simp)) (fun W hW => BelC.cell hW (by assumption)) ?_; go_big_quiet_on; simp only [Act.put, List.setIfInBounds_toArray, List.set_cons_zero, List.set_cons_succ]) | (go_big_quiet_op; first | go_big_quiet_on | ((first | with_reducible refine ⟨_, fun W' hW => (HI7.out W').mono (fun e w' hh => ⟨hh.1, hh.2 ▸ hW⟩), ?_⟩ | with_reducible refine ⟨_, fun W' hW => (HN8.out W' (bel_trans HBX.out hW.bel)).mono (fun e w' hh => ⟨hh.1, hW.step hh.2⟩), ?_⟩); go_big_quiet_on) | (refine ⟨_, fun _ _ => rfl, ?_⟩; go_big_quiet_on))))); refine wpQuiet_nil ?_; intro w2 hw2
                          have HB := Lib.hid (bel_trans HBX.out hw2.bel)
                          clear hw2
                          go_wp2
                          go_ret
                          exact ⟨ret_bool (HF.out HQ.out).symm, HB.out⟩
                        | false =>
                          cases r4 with
                          | true =>
                            have HQ := Lib.hid (show chOne p node s.binds s.vars m v k c = false by rw [HO4.out]; rfl)
                            refine wp_region_below (by kernel_rfl) (by kernel_rfl) ?_; (repeat (first | go_big_quiet_skip | (go_big_quiet_want; first | (refine quiet_row2 rfl rfl (fun W hW => BelC.cell hW (by assumption)) (fun W hW => BelC.cell hW (by assumption)) ?_; go_big_quiet_on; simp only [Act.put, List.setIfInBounds_toArray, List.set_cons_zero, List.set_cons_succ]) | (refine quiet_cell rfl rfl (fun W v hv => (by go_simp)) (fun W hW => BelC.cell hW (by assumption)) ?_; go_big_quiet_on; simp only [Act.put, List.setIfInBounds_toArray, List.set_cons_zero, List.set_cons_succ]) | (go_big_quiet_op; first | go_big_quiet_on | ((first | with_reducible refine ⟨_, fun W' hW => (HI7.out W').mono (fun e w' hh => ⟨hh.1, hh.2 ▸ hW⟩), ?_⟩ | with_reducible refine ⟨_, fun W' hW => (HN8.out W' (bel_trans HBX.out hW.bel)).mono (fun e w' hh => ⟨hh.1, hW.step hh.2⟩), ?_⟩); go_big_quiet_on) | (refine ⟨_, fun _ _ => rfl, ?_⟩; go_big_quiet_on))))); refine wpQuiet_nil ?_; intro w2 hw2
                            have HB := Lib.hid (bel_trans HBX.out hw2.bel)
                            clear hw2
                            go_wp2
                            go_ret
                            exact ⟨ret_bool (HF.out HQ.out).symm, HB.out⟩
                          | false =>
                            have HQ := Lib.hid (HT.out (by rw [HO4.out]; rfl))
                            refine wp_region_below (by kernel_rfl) (by kernel_rfl) ?_; (repeat (first | go_big_quiet_skip | (go_big_quiet_want; first | (refine quiet_row2 rfl rfl (fun W hW => BelC.cell hW (by assumption)) (fun W hW => BelC.cell hW (by assumption)) ?_; go_big_quiet_on; simp only [Act.put, List.setIfInBounds_toArray, List.set_cons_zero, List.set_cons_succ]) | (refine quiet_cell rfl rfl (fun W v hv => (by go_simp)) (fun W hW => BelC.cell hW (by assumption)) ?_; go_big_quiet_on; simp only [Act.put, List.setIfInBounds_toArray, List.set_cons_zero, List.set_cons_succ]) | (go_big_quiet_op; first | go_big_quiet_on | ((first | with_reducible refine ⟨_, fun W' hW => (HI7.out W').mono (fun e w' hh => ⟨hh.1, hh.2 ▸ hW⟩), ?_⟩ | with_reducible refine ⟨_, fun W' hW => (HN8.out W' (bel_trans HBX.out hW.bel)).mono (fun e w' hh => ⟨hh.1, hW.step hh.2⟩), ?_⟩); go_big_quiet_on) | (refine ⟨_, fun _ _ => rfl, ?_⟩; go_big_quiet_on))))); refine wpQuiet_nil ?_; intro w2 hw2
                            have HB := Lib.hid (bel_trans HBX.out hw2.bel)
                            clear hw2
                            go_wp2
                            exact ⟨⟨c.mark, c.vars, k + 1, rfl, rfl, by go_num, hlt, by omega, HQ, HB⟩, by simp [intOf]; omega⟩
    · have HR := Lib.hid (show chAll p node s.binds s.vars 0 0 0 s.ch = true by rw [← HA.out, List.drop_of_length_le (by omega)]; rfl)
      obtain ⟨x0, x1, x2, x3, x4, x5, x6, x7, x8, x9⟩ := HSl.out.ext HBw.out
      go_wp2
      go_ret
      exact ⟨ret_bool HR.out.symm, HBw.out⟩
end Go.Proofs.YtdoggcfdfkkedaaGreatDoor
namespace Go.Proofs.YtdoggcfdfkkedaaGreatDoor
set_option linter.unusedVariables false
def nextV (s : Binds) (x : Int) : List Int := match getB s x with | none => [] | some t => vars t
inductive Leads (s : Binds) : Int → Int → Prop
  | one {x y : Int} : y ∈ nextV s x → Leads s x y
  | on {x y z : Int} : Leads s x y → z ∈ nextV s y → Leads s x z
theorem Leads.front {s : Binds} {x y z : Int} (h : y ∈ nextV s x) (k : Leads s y z) : Leads s x z := by
  induction k with
  | one h2 => exact .on (.one h) h2
  | on _ h2 ih => exact .on ih h2
theorem Leads.cases_front {s : Binds} {x z : Int} (k : Leads s x z) : ∃ y, y ∈ nextV s x ∧ (y = z ∨ Leads s y z) := by
  induction k with
  | one h => exact ⟨_, h, .inl rfl⟩
  | on h1 h2 ih =>
    obtain ⟨y, hy, rfl | hl⟩ := ih
    · exact ⟨y, hy, .inr (.one h2)⟩
    · exact ⟨y, hy, .inr (.on hl h2)⟩
theorem next_in {s : Binds} {x y : Int} (h : y ∈ nextV s x) : ∃ t, getB s x = some t ∧ y ∈ vars t := by
  unfold nextV at h
  cases hg : getB s x with
  | none => rw [hg] at h; cases h
  | some t => rw [hg] at h; exact ⟨t, rfl, h⟩
theorem next_of {s : Binds} {x y : Int} {t : Trm} (h : getB s x = some t) (hy : y ∈ vars t) : y ∈ nextV s x := by unfold nextV; rw [h]; exact hy
theorem rch_leads {s : Binds} {t : Trm} {y : Int} (h : Rch s t y) : ∀ {x : Int}, getB s x = some t → Leads s x y := by
  induction h with
  | here hv => intro x hx; exact .one (next_of hx hv)
  | on hv hg hr ih => intro x hx; exact .front (next_of hx hv) (ih hg)
theorem leads_rch {s : Binds} {x y : Int} (h : Leads s x y) : ∃ t, getB s x = some t ∧ Rch s t y := by
  induction h with
  | one h => obtain ⟨t, ht, hy⟩ := next_in h; exact ⟨t, ht, .here hy⟩
  | on _ h2 ih =>
    obtain ⟨t, ht, hr⟩ := ih
    obtain ⟨u, hu, hz⟩ := next_in h2
    refine ⟨t, ht, ?_⟩
    clear ht
    induction hr with
    | here hv => exact .on hv hu (.here hz)
    | on hv hg hr ih2 => exact .on hv hg (ih2 ‹_› h2 hu)
structure MInv (s : Binds) (m : Int → Int) : Prop where
  val : ∀ x, m x = 0 ∨ m x = 1 ∨ m x = 2
  closed : ∀ x, m x = 2 → ∀ y ∈ nextV s x, m y = 2
  acyc : ∀ x, m x = 2 → ¬ Leads s x x
theorem MInv.reach {s : Binds} {m : Int → Int} (h : MInv s m) {x y : Int} (hl : Leads s x y) (hx : m x = 2) : m y = 2 := by
  induction hl with
  | one hy => exact h.closed _ hx _ hy
  | on _ hz ih => exact h.closed _ ih _ hz
def setM (m : Int → Int) (x v : Int) : Int → Int := fun y => if y = x then v else m y
theorem setM_same (m : Int → Int) (x v : Int) : setM m x v x = v := by unfold setM; rw [if_pos rfl]
theorem setM_other {m : Int → Int} {x v y : Int} (h : y ≠ x) : setM m x v y = m y := by unfold setM; rw [if_neg h]
def zeros (m : Int → Int) : Nat := (V0.filter (fun x => decide (m x = 0))).length
theorem zeros_le (m : Int → Int) : zeros m ≤ 100000 := by
  unfold zeros
  have := List.length_filter_le (fun x => decide (m x = 0)) V0
  rw [V0_len] at this; exact this
theorem MInv.start {s : Binds} {m : Int → Int} (h : MInv s m) {x : Int} (hx : m x = 0) : MInv s (setM m x 1) where
  val := fun y => by
    by_cases e : y = x
    · subst e; rw [setM_same]; exact .inr (.inl rfl)
    · rw [setM_other e]; exact h.val y
  closed := fun y hy z hz => by
    have e : y ≠ x := fun e => by subst e; rw [setM_same] at hy; omega
    rw [setM_other e] at hy
    have h2 := h.closed y hy z hz
    have e2 : z ≠ x := fun e => by subst e; omega
    rw [setM_other e2]; exact h2
  acyc := fun y hy => by
    have e : y ≠ x := fun e => by subst e; rw [setM_same] at hy; omega
    rw [setM_other e] at hy
    exact h.acyc y hy
theorem MInv.finish {s : Binds} {m : Int → Int} (h : MInv s m) {x : Int} (hx : m x = 1) (hn : ∀ y ∈ nextV s x, m y = 2) : MInv s (setM m x 2) where
  val := fun y => by
    by_cases e : y = x
    · subst e; rw [setM_same]; exact .inr (.inr rfl)
    · rw [setM_other e]; exact h.val y
  closed := fun y hy z hz => by
    by_cases e2 : z = x
    · subst e2; exact setM_same _ _ _
    · rw [setM_other e2]
      by_cases e : y = x
      · subst e; exact hn z hz
      · rw [setM_other e] at hy; exact h.closed y hy z hz
  acyc := fun y hy hl => by
    by_cases e : y = x
    · subst e
      obtain ⟨z, hz, rfl | hl2⟩ := hl.cases_front
      · have := hn _ hz; omega
      · have := h.reach hl2 (hn z hz); omega
    · rw [setM_other e] at hy; exact h.acyc y hy hl
theorem zeros_start {m : Int → Int} {x : Int} (hx : m x = 0) (hv : x ∈ V0) : zeros (setM m x 1) < zeros m := by
  unfold zeros
  refine filter_lt (p := fun y => decide (m y = 0)) (q := fun y => decide (setM m x 1 y = 0)) (v := x) (fun y hy => ?_) (decide_eq_true hx) (decide_eq_false ?_) hv
  · have h := of_decide_eq_true hy
    refine decide_eq_true ?_
    by_cases e : y = x
    · subst e; exact hx
    · rwa [setM_other e] at h
  · rw [setM_same]; decide
theorem zeros_finish {m : Int → Int} {x : Int} (hx : m x = 1) : zeros (setM m x 2) = zeros m := by
  have h : ∀ L : List Int, L.filter (fun y => decide (setM m x 2 y = 0)) = L.filter (fun y => decide (m y = 0)) := fun L => by
    refine List.filter_congr (fun y _ => decide_eq_decide.2 ?_)
    by_cases e : y = x
    · subst e; rw [setM_same, hx]; omega
    · rw [setM_other e]
  unfold zeros
  rw [h]
structure MStep (s : Binds) (m m' : Int → Int) (n n' : Nat) : Prop where
  inv : MInv s m'
  under : ∀ x, m' x = 1 ↔ m x = 1
  done : ∀ x, m x = 2 → m' x = 2
  cost : n' + 2 * zeros m' ≤ n + 2 * zeros m
theorem MStep.refl {s : Binds} {m : Int → Int} {n : Nat} (h : MInv s m) : MStep s m m n n := ⟨h, fun _ => Iff.rfl, fun _ h => h, Nat.le_refl _⟩
theorem MStep.trans {s : Binds} {m m' m'' : Int → Int} {n n' n'' : Nat} (h : MStep s m m' n n') (k : MStep s m' m'' n' n'') : MStep s m m'' n n'' :=
  ⟨k.inv, fun x => (k.under x).trans (h.under x), fun x hx => k.done x (h.done x hx), Nat.le_trans k.cost h.cost⟩
theorem MStep.close {s : Binds} {m m' : Int → Int} {x : Int} {n n' : Nat} (h0 : m x = 0) (hv : x ∈ V0) (h : MStep s (setM m x 1) m' (n + 1) n') (hn : ∀ y ∈ nextV s x, m' y = 2) : MStep s m (setM m' x 2) n (n' + 1) := by
  have hx1 : m' x = 1 := (h.under x).2 (setM_same _ _ _)
  refine ⟨h.inv.finish hx1 hn, fun y => ?_, fun y hy => ?_, ?_⟩
  · by_cases e : y = x
    · subst e; rw [setM_same, h0]; omega
    · rw [setM_other e, h.under y, setM_other e]
  · by_cases e : y = x
    · subst e; exact setM_same _ _ _
    · rw [setM_other e]; exact h.done y (by rw [setM_other e]; exact hy)
  · rw [zeros_finish hx1]
    have := zeros_start h0 hv
    have := h.cost
    omega
end Go.Proofs.YtdoggcfdfkkedaaGreatDoor
