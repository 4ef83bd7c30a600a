/- Lemmas and contracts for FnExactWldOk, part 16. -/
import Derived.Test.YtdoggcfdfkkedaaGreatDoorW15
namespace Go.Proofs.YtdoggcfdfkkedaaGreatDoor
open Go.RowKit
set_option maxRecDepth 100000
set_option maxHeartbeats 16000000
set_option linter.unusedVariables false
theorem load_cell3 {W : World} {ad : Addr} {v0 v1 v2 : Value} (h0 : W.cell? ad = some v0) (h1 : W.cell? ⟨ad.block, ad.off + 1, none⟩ = some v1) (h2 : W.cell? ⟨ad.block, ad.off + 2, none⟩ = some v2) : (Instr.loadAt 112 (.pointer (some ad))).run Tryz.prog W = .ok (.agg #[v0, v1, v2]) W := by
  go_simp
theorem quiet_row3 {C : World → Prop} {K : Act → Prop} {a : Act} {o : Oper} {x : Operand} {ad : Addr} (ho : o.op = .load 112 x) (hx : a.eval x = .pointer (some ad))
    {v0 v1 v2 : Value} (h0 : ∀ W, C W → W.cell? ad = some v0) (h1 : ∀ W, C W → W.cell? ⟨ad.block, ad.off + 1, none⟩ = some v1) (h2 : ∀ W, C W → W.cell? ⟨ad.block, ad.off + 2, none⟩ = some v2)
    (hk : K (a.put o.dst (.agg #[v0, v1, v2]))) : o.quiet Tryz.prog a C K :=
  quiet_load ho hx (fun W hW => load_cell3 (h0 W hW) (h1 W hW) (h2 W hW)) hk
def NB (g : Nat) (p1 p2 bv vs cv : Value) (w1 : World) : Prop :=
  w1.cell? ⟨g, 0, none⟩ = some p1 ∧ w1.cell? ⟨g, 1, none⟩ = some p2 ∧ w1.cell? ⟨g + 1, 2, none⟩ = some bv ∧ w1.cell? ⟨g + 1, 3, none⟩ = some vs ∧ w1.cell? ⟨g + 1, 4, none⟩ = some cv
theorem near_box {w : World} {p1 p2 st gv bv vs cv tv ov : Value} {t1 t2 : TypeId} {w1 : World} (hb : Below ((w.alloc (.cells #[p1, p2] t1)).alloc (.cells #[st, gv, bv, vs, cv, tv, ov] t2)).heap.size ((w.alloc (.cells #[p1, p2] t1)).alloc (.cells #[st, gv, bv, vs, cv, tv, ov] t2)) w1) :
    NB w.heap.size p1 p2 bv vs cv w1 ∧ w1.cell? ⟨w.heap.size + 1, 0, none⟩ = some st ∧ w1.cell? ⟨w.heap.size + 1, 1, none⟩ = some gv ∧ w1.cell? ⟨w.heap.size + 1, 5, none⟩ = some tv ∧ w1.cell? ⟨w.heap.size + 1, 6, none⟩ = some ov := by
  have k1 := keep_cells (heap1 w (.cells #[p1, p2] t1) (.cells #[st, gv, bv, vs, cv, tv, ov] t2)) hb
  have k2 := keep_cells (heap2 w (.cells #[p1, p2] t1) (.cells #[st, gv, bv, vs, cv, tv, ov] t2)) hb
  exact ⟨⟨k1 0 _ rfl, k1 1 _ rfl, k2 2 _ rfl, k2 3 _ rfl, k2 4 _ rfl⟩, k2 0 _ rfl, k2 1 _ rfl, k2 5 _ rfl, k2 6 _ rfl⟩
theorem box6_at {w w1 : World} {x0 x1 x2 x3 x4 x5 : Value} {t : TypeId} (hb : Below (w.alloc (.cells #[x0, x1, x2, x3, x4, x5] t)).heap.size (w.alloc (.cells #[x0, x1, x2, x3, x4, x5] t)) w1) :
    w1.cell? ⟨w.heap.size, 0, none⟩ = some x0 ∧ w1.cell? ⟨w.heap.size, 1, none⟩ = some x1 ∧ w1.cell? ⟨w.heap.size, 2, none⟩ = some x2 ∧ w1.cell? ⟨w.heap.size, 3, none⟩ = some x3 ∧ w1.cell? ⟨w.heap.size, 4, none⟩ = some x4 ∧ w1.cell? ⟨w.heap.size, 5, none⟩ = some x5 := by
  have k := keep_cells (heap_alloc_new w (.cells #[x0, x1, x2, x3, x4, x5] t)) hb
  exact ⟨k 0 _ rfl, k 1 _ rfl, k 2 _ rfl, k 3 _ rfl, k 4 _ rfl, k 5 _ rfl⟩
theorem chs_drop {p : Prog} {node : Int} {B : Binds} {V m v : Int} {cs : List TCh} {k : Nat} {c : TCh} (hlt : k < cs.length) (hc : cs[k]? = some c) : chAllS p node B V m v k (cs.drop k) = (chOneS p node B V m v k c && chAllS p node B V c.mark c.vars (k + 1) (cs.drop (k + 1))) := by
  rw [List.drop_eq_getElem_cons hlt, (List.getElem?_eq_some_iff.1 hc).2, chAllS]
theorem nearS_c (p : Prog) (s : TSt) (node : Int) (p1 p2 gv bv cv tv ov : Value) (w : World) (hp : PrR w p p1 p2) (hs : StR w s gv bv cv tv ov) (hprg : prgOk p = true) (hfp : fitP p) (hf : fitS s) :
    Calls Tryz.prog 124 #[.agg #[p1, p2], .agg #[.int .i64 s.st, gv, bv, .int .i64 s.vars, cv, tv, ov], .int .i64 node] w fun e w' => e = .returned (.bool (chAllS p node s.binds s.vars 0 0 0 s.ch)) ∧ Below w.heap.size w w' := by
  have HP := Lib.hid hp
  have HSt := Lib.hid hs
  have hl := hf.2.2.1.1
  have hlb := hf.2.1.1
  have hlc := hfp.1
  have HFr := Lib.hid (fun (k : Nat) c (hc : s.ch[k]? = some c) w' hb (hm : 0 ≤ c.mark ∧ c.mark ≤ s.binds.length) => farS_c p s k c node p1 p2 gv bv cv tv ov w' (hp.ext (w := w) hb) (hs.ext hb) hc hm hfp.2.2.1 (hf.2.2.1.2 c (List.mem_of_getElem? hc)) (fitB_take hf.2.1 _) hl hlb)
  have HFi := Lib.hid (fun (k : Nat) c (hc : s.ch[k]? = some c) xg w' (hg : G0 w' xg c.goals) xb (hb : B0 w' xb (s.binds.take c.mark.toNat)) => fineS_c c.goals (s.binds.take c.mark.toNat) c.vars k xg xb w' hg hb (hf.2.2.1.2 c (List.mem_of_getElem? hc)).1 (fitB_take hf.2.1 _))
  have HTm := Lib.hid (fun (k : Nat) c (hc : s.ch[k]? = some c) xa w' (ha : T0 w' xa c.call) => termS_c c.call c.vars xa w' ha (fit_len (hf.2.2.1.2 c (List.mem_of_getElem? hc)).2))
  have HPrg := Lib.hid hprg
  have HC := Lib.hid hs.c
  have HBd := Lib.hid hs.b
  have HCl := Lib.hid hp.c
  have H0 := Lib.hid (fun o o' => bel_alloc (bel_alloc (Below.refl _ w) o) o')
  obtain ⟨CA, cn, rfl, n1, n2, -⟩ := hs.c
  obtain ⟨BA, bn, rfl, m1, m2, -⟩ := hs.b
  obtain ⟨LA, ln, rfl, o1, o2, -⟩ := hp.c
  have HV := Lib.hid (show chAllS p node s.binds s.vars 0 0 0 (s.ch.drop 0) = chAllS p node s.binds s.vars 0 0 0 s.ch by rw [List.drop_zero])
  clear hp hs hf hfp hprg
  go_enter Tryz.func124, Tryz.ntmps124
  go_wp2
  go_loopw [7, 8, 9] (fun v7 v8 v9 wr => ∃ (m v : Int) (k : Nat), v7 = .int .i64 m ∧ v8 = .int .i64 v ∧ v9 = .int .i64 k ∧ k ≤ s.ch.length ∧ 0 ≤ m ∧ Hid (chAllS p node s.binds s.vars m v k (s.ch.drop k) = chAllS p node s.binds s.vars 0 0 0 s.ch) ∧ Hid (Below ((w.alloc (.cells #[.slice LA p.cl.length ln, p2] 37)).alloc (.cells #[.int .i64 s.st, gv, .slice BA s.binds.length bn, .int .i64 s.vars, .slice CA s.ch.length cn, tv, ov] 105)).heap.size ((w.alloc (.cells #[.slice LA p.cl.length ln, p2] 37)).alloc (.cells #[.int .i64 s.st, gv, .slice BA s.binds.length bn, .int .i64 s.vars, .slice CA s.ch.length cn, tv, ov] 105)) wr)) (fun _ _ v9 _ => s.ch.length - (intOf v9).toNat)
  case atStart => exact ⟨0, 0, 0, rfl, rfl, rfl, Nat.zero_le _, Int.le_refl _, HV, Lib.hid (Below.refl _ _)⟩
  case round =>
    clear HV
    obtain ⟨m, v, k, rfl, rfl, rfl, hk, hm0, HA, HBr⟩ := hrel
    have HBw := Lib.hid (bel_trans (H0.out _ _) HBr.out)
    obtain ⟨⟨b0, b1, b2, b3, b4⟩, b5, b6, b7, b8⟩ := near_box HBr.out
    by_cases hlt : k < s.ch.length
    · obtain ⟨c, hc⟩ : ∃ c, s.ch[k]? = some c := ⟨_, List.getElem?_eq_getElem hlt⟩
      have Hc := Lib.hid hc
      obtain ⟨CA', cn', ev, _, _, hCC⟩ := HC.out
      injection ev with u1 u2 u3
      obtain ⟨ad, xg, xa, hA, y0, y1, y2, y3, y4, y5, yg, ya⟩ := tch_at hCC hc
      obtain rfl := u1.trans hA
      have z0 := cell_keep HBw.out y0
      have z1 := cell_keep HBw.out y1
      have z2 := cell_keep HBw.out y2
      have z3 := cell_keep HBw.out y3
      have z4 := cell_keep HBw.out y4
      have z5 := cell_keep HBw.out y5
      have Yg := Lib.hid yg
      have Ya := Lib.hid ya
      have hAA := HA.out
      rw [chs_drop hlt hc] at hAA
      have HF := Lib.hid (show chOneS p node s.binds s.vars m v k c = false → chAllS p node s.binds s.vars 0 0 0 s.ch = false from fun h => by rw [← hAA, h]; rfl)
      have HT := Lib.hid (show chOneS p node s.binds s.vars m v k c = true → chAllS p node s.binds s.vars c.mark c.vars (k + 1) (s.ch.drop (k + 1)) = chAllS p node s.binds s.vars 0 0 0 s.ch from fun h => by rw [← hAA, h]; rfl)
      have HFk := Lib.hid (fun w' hb hm => HFr.out k c hc w' hb hm)
      obtain ⟨GA, gn, rfl, g1, g2, -⟩ := yg
      obtain ⟨AA, an, rfl, a1, a2, -⟩ := ya
      clear hA u1 u2 u3 hCC hc y0 y1 y2 y3 y4 y5 hAA HA
      have B0 := fun o => cell_keep (bel_alloc (Below.refl _ wr) o) b0
      have B1 := fun o => cell_keep (bel_alloc (Below.refl _ wr) o) b1
      have B2 := fun o => cell_keep (bel_alloc (Below.refl _ wr) o) b2
      have B3 := fun o => cell_keep (bel_alloc (Below.refl _ wr) o) b3
      have B4 := fun o => cell_keep (bel_alloc (Below.refl _ wr) o) b4
      have B5 := fun o => cell_keep (bel_alloc (Below.refl _ wr) o) b5
      have B6 := fun o => cell_keep (bel_alloc (Below.refl _ wr) o) b6
      have B7 := fun o => cell_keep (bel_alloc (Below.refl _ wr) o) b7
      have B8 := fun o => cell_keep (bel_alloc (Below.refl _ wr) o) b8
      go_upto_region 14 with (go_at_call 161; (with_reducible refine (HFk.out _ (bel_trans HBw.out (bel_alloc (Below.refl _ wr) _)) (by omega)).mono ?_); rintro e w1 ⟨rfl, hb1⟩; obtain ⟨x0, x1, x2, x3, x4, x5⟩ := box6_at hb1; have Hb1 := Lib.hid (bel_trans (bel_alloc (Below.refl _ wr) _) hb1); obtain ⟨⟨q0, q1, q2, q3, q4⟩, q5, q6, q7, q8⟩ := near_box (bel_trans HBr.out Hb1.out); clear hb1)
      all_goals first
        | (go_ret
           refine ⟨ret_bool (HF.out ?_).symm, (by first | exact bel_trans HBw.out Hb1.out | exact bel_trans HBw.out (bel_alloc (Below.refl _ wr) _))⟩
           rw [Bool.eq_false_iff]
           intro hh
           unfold chOneS at hh
           simp only [Bool.and_eq_true, decide_eq_true_eq] at hh
           obtain ⟨⟨⟨⟨f1, f2⟩, f3⟩, f4⟩, f5⟩ := hh
           first | omega | (simp_all; done) | (simp_all; omega))
        | (refine ⟨⟨c.mark, c.vars, k + 1, rfl, rfl, by go_num, hlt, by omega, Lib.hid (HT.out ?_), Lib.hid (bel_trans HBr.out Hb1.out)⟩, by simp [intOf]; omega⟩
           unfold chOneS
           simp_all)
        | skip
      have hrg : ((m ≤ c.mark ∧ v ≤ c.vars) ∧ c.mark ≤ (s.binds.length : Int)) ∧ c.vars ≤ s.vars := by assumption
      have hfar : c.far ≤ 0 := by assumption
      have h0 : 0 ≤ c.mark := by omega
      have hmb : c.mark ≤ bn := by omega
      have HRg := Lib.hid (show (decide (m ≤ c.mark) && decide (v ≤ c.vars) && decide (c.mark ≤ s.binds.length) && decide (c.vars ≤ s.vars)) = true by simp; exact hrg)
      have HBW := Lib.hid (bel_trans HBw.out (bel_alloc (Below.refl _ wr) (.cells #[.slice GA c.goals.length gn, .int .i64 c.mark, .int .i64 c.vars, .slice AA c.call.length an, .int .i64 c.next, .int .i64 c.far] 183)))
      obtain ⟨x0, x1, x2, x3, x4, x5⟩ := box6_at (Below.refl (wr.alloc (.cells #[.slice GA c.goals.length gn, .int .i64 c.mark, .int .i64 c.vars, .slice AA c.call.length an, .int .i64 c.next, .int .i64 c.far] 183)).heap.size _)
      have HBo := Lib.hid (bel_trans HBr.out (bel_alloc (Below.refl _ wr) (.cells #[.slice GA c.goals.length gn, .int .i64 c.mark, .int .i64 c.vars, .slice AA c.call.length an, .int .i64 c.next, .int .i64 c.far] 183)))
      obtain ⟨⟨q0, q1, q2, q3, q4⟩, q5, q6, q7, q8⟩ := near_box HBo.out
      clear B0 B1 B2 B3 B4 B5 B6 B7 B8 b0 b1 b2 b3 b4 b5 b6 b7 b8 z0 z1 z2 z3 z4 z5
      generalize wr.alloc (.cells #[.slice GA c.goals.length gn, .int .i64 c.mark, .int .i64 c.vars, .slice AA c.call.length an, .int .i64 c.next, .int .i64 c.far] 183) = W at *
      have HF1 := Lib.hid (fun W' hb => HFi.out k c Hc.out (.slice GA c.goals.length gn) W' (Kd.S_ext (w := w) hb Yg.out) (.slice BA c.mark.toNat bn) (S_take (Kd.S_ext hb HBd.out) (by omega)))
      have HT1 := Lib.hid (fun W' hb => HTm.out k c Hc.out (.slice AA c.call.length an) W' (Kd.S_ext (w := w) hb Ya.out))
      have HC1 := Lib.hid (fun W' hb => (show Calls Tryz.prog 45 #[.slice AA c.call.length an] W' fun e w2 => e = .returned (.bool (calls c.call)) ∧ W' = w2 by
        obtain ⟨A, n, ev, _, _, h⟩ := Kd.S_ext (w := w) (w' := W') hb Ya.out
        injection ev with e1 _ _
        subst e1
        exact calls_c c.call AA an W' h))
      have HI1 := Lib.hid (fun W' => lIn_c c.next 0 ((p.cl.length : Int) - 1) W')
      by_cases hf0 : c.far < 0
      · have e0 : decide (c.far < 0) = true := decide_eq_true hf0
        have HQ := Lib.hid (show chOneS p node s.binds s.vars m v k c = false by
          unfold chOneS
          rw [HRg.out, if_neg (by omega), decide_eq_false (by omega)]; rfl)
        clear hf0 hrg hfar
        refine wp_region_below (by kernel_rfl) (by kernel_rfl) ?_; (repeat (first | go_big_quiet_skip | (go_big_quiet_want; first | (refine quiet_sub_h AppI.bind rfl rfl rfl (by omega) (by omega) ?_; go_big_quiet_on; simp only [Act.put, List.setIfInBounds_toArray, List.set_cons_zero, List.set_cons_succ]) | (refine quiet_cell rfl rfl (fun W v hv => (by go_simp)) (fun W hW => BelC.cell hW (by assumption)) ?_; go_big_quiet_on; simp only [Act.put, List.setIfInBounds_toArray, List.set_cons_zero, List.set_cons_succ]) | (go_big_quiet_op; first | go_big_quiet_on | ((first | with_reducible refine ⟨_, fun W' hW => (HF1.out W' (bel_trans HBW.out hW.bel)).mono (fun e w' hh => ⟨hh.1, hW.step hh.2⟩), ?_⟩ | with_reducible refine ⟨_, fun W' hW => (HT1.out W' (bel_trans HBW.out hW.bel)).mono (fun e w' hh => ⟨hh.1, hW.step hh.2⟩), ?_⟩ | with_reducible refine ⟨_, fun W' hW => (HC1.out W' (bel_trans HBW.out hW.bel)).mono (fun e w' hh => ⟨hh.1, hh.2 ▸ hW⟩), ?_⟩ | with_reducible refine ⟨_, fun W' hW => (HI1.out W').mono (fun e w' hh => ⟨hh.1, hh.2 ▸ hW⟩), ?_⟩); go_big_quiet_on) | (refine ⟨_, fun _ _ => rfl, ?_⟩; go_big_quiet_on))))); refine wpQuiet_nil ?_; intro w2 hw2
        have HB := Lib.hid (bel_trans HBW.out hw2.bel)
        clear hw2
        go_wp2
        go_ret
        exact ⟨ret_bool (HF.out HQ.out).symm, HB.out⟩
      · have e0 : decide (c.far < 0) = false := decide_eq_false hf0
        have HO1 := Lib.hid (show chOneS p node s.binds s.vars m v k c = (fineOk c.goals (s.binds.take c.mark.toNat) c.vars k && (termV c.vars c.call && (calls c.call && nearOk p c))) by
          unfold chOneS
          rw [HRg.out, if_neg (by omega), decide_eq_true (by omega)]; rfl)
        clear hf0 hrg hfar
        cases hq1 : fineOk c.goals (s.binds.take c.mark.toNat) c.vars k with
        | false =>
          have HQ := Lib.hid (show chOneS p node s.binds s.vars m v k c = false by rw [HO1.out, hq1]; rfl)
          rw [hq1] at HF1
          clear hq1
          refine wp_region_below (by kernel_rfl) (by kernel_rfl) ?_; (repeat (first | go_big_quiet_skip | (go_big_quiet_want; first | (refine quiet_sub_h AppI.bind rfl rfl rfl (by omega) (by omega) ?_; go_big_quiet_on; simp only [Act.put, List.setIfInBounds_toArray, List.set_cons_zero, List.set_cons_succ]) | (refine quiet_cell rfl rfl (fun W v hv => (by go_simp)) (fun W hW => BelC.cell hW (by assumption)) ?_; go_big_quiet_on; simp only [Act.put, List.setIfInBounds_toArray, List.set_cons_zero, List.set_cons_succ]) | (go_big_quiet_op; first | go_big_quiet_on | ((first | with_reducible refine ⟨_, fun W' hW => (HF1.out W' (bel_trans HBW.out hW.bel)).mono (fun e w' hh => ⟨hh.1, hW.step hh.2⟩), ?_⟩ | with_reducible refine ⟨_, fun W' hW => (HT1.out W' (bel_trans HBW.out hW.bel)).mono (fun e w' hh => ⟨hh.1, hW.step hh.2⟩), ?_⟩ | with_reducible refine ⟨_, fun W' hW => (HC1.out W' (bel_trans HBW.out hW.bel)).mono (fun e w' hh => ⟨hh.1, hh.2 ▸ hW⟩), ?_⟩ | with_reducible refine ⟨_, fun W' hW => (HI1.out W').mono (fun e w' hh => ⟨hh.1, hh.2 ▸ hW⟩), ?_⟩); go_big_quiet_on) | (refine ⟨_, fun _ _ => rfl, ?_⟩; go_big_quiet_on))))); refine wpQuiet_nil ?_; intro w2 hw2
          have HB := Lib.hid (bel_trans HBW.out hw2.bel)
          clear hw2
          go_wp2
          go_ret
          exact ⟨ret_bool (HF.out HQ.out).symm, HB.out⟩
        | true =>
          cases hq2 : termV c.vars c.call with
          | false =>
            have HQ := Lib.hid (show chOneS p node s.binds s.vars m v k c = false by rw [HO1.out, hq1, hq2]; rfl)
            rw [hq1] at HF1
            rw [hq2] at HT1
            clear hq1 hq2
            refine wp_region_below (by kernel_rfl) (by kernel_rfl) ?_; (repeat (first | go_big_quiet_skip | (go_big_quiet_want; first | (refine quiet_sub_h AppI.bind rfl rfl rfl (by omega) (by omega) ?_; go_big_quiet_on; simp only [Act.put, List.setIfInBounds_toArray, List.set_cons_zero, List.set_cons_succ]) | (refine quiet_cell rfl rfl (fun W v hv => (by go_simp)) (fun W hW => BelC.cell hW (by assumption)) ?_; go_big_quiet_on; simp only [Act.put, List.setIfInBounds_toArray, List.set_cons_zero, List.set_cons_succ]) | (go_big_quiet_op; first | go_big_quiet_on | ((first | with_reducible refine ⟨_, fun W' hW => (HF1.out W' (bel_trans HBW.out hW.bel)).mono (fun e w' hh => ⟨hh.1, hW.step hh.2⟩), ?_⟩ | with_reducible refine ⟨_, fun W' hW => (HT1.out W' (bel_trans HBW.out hW.bel)).mono (fun e w' hh => ⟨hh.1, hW.step hh.2⟩), ?_⟩ | with_reducible refine ⟨_, fun W' hW => (HC1.out W' (bel_trans HBW.out hW.bel)).mono (fun e w' hh => ⟨hh.1, hh.2 ▸ hW⟩), ?_⟩ | with_reducible refine ⟨_, fun W' hW => (HI1.out W').mono (fun e w' hh => ⟨hh.1, hh.2 ▸ hW⟩), ?_⟩); go_big_quiet_on) | (refine ⟨_, fun _ _ => rfl, ?_⟩; go_big_quiet_on))))); refine wpQuiet_nil ?_; intro w2 hw2
            have HB := Lib.hid (bel_trans HBW.out hw2.bel)
            clear hw2
            go_wp2
            go_ret
            exact ⟨ret_bool (HF.out HQ.out).symm, HB.out⟩
          | true =>
            cases hq3 : calls c.call with
            | false =>
              have HQ := Lib.hid (show chOneS p node s.binds s.vars m v k c = false by rw [HO1.out, hq1, hq2, hq3]; rfl)
              rw [hq1] at HF1
              rw [hq2] at HT1
              rw [hq3] at HC1
              clear hq1 hq2 hq3
              refine wp_region_below (by kernel_rfl) (by kernel_rfl) ?_; (repeat (first | go_big_quiet_skip | (go_big_quiet_want; first | (refine quiet_sub_h AppI.bind rfl rfl rfl (by omega) (by omega) ?_; go_big_quiet_on; simp only [Act.put, List.setIfInBounds_toArray, List.set_cons_zero, List.set_cons_succ]) | (refine quiet_cell rfl rfl (fun W v hv => (by go_simp)) (fun W hW => BelC.cell hW (by assumption)) ?_; go_big_quiet_on; simp only [Act.put, List.setIfInBounds_toArray, List.set_cons_zero, List.set_cons_succ]) | (go_big_quiet_op; first | go_big_quiet_on | ((first | with_reducible refine ⟨_, fun W' hW => (HF1.out W' (bel_trans HBW.out hW.bel)).mono (fun e w' hh => ⟨hh.1, hW.step hh.2⟩), ?_⟩ | with_reducible refine ⟨_, fun W' hW => (HT1.out W' (bel_trans HBW.out hW.bel)).mono (fun e w' hh => ⟨hh.1, hW.step hh.2⟩), ?_⟩ | with_reducible refine ⟨_, fun W' hW => (HC1.out W' (bel_trans HBW.out hW.bel)).mono (fun e w' hh => ⟨hh.1, hh.2 ▸ hW⟩), ?_⟩ | with_reducible refine ⟨_, fun W' hW => (HI1.out W').mono (fun e w' hh => ⟨hh.1, hh.2 ▸ hW⟩), ?_⟩); go_big_quiet_on) | (refine ⟨_, fun _ _ => rfl, ?_⟩; go_big_quiet_on))))); refine wpQuiet_nil ?_; intro w2 hw2
              have HB := Lib.hid (bel_trans HBW.out hw2.bel)
              clear hw2
              go_wp2
              go_ret
              exact ⟨ret_bool (HF.out HQ.out).symm, HB.out⟩
            | true =>
              cases hq4 : (decide (0 ≤ c.next) && decide (c.next ≤ (p.cl.length : Int) - 1)) with
              | false =>
                have HQ := Lib.hid (show chOneS p node s.binds s.vars m v k c = false by
                  rw [HO1.out, hq1, hq2, hq3]
                  unfold nearOk inR
                  rw [hq4]; rfl)
                rw [hq1] at HF1
                rw [hq2] at HT1
                rw [hq3] at HC1
                rw [hq4] at HI1
                clear hq1 hq2 hq3 hq4
                refine wp_region_below (by kernel_rfl) (by kernel_rfl) ?_; (repeat (first | go_big_quiet_skip | (go_big_quiet_want; first | (refine quiet_sub_h AppI.bind rfl rfl rfl (by omega) (by omega) ?_; go_big_quiet_on; simp only [Act.put, List.setIfInBounds_toArray, List.set_cons_zero, List.set_cons_succ]) | (refine quiet_cell rfl rfl (fun W v hv => (by go_simp)) (fun W hW => BelC.cell hW (by assumption)) ?_; go_big_quiet_on; simp only [Act.put, List.setIfInBounds_toArray, List.set_cons_zero, List.set_cons_succ]) | (go_big_quiet_op; first | go_big_quiet_on | ((first | with_reducible refine ⟨_, fun W' hW => (HF1.out W' (bel_trans HBW.out hW.bel)).mono (fun e w' hh => ⟨hh.1, hW.step hh.2⟩), ?_⟩ | with_reducible refine ⟨_, fun W' hW => (HT1.out W' (bel_trans HBW.out hW.bel)).mono (fun e w' hh => ⟨hh.1, hW.step hh.2⟩), ?_⟩ | with_reducible refine ⟨_, fun W' hW => (HC1.out W' (bel_trans HBW.out hW.bel)).mono (fun e w' hh => ⟨hh.1, hh.2 ▸ hW⟩), ?_⟩ | with_reducible refine ⟨_, fun W' hW => (HI1.out W').mono (fun e w' hh => ⟨hh.1, hh.2 ▸ hW⟩), ?_⟩); go_big_quiet_on) | (refine ⟨_, fun _ _ => rfl, ?_⟩; go_big_quiet_on))))); refine wpQuiet_nil ?_; intro w2 hw2
                have HB := Lib.hid (bel_trans HBW.out hw2.bel)
                clear hw2
                go_wp2
                go_ret
                exact ⟨ret_bool (HF.out HQ.out).symm, HB.out⟩
              | true =>
                have hnn := hq4
                simp only [Bool.and_eq_true, decide_eq_true_eq] at hnn
                obtain ⟨nx, hnx⟩ : ∃ nx : Nat, c.next = nx := ⟨c.next.toNat, by omega⟩
                have hnl : nx < p.cl.length := by omega
                obtain ⟨x, hx⟩ : ∃ x, p.cl[nx]? = some x := ⟨_, List.getElem?_eq_getElem hnl⟩
                obtain ⟨y1, y2, y3, y4⟩ := cl_at HPrg.out (List.mem_of_getElem? hx)
                obtain ⟨hcell, hrest, hhd, hhk⟩ := calls_iff.1 y2
                obtain ⟨ccell, crest, hcd, hck⟩ := calls_iff.1 hq3
                have HO2 := Lib.hid (show chOneS p node s.binds s.vars m v k c = decide (hcell = ccell) by
                  rw [HO1.out, hq1, hq2, hq3]
                  unfold nearOk inR
                  rw [hq4, hnx, Int.toNat_natCast, hx]
                  show (true && (true && (true && (true && decide (headC x.head = headC c.call))))) = _
                  rw [hhd, hcd]; rfl)
                obtain ⟨LA', ln', ev, _, _, hLC⟩ := HCl.out
                injection ev with v1 v2 v3
                obtain ⟨lad, hv, bv, hLA, t0, t1, th, _⟩ := clause_at hLC hx
                obtain rfl := v1.trans hLA
                obtain ⟨HA', hn', rfl, _, _, hHC⟩ := th
                rw [hhd] at hHC
                obtain ⟨had, rfl, hh0, hh1, hh2⟩ := cell_hd hHC
                have ya := Ya.out
                obtain ⟨AA', an', ev', _, _, hYC⟩ := ya
                injection ev' with w1 w2 w3
                rw [hcd] at hYC
                obtain ⟨cad, hcad, cc0, cc1, cc2⟩ := cell_hd hYC
                obtain rfl := w1.trans hcad
                have k0 := cell_keep HBW.out t0
                have k1 := cell_keep HBW.out hh0
                have k2 := cell_keep HBW.out hh1
                have k3 := cell_keep HBW.out hh2
                have k4 := cell_keep HBW.out cc0
                have k5 := cell_keep HBW.out cc1
                have k6 := cell_keep HBW.out cc2
                rw [hq1] at HF1
                rw [hq2] at HT1
                rw [hq3] at HC1
                rw [hq4, hnx] at HI1
                rw [hnx] at x4
                have hp0 : 0 < x.head.length := by rw [hhd]; simp
                have hp1 : 0 < c.call.length := by rw [hcd]; simp
                clear hq1 hq2 hq3 hq4 hnx hx hhd hcd hhk hck v1 v2 v3 w1 w2 w3 hLA hLC hHC hYC hcad t0 t1 hh0 hh1 hh2 cc0 cc1 cc2 y1 y2 y3 y4 hnn
                by_cases he : hcell = ccell
                · have HQ := Lib.hid (HT.out (by rw [HO2.out]; exact decide_eq_true he))
                  subst he
                  refine wp_region_below (by kernel_rfl) (by kernel_rfl) ?_; (repeat (first | go_big_quiet_skip | (go_big_quiet_want; first | first | (refine quiet_sub_h AppI.bind rfl rfl rfl (by omega) (by omega) ?_; go_big_quiet_on; simp only [Act.put, List.setIfInBounds_toArray, List.set_cons_zero, List.set_cons_succ]) | (refine quiet_row3 rfl rfl (fun W hW => BelC.cell hW (by assumption)) (fun W hW => BelC.cell hW (by assumption)) (fun W hW => BelC.cell hW (by assumption)) ?_; go_big_quiet_on; simp only [Act.put, List.setIfInBounds_toArray, List.set_cons_zero, List.set_cons_succ]) | (refine quiet_cell rfl rfl (fun W v hv => (by go_simp)) (fun W hW => BelC.cell hW (by assumption)) ?_; go_big_quiet_on; simp only [Act.put, List.setIfInBounds_toArray, List.set_cons_zero, List.set_cons_succ]) | (go_big_quiet_op; first | go_big_quiet_on | ((first | with_reducible refine ⟨_, fun W' hW => (HF1.out W' (bel_trans HBW.out hW.bel)).mono (fun e w' hh => ⟨hh.1, hW.step hh.2⟩), ?_⟩ | with_reducible refine ⟨_, fun W' hW => (HT1.out W' (bel_trans HBW.out hW.bel)).mono (fun e w' hh => ⟨hh.1, hW.step hh.2⟩), ?_⟩ | with_reducible refine ⟨_, fun W' hW => (HC1.out W' (bel_trans HBW.out hW.bel)).mono (fun e w' hh => ⟨hh.1, hh.2 ▸ hW⟩), ?_⟩ | with_reducible refine ⟨_, fun W' hW => (HI1.out W').mono (fun e w' hh => ⟨hh.1, hh.2 ▸ hW⟩), ?_⟩); go_big_quiet_on) | (refine ⟨_, fun _ _ => rfl, ?_⟩; go_big_quiet_on))))); refine wpQuiet_nil ?_; intro w2 hw2
                  have HB := Lib.hid (bel_trans HBo.out hw2.bel)
                  clear hw2
                  go_wp2
                  exact ⟨⟨c.mark, c.vars, k + 1, rfl, rfl, by go_num, hlt, by omega, HQ, HB⟩, by simp [intOf]; omega⟩
                · have HQ := Lib.hid (show chOneS p node s.binds s.vars m v k c = false by rw [HO2.out]; exact decide_eq_false he)
                  have hcc := cell_neb he
                  clear he
                  rcases hcc with e1 | ⟨e1, e2⟩ | ⟨e1, e2, e3⟩
                  all_goals
                    refine wp_region_below (by kernel_rfl) (by kernel_rfl) ?_; (repeat (first | go_big_quiet_skip | (go_big_quiet_want; first | first | (refine quiet_sub_h AppI.bind rfl rfl rfl (by omega) (by omega) ?_; go_big_quiet_on; simp only [Act.put, List.setIfInBounds_toArray, List.set_cons_zero, List.set_cons_succ]) | (refine quiet_row3 rfl rfl (fun W hW => BelC.cell hW (by assumption)) (fun W hW => BelC.cell hW (by assumption)) (fun W hW => BelC.cell hW (by assumption)) ?_; go_big_quiet_on; simp only [Act.put, List.setIfInBounds_toArray, List.set_cons_zero, List.set_cons_succ]) | (refine quiet_cell rfl rfl (fun W v hv => (by go_simp)) (fun W hW => BelC.cell hW (by assumption)) ?_; go_big_quiet_on; simp only [Act.put, List.setIfInBounds_toArray, List.set_cons_zero, List.set_cons_succ]) | (go_big_quiet_op; first | go_big_quiet_on | ((first | with_reducible refine ⟨_, fun W' hW => (HF1.out W' (bel_trans HBW.out hW.bel)).mono (fun e w' hh => ⟨hh.1, hW.step hh.2⟩), ?_⟩ | with_reducible refine ⟨_, fun W' hW => (HT1.out W' (bel_trans HBW.out hW.bel)).mono (fun e w' hh => ⟨hh.1, hW.step hh.2⟩), ?_⟩ | with_reducible refine ⟨_, fun W' hW => (HC1.out W' (bel_trans HBW.out hW.bel)).mono (fun e w' hh => ⟨hh.1, hh.2 ▸ hW⟩), ?_⟩ | with_reducible refine ⟨_, fun W' hW => (HI1.out W').mono (fun e w' hh => ⟨hh.1, hh.2 ▸ hW⟩), ?_⟩); go_big_quiet_on) | (refine ⟨_, fun _ _ => rfl, ?_⟩; go_big_quiet_on))))); refine wpQuiet_nil ?_; intro w2 hw2
                    have HB := Lib.hid (bel_trans HBW.out hw2.bel)
                    clear hw2
                    go_wp2
                    go_ret
                    exact ⟨ret_bool (HF.out HQ.out).symm, HB.out⟩
    · have HR := Lib.hid (show chAllS p node s.binds s.vars 0 0 0 s.ch = true by rw [← HA.out, List.drop_of_length_le (by omega)]; rfl)
      go_wp2
      go_ret
      exact ⟨ret_bool HR.out.symm, HBw.out⟩
end Go.Proofs.YtdoggcfdfkkedaaGreatDoor
