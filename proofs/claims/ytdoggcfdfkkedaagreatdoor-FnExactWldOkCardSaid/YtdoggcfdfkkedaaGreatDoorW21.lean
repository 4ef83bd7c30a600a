/- Lemmas and contracts for FnExactWldOk, part 21. -/
import Derived.Test.YtdoggcfdfkkedaaGreatDoorW19
import Derived.Test.YtdoggcfdfkkedaaGreatDoorW20
namespace Go.Proofs.YtdoggcfdfkkedaaGreatDoor
open Go.RowKit
set_option maxRecDepth 100000
set_option maxHeartbeats 4000000
set_option linter.unusedVariables false
theorem nodeI_c (p : Prog) (t : Trm) (cv pv tv : Value) (w : World) (h : Kd.place.S 95 w pv p.pl) (ht : T0 w tv t) (hc : calls t = true) (hl : p.pl.length ≤ 4000000) :
    Calls Tryz.prog 109 #[.agg #[cv, pv], tv] w fun e w' => e = .returned (.int .i64 (nodeOf p t)) ∧ Below w.heap.size w w' := by
  obtain ⟨c, r, rfl, hck⟩ := calls_iff.1 hc
  have HV := Lib.hid (show nodeOf p (c :: r) = ndL c p.pl from rfl)
  have HS := Lib.hid h
  have HT := Lib.hid ht
  have HX := Lib.hid (fun w1 => box2_at w cv pv 37 (w1 := w1))
  have H0 := Lib.hid (fun o => bel_alloc (Below.refl _ w) o)
  obtain ⟨A, n, rfl, a1, a2, -⟩ := h
  obtain ⟨TA, tn, rfl, t1, t2, tC⟩ := ht
  obtain ⟨ta, rfl, -, -, -⟩ := cell_hd tC
  clear hc hck tC
  go_enter Tryz.func109, Tryz.ntmps109
  go_wp2
  go_loopw [10] (fun v5 wr => ∃ k : Nat, v5 = .int .i64 k ∧ k ≤ p.pl.length ∧ Hid (ndL c (p.pl.drop k) = ndL c p.pl) ∧ Hid (Below (w.alloc (.cells #[cv, .slice A p.pl.length n] 37)).heap.size (w.alloc (.cells #[cv, .slice A p.pl.length n] 37)) wr)) (fun v5 _ => p.pl.length - (intOf v5).toNat)
  case atStart => exact ⟨0, rfl, Nat.zero_le _, Lib.hid (by simp), Lib.hid (Below.refl _ _)⟩
  case round =>
    obtain ⟨k, rfl, hk, HA, HBr⟩ := hrel
    obtain ⟨x0, x1⟩ := HX.out _ HBr.out
    have HBw := Lib.hid (bel_trans (H0.out _) HBr.out)
    by_cases hlt : k < p.pl.length
    · obtain ⟨x, hx⟩ : ∃ x, p.pl[k]? = some x := ⟨_, List.getElem?_eq_getElem hlt⟩
      obtain ⟨A', n', ev, _, _, hC⟩ := Kd.S_ext HBw.out HS.out
      injection ev with u1 u2 u3
      obtain ⟨ad, had, z0, z1, z2⟩ := place_at hC hx
      have had2 := u1.trans had
      obtain ⟨TA', tn', ev', _, _, tC⟩ := Kd.S_ext HBw.out HT.out
      injection ev' with v1 v2 v3
      obtain ⟨ta', hta, c0, c1, c2⟩ := cell_hd tC
      obtain rfl := Option.some.inj (v1.trans hta)
      have d0 := fun o => cell_keep (bel_alloc (Below.refl _ wr) o) c0
      have d1 := fun o => cell_keep (bel_alloc (Below.refl _ wr) o) c1
      have d2 := fun o => cell_keep (bel_alloc (Below.refl _ wr) o) c2
      have HBo := Lib.hid (fun o => bel_alloc HBw.out o)
      have HBo2 := Lib.hid (fun o => bel_alloc HBr.out o)
      clear u1 u2 u3 v1 v2 v3 hta tC had hC c0 c1 c2
      subst had2
      by_cases e1 : x.name = c.s
      · have f1 : (x.name.toList == c.s.toList) = true := by rw [str_eqb]; exact decide_eq_true e1
        by_cases e2 : x.n = c.n
        · have f2 : (x.n == c.n) = true := beq_iff_eq.2 e2
          have HR := Lib.hid (show nodeOf p (c :: r) = x.node by rw [HV.out, ← HA.out, ndL_hit hlt hx e1 e2])
          clear e1 e2 hx
          go_upto_region 4 with fail
          go_quiet (fail)
          go_wp2
          go_ret
          exact ⟨ret_int HR.out.symm, bel_drewN (HBo.out _) _⟩
        · have f2 : (x.n == c.n) = false := beq_eq_false_iff_ne.2 e2
          have HR := Lib.hid (show ndL c (p.pl.drop (k + 1)) = ndL c p.pl by rw [← ndL_miss hlt hx (fun h => e2 h.2)]; exact HA.out)
          clear e1 e2 hx
          go_upto_region 4 with fail
          go_quiet (fail)
          go_wp2
          exact ⟨⟨k + 1, by go_num, hlt, HR, Lib.hid (bel_drewN (HBo2.out _) _)⟩, by simp [intOf]; omega⟩
      · have f1 : (x.name.toList == c.s.toList) = false := by rw [str_eqb]; exact decide_eq_false e1
        have HR := Lib.hid (show ndL c (p.pl.drop (k + 1)) = ndL c p.pl by rw [← ndL_miss hlt hx (fun h => e1 h.1)]; exact HA.out)
        clear e1 hx
        go_upto_region 4 with fail
        go_quiet (fail)
        go_wp2
        exact ⟨⟨k + 1, by go_num, hlt, HR, Lib.hid (bel_drewN (HBo2.out _) _)⟩, by simp [intOf]; omega⟩
    · have HR := Lib.hid (show nodeOf p (c :: r) = 0 by rw [HV.out, ← HA.out, List.drop_of_length_le (by omega)]; rfl)
      go_wp2
      go_ret
      exact ⟨ret_int HR.out.symm, HBw.out⟩
theorem alikeI_c (c d : Cell) (r q : Trm) (tv uv : Value) (w : World) (ht : T0 w tv (c :: r)) (hu : T0 w uv (d :: q)) :
    Calls Tryz.prog 180 #[tv, uv] w fun e w' => e = .returned (.bool ((c.k == 3) && decide (c = d))) ∧ Below w.heap.size w w' := by
  obtain ⟨TA, tn, rfl, t1, t2, tC⟩ := ht
  obtain ⟨ta, rfl, a0, a1, a2⟩ := cell_hd tC
  obtain ⟨UA, un, rfl, u1, u2, uC⟩ := hu
  obtain ⟨ua, rfl, b0, b1, b2⟩ := cell_hd uC
  have hp0 : 0 < (c :: r).length := by simp
  have hp1 : 0 < (d :: q).length := by simp
  clear tC uC
  cases h3 : c.k == 3 with
  | false =>
    go_enter Tryz.func180, Tryz.ntmps180
    go_upto_region 1 with fail
    refine wp_region_below (by kernel_rfl) (by kernel_rfl) ?_; (repeat (first | go_big_quiet_skip | (go_big_quiet_want; first | (refine quiet_row3 rfl rfl (fun W hW => BelC.cell hW (by assumption)) (fun W hW => BelC.cell hW (by assumption)) (fun W hW => BelC.cell hW (by assumption)) ?_; go_big_quiet_on; simp only [Act.put, List.setIfInBounds_toArray, List.set_cons_zero, List.set_cons_succ]) | (refine quiet_cell rfl rfl (fun W v hv => (by go_simp)) (fun W hW => BelC.cell hW (by assumption)) ?_; go_big_quiet_on; simp only [Act.put, List.setIfInBounds_toArray, List.set_cons_zero, List.set_cons_succ]) | (go_big_quiet_op; first | go_big_quiet_on | (fail; go_big_quiet_on) | (refine ⟨_, fun _ _ => rfl, ?_⟩; go_big_quiet_on))))); refine wpQuiet_nil ?_; intro w2 hw2
    go_wp2
    go_ret
    exact ⟨rfl, hw2.bel⟩
  | true =>
    by_cases he : c = d
    · subst he
      go_enter Tryz.func180, Tryz.ntmps180
      go_upto_region 1 with fail
      refine wp_region_below (by kernel_rfl) (by kernel_rfl) ?_; (repeat (first | go_big_quiet_skip | (go_big_quiet_want; first | (refine quiet_row3 rfl rfl (fun W hW => BelC.cell hW (by assumption)) (fun W hW => BelC.cell hW (by assumption)) (fun W hW => BelC.cell hW (by assumption)) ?_; go_big_quiet_on; simp only [Act.put, List.setIfInBounds_toArray, List.set_cons_zero, List.set_cons_succ]) | (refine quiet_cell rfl rfl (fun W v hv => (by go_simp)) (fun W hW => BelC.cell hW (by assumption)) ?_; go_big_quiet_on; simp only [Act.put, List.setIfInBounds_toArray, List.set_cons_zero, List.set_cons_succ]) | (go_big_quiet_op; first | go_big_quiet_on | (fail; go_big_quiet_on) | (refine ⟨_, fun _ _ => rfl, ?_⟩; go_big_quiet_on))))); refine wpQuiet_nil ?_; intro w2 hw2
      go_wp2
      go_ret
      exact ⟨ret_bool (by simp), hw2.bel⟩
    · rw [decide_eq_false he]
      have hcc := cell_neb he
      clear he
      rcases hcc with e1 | ⟨e1, e2⟩ | ⟨e1, e2, e3⟩
      all_goals
        go_enter Tryz.func180, Tryz.ntmps180
        go_upto_region 1 with fail
        refine wp_region_below (by kernel_rfl) (by kernel_rfl) ?_; (repeat (first | go_big_quiet_skip | (go_big_quiet_want; first | (refine quiet_row3 rfl rfl (fun W hW => BelC.cell hW (by assumption)) (fun W hW => BelC.cell hW (by assumption)) (fun W hW => BelC.cell hW (by assumption)) ?_; go_big_quiet_on; simp only [Act.put, List.setIfInBounds_toArray, List.set_cons_zero, List.set_cons_succ]) | (refine quiet_cell rfl rfl (fun W v hv => (by go_simp)) (fun W hW => BelC.cell hW (by assumption)) ?_; go_big_quiet_on; simp only [Act.put, List.setIfInBounds_toArray, List.set_cons_zero, List.set_cons_succ]) | (go_big_quiet_op; first | go_big_quiet_on | (fail; go_big_quiet_on) | (refine ⟨_, fun _ _ => rfl, ?_⟩; go_big_quiet_on))))); refine wpQuiet_nil ?_; intro w2 hw2
        go_wp2
        go_ret
        exact ⟨ret_bool rfl, hw2.bel⟩
end Go.Proofs.YtdoggcfdfkkedaaGreatDoor
namespace Go.Proofs.YtdoggcfdfkkedaaGreatDoor
open Go.RowKit
set_option maxRecDepth 100000
set_option maxHeartbeats 4000000
set_option linter.unusedVariables false
theorem bb1_c (x : Int × Trm) (n : Int) (pb : Addr) (tv : Value) (w : World) (h : w.cell? pb = some (.int .i64 n)) (ht : T0 w tv x.2) (hl : x.2.length ≤ 1000000000) :
    Calls Tryz.prog 176 #[.agg #[.int .i64 x.1, tv], .pointer (some pb)] w fun e w' => e = .returned (.bool (decide (n ≤ x.1) || !(belowV n x.2))) ∧ Below w.heap.size w w' := by
  have HS := Lib.hid (fun W (hb : Below w.heap.size w W) => belowI_c x.2 n tv W (Kd.S_ext hb ht) hl)
  have H0 := Lib.hid (fun o => bel_alloc (Below.refl _ w) o)
  have c0 := fun o => cell_keep (bel_alloc (Below.refl _ w) o) h
  obtain ⟨v, t⟩ := x
  simp only at HS ⊢
  obtain ⟨q, hq⟩ : ∃ q, belowV n t = q := ⟨_, rfl⟩
  rw [hq] at HS ⊢
  clear ht hl hq h
  cases e1 : decide (n ≤ v)
  all_goals
    go_enter Tryz.func176, Tryz.ntmps176
    go_wp2_with (go_at_call 136; (with_reducible refine (HS.out _ (H0.out _)).mono ?_); rintro e w1 ⟨rfl, hb⟩)
    all_goals
      go_ret
      first | exact ⟨rfl, bel_trans (H0.out _) hb⟩ | exact ⟨rfl, H0.out _⟩
theorem bbI_c (s : Binds) (n : Int) (sv : Value) (w : World) (h : B0 w sv s) (hf : fitB s) :
    Calls Tryz.prog 148 #[sv, .int .i64 n] w fun e w' => e = .returned (.bool (bindsBelow s n)) ∧ Below w.heap.size w w' := by
  have hlen := hf.1
  have hfit := hf.2.2
  obtain ⟨A, c, rfl, a1, a2, hC⟩ := h
  have H0 := Lib.hid (fun o => bel_alloc (Below.refl _ w) o)
  have HV := Lib.hid (show (!(s.any (fun b => decide (n ≤ b.1) || !(belowV n b.2)))) = bindsBelow s n by
    unfold bindsBelow
    clear hC hfit a1 a2 hlen hf
    induction s with
    | nil => rfl
    | cons b s ih =>
      rw [List.any_cons, List.all_cons, ← ih, Bool.not_or, Bool.not_or, Bool.not_not]
      congr 2
      rw [Bool.eq_iff_iff]; simp)
  have HN := Lib.hid (show (w.alloc (.cells #[.int .i64 n] 3)).cell? ⟨w.heap.size, 0, none⟩ = some (.int .i64 n) from Lib.cell_of_heap (heap_alloc_new w (.cells #[.int .i64 n] 3)) 0)
  have HAll := Lib.hid (fun W (hb : Below w.heap.size w W) (hn : W.cell? ⟨w.heap.size, 0, none⟩ = some (.int .i64 n)) => bb_con (fun b => decide (n ≤ b.1) || !(belowV n b.2)) s A c ⟨w.heap.size, 0, none⟩ W (Kd.C_ext hb hC) (by omega) (fun W' y hy hb' tv ht => bb1_c y n ⟨w.heap.size, 0, none⟩ tv W' (cell_keep hb' hn) ht (fit_len (hfit y hy))))
  obtain ⟨q, hq⟩ : ∃ q, s.any (fun b => decide (n ≤ b.1) || !(belowV n b.2)) = q := ⟨_, rfl⟩
  rw [hq] at HAll HV
  clear hq hfit hC
  go_enter Tryz.func148, Tryz.ntmps148
  go_wp2_with (go_at_call 173; (with_reducible refine (HAll.out _ (H0.out _) HN.out).mono ?_); rintro e w1 ⟨rfl, hb⟩)
  go_ret
  exact ⟨ret_bool HV.out, bel_trans (H0.out _) hb⟩
end Go.Proofs.YtdoggcfdfkkedaaGreatDoor
namespace Go.Proofs.YtdoggcfdfkkedaaGreatDoor
open Go.RowKit
set_option maxRecDepth 100000
set_option maxHeartbeats 4000000
set_option linter.unusedVariables false
theorem go1_c (t : Trm) (n : Int) (pb : Addr) (tv : Value) (w : World) (h : w.cell? pb = some (.int .i64 n)) (ht : T0 w tv t) (hl : t.length ≤ 1000000000) :
    Calls Tryz.prog 177 #[tv, .pointer (some pb)] w fun e w' => e = .returned (.bool (belowV n t)) ∧ Below w.heap.size w w' := by
  have HS := Lib.hid (belowI_c t n tv w ht hl)
  clear ht
  go_enter Tryz.func177, Tryz.ntmps177
  go_wp2_with (go_at_call 136; (with_reducible refine HS.out.mono ?_); rintro e w1 ⟨rfl, hb⟩)
  go_ret
  exact ⟨rfl, hb⟩
theorem box5_at {w w1 : World} {x0 x1 x2 x3 x4 : Value} {t : TypeId} (hb : Below (w.alloc (.cells #[x0, x1, x2, x3, x4] t)).heap.size (w.alloc (.cells #[x0, x1, x2, x3, x4] t)) w1) :
    w1.cell? ⟨w.heap.size, 0, none⟩ = some x0 ∧ w1.cell? ⟨w.heap.size, 4, none⟩ = some x4 := by
  have k := keep_cells (heap_alloc_new w (.cells #[x0, x1, x2, x3, x4] t)) hb
  exact ⟨k 0 _ rfl, k 4 _ rfl⟩
theorem go2_c (g : SGoal) (vars n : Int) (pm pc pb : Addr) (av bv cv : Value) (w : World) (h1 : w.cell? pm = some (.func (.func 177) #[] #[.pointer (some pb)])) (h2 : w.cell? pc = some (.int .i64 n)) (h3 : w.cell? pb = some (.int .i64 vars))
    (hA : T0 w av g.g.a) (hB : T0 w bv g.g.b) (hC : T0 w cv g.g.c) (hf : fitG g.g) :
    Calls Tryz.prog 178 #[.agg #[.int .i64 g.g.k, av, bv, cv, .int .i64 g.cut], .pointer (some pm), .pointer (some pc)] w fun e w' => e = .returned (.bool (!(sgOk vars n g))) ∧ Below w.heap.size w w' := by
  have HS := Lib.hid (fun W (hb : Below w.heap.size w W) => shapeGo_c (belowV vars) pb g.g av bv cv W (Kd.S_ext hb hA) (Kd.S_ext hb hB) (Kd.S_ext hb hC) hf (fun W' t v hb' ht hft => go1_c t vars pb v W' (cell_keep hb' (cell_keep hb h3)) ht (fit_len hft)))
  have HI := Lib.hid (fun W => imIn_c g.cut 0 n W)
  have H0 := Lib.hid (fun o => bel_alloc (Below.refl _ w) o)
  have HX := Lib.hid (fun w1 => box5_at (w := w) (w1 := w1) (x0 := .int .i64 g.g.k) (x1 := av) (x2 := bv) (x3 := cv) (x4 := .int .i64 g.cut) (t := 219))
  have c1 := fun o => cell_keep (bel_alloc (Below.refl _ w) o) h1
  have HP := Lib.hid (fun W (hb : Below w.heap.size w W) => cell_keep hb h2)
  clear hA hB hC hf h1 h2 h3
  obtain ⟨⟨k, a, b, c⟩, cut⟩ := g
  simp only at HS HI HX ⊢
  have HV := Lib.hid (show sgOk vars n ⟨⟨k, a, b, c⟩, cut⟩ = ((decide (0 ≤ cut) && decide (cut ≤ n)) && (decide (k = 3) || decide (cut = 0)) && shapeOk (fun t => trmOk t && belowV vars t) k a b c) from rfl)
  obtain ⟨q1, e1⟩ : ∃ q, shapeOk (fun t => trmOk t && belowV vars t) k a b c = q := ⟨_, rfl⟩
  obtain ⟨q2, e2⟩ : ∃ q, (decide (0 ≤ cut) && decide (cut ≤ n)) = q := ⟨_, rfl⟩
  have e3 : (k != 3) = !(decide (k = 3)) := by rw [Bool.eq_iff_iff]; simp
  have e4 : (cut != 0) = !(decide (cut = 0)) := by rw [Bool.eq_iff_iff]; simp
  rw [e1, e2] at HV
  rw [e1] at HS
  rw [e2] at HI
  rw [HV.out]
  obtain ⟨q3, e5⟩ : ∃ q, decide (k = 3) = q := ⟨_, rfl⟩
  obtain ⟨q4, e6⟩ : ∃ q, decide (cut = 0) = q := ⟨_, rfl⟩
  rw [e5] at e3 ⊢
  rw [e6] at e4 ⊢
  clear HV e1 e2 e5 e6
  cases q1 <;> cases q2 <;> cases q3
  all_goals (first | (have e3 : (k != 3) = true := e3) | (have e3 : (k != 3) = false := e3))
  all_goals
    go_enter Tryz.func178, Tryz.ntmps178
    go_wp2_with (first | (go_at_call 135; (with_reducible refine (HS.out _ (H0.out _)).mono ?_); rintro e w1 ⟨rfl, hb1⟩; obtain ⟨x0, x4⟩ := HX.out _ hb1; have HB1 := Lib.hid (bel_trans (H0.out _) hb1); have z0 := HP.out _ HB1.out; clear hb1) | (go_at_call 29; (with_reducible refine (HI.out _).mono ?_); rintro e w2 ⟨rfl, rfl⟩))
    all_goals
      go_ret
      first | exact ⟨rfl, HB1.out⟩ | exact ⟨ret_bool (by cases q4 <;> first | rfl | contradiction), HB1.out⟩
theorem three (w : World) (a b c : Value) (t1 t2 t3 : TypeId) :
    (((w.alloc (.cells #[a] t1)).alloc (.cells #[b] t2)).alloc (.cells #[c] t3)).cell? ⟨w.heap.size + 1 + 1, 0, none⟩ = some c ∧
    (((w.alloc (.cells #[a] t1)).alloc (.cells #[b] t2)).alloc (.cells #[c] t3)).cell? ⟨w.heap.size + 1, 0, none⟩ = some b ∧
    (((w.alloc (.cells #[a] t1)).alloc (.cells #[b] t2)).alloc (.cells #[c] t3)).cell? ⟨w.heap.size, 0, none⟩ = some a := by
  have s1 : ∀ (W : World) o, (W.alloc o).heap.size = W.heap.size + 1 := fun W o => by show (W.heap.push o).size = _; rw [Array.size_push]
  have h1 := Lib.cell_of_heap (heap_alloc_new w (.cells #[a] t1)) 0
  have h2 := Lib.cell_of_heap (heap_alloc_new (w.alloc (.cells #[a] t1)) (.cells #[b] t2)) 0
  have h3 := Lib.cell_of_heap (heap_alloc_new ((w.alloc (.cells #[a] t1)).alloc (.cells #[b] t2)) (.cells #[c] t3)) 0
  rw [s1] at h2
  rw [s1, s1] at h3
  exact ⟨h3, cell_keep (bel_alloc (Below.refl _ _) _) h2, cell_keep (bel_alloc (bel_alloc (Below.refl _ _) _) _) h1⟩
theorem goalsI_c (gs : List SGoal) (vars n : Int) (gv : Value) (w : World) (h : G0 w gv gs) (hf : fitGs gs) :
    Calls Tryz.prog 149 #[gv, .int .i64 vars, .int .i64 n] w fun e w' => e = .returned (.bool (gs.all (sgOk vars n))) ∧ Below w.heap.size w w' := by
  have hlen := hf.1
  have hfit := hf.2
  obtain ⟨A, c, rfl, a1, a2, hC⟩ := h
  have H0 := Lib.hid (fun o o' o'' => bel_alloc (bel_alloc (bel_alloc (Below.refl _ w) o) o') o'')
  have HV := Lib.hid (show (!(gs.any (fun b => !(sgOk vars n b)))) = gs.all (sgOk vars n) by rw [any_not, Bool.not_not])
  have HAll := Lib.hid (fun W (hb : Below w.heap.size w W) pm pc pb (h1 : W.cell? pm = some (.func (.func 177) #[] #[.pointer (some pb)])) (h2 : W.cell? pc = some (.int .i64 n)) (h3 : W.cell? pb = some (.int .i64 vars)) => cs_con (fun b => !(sgOk vars n b)) gs A c pm pc W (Kd.C_ext hb hC) (by omega) (fun W' y hy hb' av bv cv ha hb2 hc => go2_c y vars n pm pc pb av bv cv W' (cell_keep hb' h1) (cell_keep hb' h2) (cell_keep hb' h3) ha hb2 hc (hfit y hy)))
  obtain ⟨q, hq⟩ : ∃ q, gs.any (fun b => !(sgOk vars n b)) = q := ⟨_, rfl⟩
  rw [hq] at HAll HV
  have hst := fun (a : Addr) (k : Fn) (W : World) m => run_store Tryz.prog W a (.func k #[] #[.pointer (some ⟨w.heap.size, 0, none⟩)]) m rfl
  clear hq hfit hC
  go_enter Tryz.func149, Tryz.ntmps149
  go_wp2_with (go_at_call 179; refine (HAll.out _ (H0.out _ _ _) _ _ _ (three _ _ _ _ _ _ _).1 (three _ _ _ _ _ _ _).2.1 (three _ _ _ _ _ _ _).2.2).mono ?_; rintro e w1 ⟨rfl, hb⟩)
  go_ret
  exact ⟨ret_bool HV.out, bel_trans (H0.out _ _ _) hb⟩
end Go.Proofs.YtdoggcfdfkkedaaGreatDoor
