/- Lemmas and contracts for FnOutOk, part 7. -/
import Derived.Test.YtjglbadkbhopoaaGreatDoorW05
import Derived.Test.YtjglbadkbhopoaaGreatDoorW06
import Derived.Deep.RegionHeld3
import Derived.Deep.RegionWith
import Derived.Test.YtjglbadkbhopoaaGreatDoorW04
namespace Go.Proofs.YtjglbadkbhopoaaGreatDoor
open Go.RowKit
set_option maxRecDepth 100000
set_option maxHeartbeats 2000000
set_option linter.unusedVariables false
theorem clip_c (A : Option Addr) (n c : Nat) (w : World) (h1 : n ≤ c) (h2 : c ≤ maxLen) :
    Calls Tryz.prog 81 #[.slice A n c] w fun e w' => e = .returned (.slice A n n) ∧ w' = w := by
  have hm : maxLen = 9223372036854775807 := rfl
  go_enter Tryz.func81, Tryz.ntmps81
  go_wp2
  go_ret
  exact ⟨rfl, rfl⟩
theorem fullI_b {V : List Int} {s : Binds} {t : Trm} {q : Bool} (hB : Binv V s) (hV : V.length ≤ 4000000) (ht : trmOk t = true) (hq : decide ((flat s t).length ≤ 40) = q) (sv tv : Value) (w : World) (hs : Kd.bind.S 107 w sv s) (hS : Kd.cell.S 47 w tv t) :
    Calls Tryz.prog 80 #[sv, tv] w fun e w' => ∃ v, e = .returned (.tuple #[v, .bool q]) ∧ Below w.heap.size w w' := by
  obtain ⟨k, f⟩ := flat_fl hB.bok t
  refine (fullI_c s t _ k sv tv w f hs hS (by have := hB.len; omega) hB.nod (trmOk_iff.1 ht).2.1 (bound_len hB)).mono ?_
  rintro e w' ⟨v, rfl, _, hb⟩
  exact ⟨v, by rw [hq], hb⟩
def MeetPostI (w : World) (m : Option Binds × Int) (e : Ending) (w' : World) : Prop := ∃ v, e = .returned (.tuple #[v, .int .i64 m.2]) ∧ Kd.bind.F 107 w' w.heap.size v (m.1.getD []) ∧ Below w.heap.size w w'
theorem MeetPostI.mk' {w w' : World} {m : Option Binds × Int} {o : Option Binds} {k : Int} {v : Value} (hm : m = (o, k)) (hO : Kd.bind.F 107 w' w.heap.size v (o.getD [])) (hw : Below w.heap.size w w') : MeetPostI w m (.returned (.tuple #[v, .int .i64 k])) w' := by subst hm; exact ⟨v, rfl, hO, hw⟩
theorem meetI_c (V : List Int) (s : Binds) (sv av bv : Value) (a b : Trm) (w : World) (hB : Binv V s) (hP : Pok V (a, b)) (hV : V.length ≤ 4000000) (hVr : ∀ x ∈ V, 0 ≤ x ∧ x ≤ 1000000000) (hs : Kd.bind.S 107 w sv s) (h1 : Kd.cell.S 47 w av a) (h2 : Kd.cell.S 47 w bv b) :
    Calls Tryz.prog 43 #[sv, av, bv] w (MeetPostI w (meet s a b)) := by
  have hI : Uinv V s [(a, b)] := .start hB hP.1 hP.2.1 hP.2.2.1 hP.2.2.2
  obtain ⟨n, hU⟩ := uni_U hI
  have HS := Lib.hid hs
  have H1 := Lib.hid h1
  have H2 := Lib.hid h2
  obtain ⟨qa, hqa⟩ : ∃ qa, decide ((flat s a).length ≤ 40) = qa := ⟨_, rfl⟩
  obtain ⟨qb, hqb⟩ : ∃ qb, decide ((flat s b).length ≤ 40) = qb := ⟨_, rfl⟩
  have HFa := Lib.hid (fun w' hs ha => fullI_b hB hV hP.1 hqa sv av w' hs ha)
  have HFb := Lib.hid (fun w' hs ha => fullI_b hB hV hP.2.1 hqb sv bv w' hs ha)
  obtain ⟨r, hr⟩ : ∃ r, uni s [(a, b)] = r := ⟨_, rfl⟩
  rw [hr] at hU
  have HFx := Lib.hid (fun s' (h : r = some s') q hq sv' w' hs ha => fullI_b (q := q) (U_binv hI (h ▸ hU)) hV hP.1 hq sv' av w' hs ha)
  obtain ⟨SB, cS, rfl, s1, s2, hSC⟩ := hs
  have HUn := Lib.hid (fun w' (hs : Kd.bind.S 107 w' (.slice SB s.length s.length) s) ha hb' => unifyI_c V w'.heap.size hV hVr (n + 1) n s (.slice SB s.length s.length) av bv a b r w' (by omega) hU hB hP (.inr ⟨hs, SB, rfl⟩) ha hb' (Nat.le_refl _))
  have HSc := Lib.hid (show Kd.bind.S 107 w (.slice SB s.length s.length) s from ⟨SB, s.length, rfl, Nat.le_refl _, Nat.le_trans s1 s2, hSC⟩)
  have HCl := Lib.hid (fun w' => clip_c SB s.length cS w' s1 s2)
  obtain ⟨TA, ca, rfl, ta1, ta2, -⟩ := h1
  obtain ⟨TB, cb, rfl, tb1, tb2, -⟩ := h2
  clear hSC hI hU hB hP
  by_cases hq : qa = true ∧ qb = true
  · obtain ⟨rfl, rfl⟩ := hq
    have hfit := Lib.hid (And.intro (of_decide_eq_true hqa) (of_decide_eq_true hqb))
    clear hqa hqb
    cases r with
    | none =>
      have HM := Lib.hid (meet_apart hfit.out hr)
      clear hr
      go_enter Tryz.func43, Tryz.ntmps43
      go_wp2_with (first | (go_at_call 80; (with_reducible refine (HFa.out w HS.out H1.out).mono ?_); rintro e w1 ⟨va, rfl, hb1⟩; have HB1 := Lib.hid hb1; clear hb1) | (go_at_call 80; (with_reducible refine (HFb.out w1 (Kd.S_ext HB1.out HS.out) (Kd.S_ext HB1.out H2.out)).mono ?_); rintro e w2 ⟨vb, rfl, hb2⟩; have HB2 := Lib.hid (bel_trans HB1.out hb2); clear hb2) | (go_at_call 81; (with_reducible refine (HCl.out w2).mono ?_); rintro e w3 ⟨rfl, rfl⟩) | (go_at_call 40; (with_reducible refine (HUn.out _ (Kd.S_ext HB2.out HSc.out) (Kd.S_ext HB2.out H1.out) (Kd.S_ext HB2.out H2.out)).mono ?_); rintro e w5 ⟨rv, rfl, hw3⟩; have HW3 := Lib.hid hw3; clear hw3))
      go_ret2
      exact .mk' HM.out (Kd.F_nil _ _ _ _) (bel_trans HB2.out HW3.out.bel)
    | some s' =>
      obtain ⟨qx, hqx⟩ : ∃ qx, decide ((flat s' a).length ≤ 40) = qx := ⟨_, rfl⟩
      have HFy := Lib.hid (fun sv' w' hs ha => HFx.out s' rfl qx hqx sv' w' hs ha)
      cases qx with
      | true =>
        have HM := Lib.hid (meet_some hfit.out hr (of_decide_eq_true hqx))
        clear hr hqx
        go_enter Tryz.func43, Tryz.ntmps43
        go_wp2_with (first | (go_at_call 80; (with_reducible refine (HFa.out w HS.out H1.out).mono ?_); rintro e w1 ⟨va, rfl, hb1⟩; have HB1 := Lib.hid hb1; clear hb1) | (go_at_call 80; (with_reducible refine (HFb.out w1 (Kd.S_ext HB1.out HS.out) (Kd.S_ext HB1.out H2.out)).mono ?_); rintro e w2 ⟨vb, rfl, hb2⟩; have HB2 := Lib.hid (bel_trans HB1.out hb2); clear hb2) | (go_at_call 81; (with_reducible refine (HCl.out w2).mono ?_); rintro e w3 ⟨rfl, rfl⟩) | (go_at_call 40; (with_reducible refine (HUn.out _ (Kd.S_ext HB2.out HSc.out) (Kd.S_ext HB2.out H1.out) (Kd.S_ext HB2.out H2.out)).mono ?_); rintro e w5 ⟨rv, ⟨rfl, ho3⟩, hw3⟩; have HW3 := Lib.hid hw3; have HO3 := Lib.hid ho3; clear hw3 ho3) | (go_at_call 80; (with_reducible refine (HFy.out _ _ (Kd.F_read HO3.out) (Kd.S_ext HW3.out.bel (Kd.S_ext HB2.out H1.out))).mono ?_); rintro e w4 ⟨vc, rfl, hb4⟩; have HB4 := Lib.hid hb4; clear hb4))
        go_ret2
        exact .mk' HM.out (Kd.F_ext HB4.out (Kd.F_base HO3.out HB2.out.size)) (bel_trans (bel_trans HB2.out HW3.out.bel) HB4.out)
      | false =>
        have HM := Lib.hid (meet_wide hfit.out hr (of_decide_eq_false hqx))
        clear hr hqx
        go_enter Tryz.func43, Tryz.ntmps43
        go_wp2_with (first | (go_at_call 80; (with_reducible refine (HFa.out w HS.out H1.out).mono ?_); rintro e w1 ⟨va, rfl, hb1⟩; have HB1 := Lib.hid hb1; clear hb1) | (go_at_call 80; (with_reducible refine (HFb.out w1 (Kd.S_ext HB1.out HS.out) (Kd.S_ext HB1.out H2.out)).mono ?_); rintro e w2 ⟨vb, rfl, hb2⟩; have HB2 := Lib.hid (bel_trans HB1.out hb2); clear hb2) | (go_at_call 81; (with_reducible refine (HCl.out w2).mono ?_); rintro e w3 ⟨rfl, rfl⟩) | (go_at_call 40; (with_reducible refine (HUn.out _ (Kd.S_ext HB2.out HSc.out) (Kd.S_ext HB2.out H1.out) (Kd.S_ext HB2.out H2.out)).mono ?_); rintro e w5 ⟨rv, ⟨rfl, ho3⟩, hw3⟩; have HW3 := Lib.hid hw3; have HO3 := Lib.hid ho3; clear hw3 ho3) | (go_at_call 80; (with_reducible refine (HFy.out _ _ (Kd.F_read HO3.out) (Kd.S_ext HW3.out.bel (Kd.S_ext HB2.out H1.out))).mono ?_); rintro e w4 ⟨vc, rfl, hb4⟩; have HB4 := Lib.hid hb4; clear hb4))
        go_ret2
        exact .mk' HM.out (Kd.F_nil _ _ _ _) (bel_trans (bel_trans HB2.out HW3.out.bel) HB4.out)
  · have HM := Lib.hid (meet_big (s := s) (a := a) (b := b) (fun h => hq ⟨hqa ▸ decide_eq_true h.1, hqb ▸ decide_eq_true h.2⟩))
    clear hqa hqb hr
    have hqq : (qa = false) ∨ (qa = true ∧ qb = false) := by cases qa <;> cases qb <;> simp_all
    rcases hqq with rfl | ⟨rfl, rfl⟩
    · cases qb
      all_goals
        go_enter Tryz.func43, Tryz.ntmps43
        go_wp2_with (first | (go_at_call 80; (with_reducible refine (HFa.out w HS.out H1.out).mono ?_); rintro e w1 ⟨va, rfl, hb1⟩; have HB1 := Lib.hid hb1; clear hb1) | (go_at_call 80; (with_reducible refine (HFb.out w1 (Kd.S_ext HB1.out HS.out) (Kd.S_ext HB1.out H2.out)).mono ?_); rintro e w2 ⟨vb, rfl, hb2⟩; have HB2 := Lib.hid (bel_trans HB1.out hb2); clear hb2))
        go_ret2
        exact .mk' HM.out (Kd.F_nil _ _ _ _) HB2.out
    · go_enter Tryz.func43, Tryz.ntmps43
      go_wp2_with (first | (go_at_call 80; (with_reducible refine (HFa.out w HS.out H1.out).mono ?_); rintro e w1 ⟨va, rfl, hb1⟩; have HB1 := Lib.hid hb1; clear hb1) | (go_at_call 80; (with_reducible refine (HFb.out w1 (Kd.S_ext HB1.out HS.out) (Kd.S_ext HB1.out H2.out)).mono ?_); rintro e w2 ⟨vb, rfl, hb2⟩; have HB2 := Lib.hid (bel_trans HB1.out hb2); clear hb2))
      go_ret2
      exact .mk' HM.out (Kd.F_nil _ _ _ _) HB2.out
end Go.Proofs.YtjglbadkbhopoaaGreatDoor
namespace Go.Proofs.YtjglbadkbhopoaaGreatDoor
open Go.RowKit
set_option maxRecDepth 100000
set_option maxHeartbeats 2000000
set_option linter.unusedVariables false
theorem step_app {α : Type} {P : Program} {w : World} {d : Kd α} {t e : TypeId} (I : AppI P t e d) {ops : Array Oper} {o : Oper} {a : Act} {K : Act → World → Prop} {Q : Exit → Act → World → Prop} {E : Prop} (hgd : o.guard = none) {s x : Operand}
    (ho : o.op = .call { callee := .builtin .append, args := #[s, x], argTypes := #[t, t] })
    {base : Nat} {v : Value} {xs : List α} (hown : d.O e w base v xs) (hs : a.eval s = v) {xv : Value} {ys : List α} (hy : d.S e w xv ys) (hx : a.eval x = xv)
    (hlen : xs.length + ys.length ≤ 1000000000) (hbase : base ≤ w.heap.size)
    (h : ∀ v' w', Grew d e base v (xs ++ ys) w v' w' → K (a.put o.dst v') w') : if Region.wanted o (yielded ops a.tmps) = true then Oper.wp P o a w K Q else E := by
  have hw : Region.wanted o (yielded ops a.tmps) = true := by simp [Region.wanted, hgd]
  rw [if_pos hw]
  obtain ⟨z, bytes, hi, hz, hb⟩ := I.info
  obtain ⟨A, c, rfl, h1, h2, hC⟩ := hy
  obtain ⟨v', w', hrun, k2, k3, k4⟩ := Go.Proofs.YtjglbadkbhopoaaGreatDoor.run_append (P := P) w base t o.type e z bytes I.und hi hz I.pos v xs hown A ys c hC (by unfold maxLen; omega) (by
    have := Nat.mul_le_mul hlen hb
    omega) hbase I.sep
  unfold Oper.wp execOp
  simp only [ho, resolve, invoke, builtin, Sem.run_bind, Sem.run_pure, Result.andThen_ok, List.map_toArray, List.map_cons, List.map_nil, hs, hx, hrun]
  exact h v' w' ⟨k2, k3, k4⟩
theorem box_grew {w wr w2 : World} {o : Obj} {b1 : Int} {bv : Value} {OB : Option Addr} {n oc : Nat} {L0 ys : Binds} {v3 : Value} {w3 : World}
    (hst : ∀ W1 W2, Below W1.heap.size W1 W2 → (W1.cell? ⟨wr.heap.size, 0, none⟩ = some (.int .i64 b1) ∧ W1.cell? ⟨wr.heap.size, 1, none⟩ = some bv ∧ Hid (Below w.heap.size w W1)) → (W2.cell? ⟨wr.heap.size, 0, none⟩ = some (.int .i64 b1) ∧ W2.cell? ⟨wr.heap.size, 1, none⟩ = some bv ∧ Hid (Below w.heap.size w W2)))
    (hO : Kd.bind.O 107 wr w.heap.size (.slice OB n oc) L0) (hO2 : Kd.bind.O 107 w2 w.heap.size (.slice OB n oc) L0)
    (hS : w2.cell? ⟨wr.heap.size, 0, none⟩ = some (.int .i64 b1) ∧ w2.cell? ⟨wr.heap.size, 1, none⟩ = some bv ∧ Hid (Below w.heap.size w w2))
    (hg : Grew Kd.bind 107 w.heap.size (.slice OB n oc) ys (w2.alloc o) v3 w3) :
    w3.cell? ⟨wr.heap.size, 0, none⟩ = some (.int .i64 b1) ∧ w3.cell? ⟨wr.heap.size, 1, none⟩ = some bv ∧ Hid (Below w.heap.size w w3) := by
  have h2 := hst _ _ (bel_alloc (Below.refl _ w2) o) hS
  have hlt := World.block_lt_of_cell? _ _ h2.1
  have hblk := hg.grown.block wr.heap.size hlt (fun e => by have := (Kd.O_lt hO _ e.symm).2; omega)
  exact ⟨(World.cell?_of_block (a := ⟨wr.heap.size, 0, none⟩) hblk).trans h2.1, (World.cell?_of_block (a := ⟨wr.heap.size, 1, none⟩) hblk).trans h2.2.1, Lib.hid (hg.below h2.2.2.out (Kd.O_alloc _ hO2))⟩
theorem copiedI_c (s : Binds) (sv : Value) (w : World) (hs : Kd.bind.S 107 w sv s) (hl : s.length ≤ 4000000) (ht : ∀ b ∈ s, b.2.length ≤ 1000000000) :
    Calls Tryz.prog 44 #[sv] w fun e w' => ∃ v, e = .returned v ∧ Kd.bind.O 107 w' w.heap.size v s ∧ Below w.heap.size w w' := by
  have HS := Lib.hid hs
  have HT := Lib.hid ht
  obtain ⟨A, c, rfl, c1, c2, -⟩ := hs
  clear ht
  go_enter Tryz.func44, Tryz.ntmps44
  go_wp2
  go_loopw [3, 8] (fun v3 v8 wr => ∃ k : Nat, v8 = .int .i64 k ∧ k ≤ s.length ∧ Hid (Kd.bind.O 107 wr w.heap.size v3 (s.take k)) ∧ Hid (Below w.heap.size w wr)) (fun _ v8 _ => s.length - (intOf v8).toNat)
  case atStart => exact ⟨0, rfl, Nat.zero_le _, Lib.hid (Kd.O_nil _ _ _ _), Lib.hid (Below.refl _ _)⟩
  case round =>
    obtain ⟨k, rfl, hk, HOr, HBr⟩ := hrel
    obtain ⟨OB, oc, rfl, p1, p2, -⟩ := Kd.O_read HOr.out
    by_cases hlt : k < s.length
    · obtain ⟨b, hc⟩ : ∃ b, s[k]? = some b := ⟨_, List.getElem?_eq_getElem hlt⟩
      obtain ⟨A0, c0, ev0, q1, q2, hC0⟩ := HS.out
      injection ev0 with u1 u2 u3
      subst u1
      obtain ⟨ad, B, cb, rfl, y1, y2, y3, y4, y5⟩ := bind_at hC0 hc
      have x1 := cell_keep HBr.out y1
      have x2 := cell_keep HBr.out y2
      have HTm := Lib.hid (show Kd.cell.S 47 w (.slice B b.2.length cb) b.2 from ⟨B, cb, rfl, y3, y4, y5⟩)
      have hbl := HT.out b (List.mem_of_getElem? hc)
      have htk : s.take (k + 1) = s.take k ++ [b] := by rw [List.take_succ_eq_append_getElem hlt, (List.getElem?_eq_some_iff.1 hc).2]
      have hlt2 : (s.take k).length ≤ 4000000 := by rw [List.length_take]; omega
      obtain ⟨L0, hL0⟩ : ∃ L0, s.take k = L0 := ⟨_, rfl⟩
      rw [hL0] at htk HOr p1 hlt2 ⊢
      have HTk := Lib.hid htk
      have HCl := Lib.hid (fun W (hb : Below w.heap.size w W) => cloneS_c b.2 B cb W (Kd.S_ext hb HTm.out) hbl)
      clear y1 y2 y5 hC0 hc htk u2 u3 hL0
      go_upto_region 5 with (fail)
      have hst : ∀ W1 W2, Below W1.heap.size W1 W2 → (W1.cell? ⟨wr.heap.size, 0, none⟩ = some (.int .i64 b.1) ∧ W1.cell? ⟨wr.heap.size, 1, none⟩ = some (.slice B b.2.length cb) ∧ Hid (Below w.heap.size w W1)) → (W2.cell? ⟨wr.heap.size, 0, none⟩ = some (.int .i64 b.1) ∧ W2.cell? ⟨wr.heap.size, 1, none⟩ = some (.slice B b.2.length cb) ∧ Hid (Below w.heap.size w W2)) := fun W1 W2 hb h => ⟨cell_keep hb h.1, cell_keep hb h.2.1, Lib.hid (bel_trans h.2.2.out hb)⟩
      have hbx := heap_alloc_new wr (.cells #[.int .i64 b.1, .slice B b.2.length cb] 107)
      have hS0 := hst _ (wr.alloc (.cells #[.int .i64 b.1, .slice B b.2.length cb] 107)).drew (bel_drew (Below.refl _ _)) ⟨Lib.cell_of_heap hbx 0, Lib.cell_of_heap hbx 1, Lib.hid (bel_alloc HBr.out _)⟩
      clear hbx
      go_region_held3 (fun W => W.cell? ⟨wr.heap.size, 0, none⟩ = some (.int .i64 b.1) ∧ W.cell? ⟨wr.heap.size, 1, none⟩ = some (.slice B b.2.length cb) ∧ Hid (Below w.heap.size w W)) (first | assumption | exact hst _ _ (bel_alloc (Below.refl _ _) _) (by assumption)) (first | (go_at_call 46; refine (HCl.out _ (by have := hS0.2.2.out; exact this)).mono ?_; rintro e w2 ⟨cv, rfl, ho, hb2⟩; have hS2 := hst _ _ hb2 (by assumption); have HO2 := Lib.hid (Kd.O_ext (bel_trans (bel_drew (Below.refl _ _)) hb2) (Kd.O_alloc _ HOr.out)); obtain ⟨VB, cV, rfl, n1, n2, hVC⟩ := Kd.O_read ho; have HVC := Lib.hid hVC; clear ho hb2 hVC) | (refine step_app AppI.bind rfl rfl (Kd.O_alloc _ HO2.out) rfl (Kd.S_lit Kd.bind _ (x := b) (cs := [.int .i64 b.1, .slice VB b.2.length cV]) ⟨[.int .i64 b.1], [.slice VB b.2.length cV], rfl, rfl, _, rfl, VB, cV, rfl, n1, n2, HVC.out⟩ rfl) rfl (by simp; omega) (bel_alloc hS2.2.2.out _).size ?_; intro v3 w3 hg3; have hS3 := box_grew hst HOr.out HO2.out hS2 hg3; have HG3 := Lib.hid hg3; clear hg3))
      all_goals
        have HB3 := hS3.2.2
        have HF := Lib.hid (show Kd.bind.O 107 w3 w.heap.size v3 (s.take (k + 1)) by rw [HTk.out]; exact HG3.out.own)
        clear hS0 hst hS2 hS3
        go_wp2
        exact ⟨⟨k + 1, by go_num, hlt, HF, HB3⟩, by simp [intOf]; omega⟩
    · have hk2 : s.take k = s := List.take_of_length_le (by omega)
      rw [hk2] at HOr p1 ⊢
      clear hk2
      go_wp2
      go_ret
      exact ⟨_, rfl, HOr.out, HBr.out⟩
theorem copyS_c (s : Binds) (sv : Value) (w : World) (hs : Kd.bind.S 107 w sv s) (hl : s.length ≤ 4000000) (ht : ∀ b ∈ s, b.2.length ≤ 4000000) :
    Calls Tryz.prog 144 #[sv] w fun e w' => ∃ v, e = .returned v ∧ Kd.bind.O 107 w' w.heap.size v s ∧ Below w.heap.size w w' := by
  have HS := Lib.hid hs
  have HT := Lib.hid ht
  obtain ⟨A, c, rfl, c1, c2, -⟩ := hs
  clear ht
  go_enter Tryz.func144, Tryz.ntmps144
  go_wp2
  go_loopw [3, 4] (fun v3 v4 wr => ∃ k : Nat, v4 = .int .i64 k ∧ k ≤ s.length ∧ Hid (Kd.bind.O 107 wr w.heap.size v3 (s.take k)) ∧ Hid (Below w.heap.size w wr)) (fun _ v4 _ => s.length - (intOf v4).toNat)
  case atStart => exact ⟨0, rfl, Nat.zero_le _, Lib.hid (Kd.O_empty _ _ w (Nat.le_refl _)), Lib.hid (bel_alloc (Below.refl _ _) _)⟩
  case round =>
    obtain ⟨k, rfl, hk, HOr, HBr⟩ := hrel
    obtain ⟨OB, oc, rfl, p1, p2, -⟩ := Kd.O_read HOr.out
    by_cases hlt : k < s.length
    · obtain ⟨b, hc⟩ : ∃ b, s[k]? = some b := ⟨_, List.getElem?_eq_getElem hlt⟩
      obtain ⟨A0, c0, ev0, q1, q2, hC0⟩ := HS.out
      injection ev0 with u1 u2 u3
      subst u1
      obtain ⟨ad, B, cb, rfl, y1, y2, y3, y4, y5⟩ := bind_at hC0 hc
      have y1' := y1
      have y2' := y2
      have x1 := cell_keep HBr.out y1
      have x2 := cell_keep HBr.out y2
      have HTm := Lib.hid (show Kd.cell.S 47 w (.slice B b.2.length cb) b.2 from ⟨B, cb, rfl, y3, y4, y5⟩)
      have hbl := HT.out b (List.mem_of_getElem? hc)
      have htk : s.take (k + 1) = s.take k ++ [b] := by rw [List.take_succ_eq_append_getElem hlt, (List.getElem?_eq_some_iff.1 hc).2]
      have hlt2 : (s.take k).length ≤ 4000000 := by rw [List.length_take]; omega
      obtain ⟨L0, hL0⟩ : ∃ L0, s.take k = L0 := ⟨_, rfl⟩
      rw [hL0] at htk HOr p1 hlt2 ⊢
      have HTk := Lib.hid htk
      clear y1 y2 y5 hC0 hc htk u2 u3 hL0
      go_upto_region 5 with (fail)
      have hst : ∀ W1 W2, Below W1.heap.size W1 W2 → (W1.cell? (ad.add (k * 2)) = some (.int .i64 b.1) ∧ W1.cell? ⟨(ad.add (k * 2)).block, (ad.add (k * 2)).off + 1, none⟩ = some (.slice B b.2.length cb) ∧ Hid (Below w.heap.size w W1)) → (W2.cell? (ad.add (k * 2)) = some (.int .i64 b.1) ∧ W2.cell? ⟨(ad.add (k * 2)).block, (ad.add (k * 2)).off + 1, none⟩ = some (.slice B b.2.length cb) ∧ Hid (Below w.heap.size w W2)) := fun W1 W2 hb h => ⟨cell_keep hb h.1, cell_keep hb h.2.1, Lib.hid (bel_trans h.2.2.out hb)⟩
      have hS0 := hst _ wr.drew (bel_drew (Below.refl _ _)) ⟨x1, x2, HBr⟩
      go_region_held3 (fun W => W.cell? (ad.add (k * 2)) = some (.int .i64 b.1) ∧ W.cell? ⟨(ad.add (k * 2)).block, (ad.add (k * 2)).off + 1, none⟩ = some (.slice B b.2.length cb) ∧ Hid (Below w.heap.size w W)) (first | assumption | exact hst _ _ (bel_alloc (Below.refl _ _) _) (by assumption)) (first | (refine step_app AppI.cell rfl rfl (O_empty_at Kd.cell _ wr.drew (g := wr.heap.size) rfl (base := wr.drew.heap.size) (Nat.le_refl _)) rfl (Kd.S_alloc _ (Kd.S_ext hS0.2.2.out HTm.out)) rfl (by simp; omega) (bel_alloc (Below.refl _ _) _).size ?_; intro v1 w2 hg; have hB2 := hg.below (bel_alloc (Below.refl _ wr.drew) _) (O_empty_at Kd.cell _ wr.drew (g := wr.heap.size) rfl (base := wr.drew.heap.size) (Nat.le_refl _)); have hS2 := hst _ _ hB2 hS0; have HO2 := Lib.hid (Kd.O_ext (bel_trans (bel_drew (Below.refl _ _)) hB2) HOr.out); have hown := hg.own; rw [List.nil_append] at hown; obtain ⟨VB, cV, rfl, n1, n2, hVC⟩ := Kd.O_read hown; have HVC := Lib.hid hVC; clear hg hB2 hown hVC) | (refine step_app AppI.bind rfl rfl (Kd.O_alloc _ HO2.out) rfl (Kd.S_lit Kd.bind _ (x := b) (cs := [.int .i64 b.1, .slice VB b.2.length cV]) ⟨[.int .i64 b.1], [.slice VB b.2.length cV], rfl, rfl, _, rfl, VB, cV, rfl, n1, n2, HVC.out⟩ rfl) rfl (by simp; omega) (bel_alloc hS2.2.2.out _).size ?_; intro v3 w3 hg3; have HB3 := Lib.hid (hg3.below (bel_alloc hS2.2.2.out _) (Kd.O_alloc _ HO2.out)); have hS3 : (w3.cell? (ad.add (k * 2)) = some (.int .i64 b.1) ∧ w3.cell? ⟨(ad.add (k * 2)).block, (ad.add (k * 2)).off + 1, none⟩ = some (.slice B b.2.length cb) ∧ Hid (Below w.heap.size w w3)) := ⟨cell_keep HB3.out y1', cell_keep HB3.out y2', HB3⟩; have HG3 := Lib.hid hg3; clear hg3))
      all_goals
        have HF := Lib.hid (show Kd.bind.O 107 w3 w.heap.size v3 (s.take (k + 1)) by rw [HTk.out]; exact HG3.out.own)
        clear hS0 hst hS2 hS3
        go_wp2
        exact ⟨⟨k + 1, by go_num, hlt, HF, HB3⟩, by simp [intOf]; omega⟩
    · have hk2 : s.take k = s := List.take_of_length_le (by omega)
      rw [hk2] at HOr p1 ⊢
      clear hk2
      go_wp2
      go_ret
      exact ⟨_, rfl, HOr.out, HBr.out⟩
end Go.Proofs.YtjglbadkbhopoaaGreatDoor
namespace Go.Proofs.YtjglbadkbhopoaaGreatDoor
open Go.RowKit
set_option maxRecDepth 100000
set_option maxHeartbeats 2000000
set_option linter.unusedVariables false
theorem trmOkS_c (t : Trm) (tv : Value) (w : World) (h : Kd.cell.S 47 w tv t) (hl : t.length ≤ 1000000000) :
    Calls Tryz.prog 21 #[tv] w fun e w' => e = .returned (.bool (trmOk t)) ∧ Below w.heap.size w w' := by
  obtain ⟨A, c, rfl, _, _, hC⟩ := h
  exact trmOk_c t A c w hC hl
theorem canonS_c (t : Trm) (tv : Value) (w : World) (h : Kd.cell.S 47 w tv t) (hl : t.length ≤ 1000000000) :
    Calls Tryz.prog 23 #[tv] w fun e w' => ∃ v, e = .returned v ∧ Kd.cell.S 47 w' v (canon t) ∧ Below w.heap.size w w' := by
  obtain ⟨A, c, rfl, _, _, hC⟩ := h
  exact canon_c t A c w hC hl
theorem sameS_c (t u : Trm) (tv uv : Value) (w : World) (h : Kd.cell.S 47 w tv t) (h' : Kd.cell.S 47 w uv u) (hl : t.length ≤ 1000000000) (hl' : u.length ≤ 1000000000) :
    Calls Tryz.prog 22 #[tv, uv] w fun e w' => e = .returned (.bool (decide (t = u))) ∧ Below w.heap.size w w' := by
  obtain ⟨A, c, rfl, _, _, hC⟩ := h
  obtain ⟨B, d, rfl, _, _, hC'⟩ := h'
  exact same_c t u A B c d w hC hC' hl hl'
theorem topS_c (t : Trm) (tv : Value) (w : World) (h : Kd.cell.S 47 w tv t) (hl : t.length ≤ 1000000000) :
    Calls Tryz.prog 19 #[tv] w fun e w' => e = .returned (.bool (isQ t)) ∧ Below w.heap.size w w' := by
  obtain ⟨A, c, rfl, _, _, hC⟩ := h
  exact top_c t A c w hC hl
theorem shiftS_c (t : Trm) (tv : Value) (n : Int) (w : World) (h : Kd.cell.S 47 w tv t) (hl : t.length ≤ 1000000000) (hn0 : -1000000000 ≤ n) (hn1 : n ≤ 1000000000) (hc0 : ∀ x ∈ t, -1000000000 ≤ x.n ∧ x.n ≤ 1000000000) :
    Calls Tryz.prog 25 #[tv, .int .i64 n] w fun e w' => ∃ v, e = .returned v ∧ Kd.cell.S 47 w' v (shift t n) ∧ Below w.heap.size w w' := by
  obtain ⟨A, c, rfl, _, _, hC⟩ := h
  exact shift_c t A c n w hC hl hn0 hn1 hc0
theorem n_small {t : Trm} (h : trmOk t = true) : ∀ x ∈ t, -1000000000 ≤ x.n ∧ x.n ≤ 1000000000 := fun x hx => by
  have := cellOk_n (List.all_eq_true.1 (trmOk_iff.1 h).2.2 x hx)
  omega
theorem outOkS_c (top : Trm) (tv : Value) (st : Int) (t : Trm) (ov : Value) (w : World) (h : Kd.cell.S 47 w tv top) (h' : Kd.cell.S 47 w ov t) (hl : top.length ≤ 1000000000) (hl' : t.length ≤ 1000000000) :
    Calls Tryz.prog 8 #[tv, .agg #[.int .i64 st, ov]] w fun e w' => e = .returned (.bool (outOk top st t)) ∧ Below w.heap.size w w' := by
  have H := Lib.hid h
  have H' := Lib.hid h'
  obtain ⟨B, k, rfl, b1, b2, -⟩ := h'
  have HT := Lib.hid (fun W hb => topS_c top tv W (Kd.S_ext (w' := W) hb H.out) hl)
  clear h
  cases hq : isQ top with
  | false =>
    have HV := Lib.hid (show outOk top st t = false by unfold outOk; rw [if_pos hq])
    rw [hq] at HT
    clear hq
    go_enter Tryz.func8, Tryz.ntmps8
    go_wp2_with (go_at_call 19; (with_reducible refine (HT.out _ (bel_alloc (Below.refl _ _) _)).mono ?_); rintro e w1 ⟨rfl, hb⟩)
    go_ret
    exact ⟨ret_bool HV.out.symm, bel_trans (bel_alloc (Below.refl _ _) _) hb⟩
  | true =>
    rw [hq] at HT
    have HQ := Lib.hid hq
    clear hq
    have hbx : ∀ w1, Below (w.alloc (.cells #[.int .i64 st, .slice B t.length k] 25)).heap.size (w.alloc (.cells #[.int .i64 st, .slice B t.length k] 25)) w1 →
        w1.cell? ⟨w.heap.size, 0, none⟩ = some (.int .i64 st) ∧ w1.cell? ⟨w.heap.size, 1, none⟩ = some (.slice B t.length k) ∧ Below w.heap.size w w1 := fun w1 hb => ⟨cell_keep hb (box_cell _ _ _ 0), cell_keep hb (box_cell _ _ _ 1), bel_trans (bel_alloc (Below.refl _ _) _) hb⟩
    have HBX := Lib.hid hbx
    clear hbx
    by_cases h2 : st = 2
    · subst h2
      have HO := Lib.hid (fun W hb => trmOkS_c t _ W (Kd.S_ext (w' := W) hb H'.out) hl')
      have HV0 := Lib.hid (show outOk top 2 t = (trmOk t && (decide (canon t = t) && (uni [] [(t, shift top t.length)]).isSome)) by
        unfold outOk
        rw [if_neg (by rw [HQ.out]; simp), if_neg (by omega), if_neg (by omega)]
        cases trmOk t with
        | false => rfl
        | true =>
          rw [if_neg (by simp), Bool.true_and]
          by_cases hc : canon t = t
          · rw [if_neg (by simpa using hc), decide_eq_true hc, Bool.true_and]
          · rw [if_pos hc, decide_eq_false hc, Bool.false_and])
      have hst : ∀ W W' : World, Below W.heap.size W W' → (W.cell? ⟨w.heap.size, 1, none⟩ = some (.slice B t.length k) ∧ Hid (Below w.heap.size w W)) → (W'.cell? ⟨w.heap.size, 1, none⟩ = some (.slice B t.length k) ∧ Hid (Below w.heap.size w W')) := fun W W' hb h => ⟨cell_keep hb h.1, Lib.hid (bel_trans h.2.out hb)⟩
      cases ho : trmOk t with
      | false =>
        rw [ho] at HO
        have HV := Lib.hid (show outOk top 2 t = false by rw [HV0.out, ho]; rfl)
        clear ho
        have HO2 := Lib.hid (fun W (h : W.cell? ⟨w.heap.size, 1, none⟩ = some (.slice B t.length k) ∧ Hid (Below w.heap.size w W)) => HO.out W h.2.out)
        go_enter Tryz.func8, Tryz.ntmps8
        go_upto_region 5 with (go_at_call 19; (with_reducible refine (HT.out _ (bel_alloc (Below.refl _ _) _)).mono ?_); rintro e w1 ⟨rfl, hb⟩; obtain ⟨c0, c1, hb1⟩ := HBX.out _ hb; have HB1 := Lib.hid hb1; clear hb hb1)
        have hS0 := hst w1 w1.drew (bel_drew (Below.refl _ _)) ⟨c1, HB1⟩
        obtain ⟨C, hC⟩ : ∃ C : World → Prop, ∀ W, C W ↔ (W.cell? ⟨w.heap.size, 1, none⟩ = some (.slice B t.length k) ∧ Hid (Below w.heap.size w W)) := ⟨_, fun W => Iff.rfl⟩
        have HCi := Lib.hid hC
        have hC0 := (hC _).2 hS0
        clear hC hS0
        refine wp_region_class (C := C) (by kernel_rfl) (by kernel_rfl) hC0 ?_; (repeat (first | go_big_quiet_skip | (go_big_quiet_want; first | (go_big_quiet_op; first | go_big_quiet_on | (refine ⟨_, fun _ _ => rfl, ?_⟩; go_big_quiet_on)) | (refine quiet_cell rfl rfl (fun W v hv => (by go_simp)) (fun W hW => ((HCi.out W).1 hW).1) ?_; go_big_quiet_on; simp only [Act.put, List.setIfInBounds_toArray, List.set_cons_zero, List.set_cons_succ]) | (go_big_quiet_op; refine ⟨_, fun W hW => ((HO2.out W ((HCi.out W).1 hW)).mono (fun e w' hh => ⟨hh.1, (HCi.out _).2 (hst _ _ hh.2 ((HCi.out W).1 hW))⟩)), ?_⟩; go_big_quiet_on)))); refine wpQuiet_nil ?_; intro w2 hw2
        have HB := ((HCi.out w2).1 hw2).2
        clear hw2 hC0
        go_wp2
        go_ret
        exact ⟨ret_bool HV.out.symm, HB.out⟩
      | true =>
        rw [ho] at HO
        have hcan : Hid (∀ W, (W.cell? ⟨w.heap.size, 1, none⟩ = some (.slice B t.length k) ∧ Hid (Below w.heap.size w W)) → Calls Tryz.prog 23 #[.slice B t.length k] W fun e w' => ∃ v, e = .returned v ∧ Kd.cell.S 47 w' v (canon t) ∧ Below W.heap.size W w') := Lib.hid (fun W h => canonS_c t _ W (Kd.S_ext h.2.out H'.out) hl')
        have hsam : Hid (∀ W v, (W.cell? ⟨w.heap.size, 1, none⟩ = some (.slice B t.length k) ∧ Hid (Below w.heap.size w W)) → Kd.cell.S 47 W v (canon t) → Calls Tryz.prog 22 #[v, .slice B t.length k] W fun e w' => e = .returned (.bool (decide (canon t = t))) ∧ Below W.heap.size W w') := Lib.hid (fun W v h hv => sameS_c (canon t) t v _ W hv (Kd.S_ext h.2.out H'.out) (by rw [canon_len]; exact hl') hl')
        have HO2 := Lib.hid (fun W (h : W.cell? ⟨w.heap.size, 1, none⟩ = some (.slice B t.length k) ∧ Hid (Below w.heap.size w W)) => HO.out W h.2.out)
        cases hc : decide (canon t = t) with
        | false =>
          have HV := Lib.hid (show outOk top 2 t = false by rw [HV0.out, ho, hc]; rfl)
          rw [hc] at hsam
          clear ho hc
          go_enter Tryz.func8, Tryz.ntmps8
          go_upto_region 5 with (go_at_call 19; (with_reducible refine (HT.out _ (bel_alloc (Below.refl _ _) _)).mono ?_); rintro e w1 ⟨rfl, hb⟩; obtain ⟨c0, c1, hb1⟩ := HBX.out _ hb; have HB1 := Lib.hid hb1; clear hb hb1)
          have hS0 := hst w1 w1.drew (bel_drew (Below.refl _ _)) ⟨c1, HB1⟩
          go_region_held3 (fun W => W.cell? ⟨w.heap.size, 1, none⟩ = some (.slice B t.length k) ∧ Hid (Below w.heap.size w W)) (assumption) (first | (go_at_call 21; refine (HO2.out _ (by assumption)).mono ?_; rintro e w2 ⟨rfl, hb2⟩; have hS1 := hst _ _ hb2 (by assumption); clear hb2) | (go_at_call 23; refine (hcan.out _ (by assumption)).mono ?_; rintro e w3 ⟨v3, rfl, hv3, hb3⟩; have hS3 := hst _ _ hb3 (by assumption); have HV3 := Lib.hid (fun W' hb' => Kd.S_ext (w' := W') hb' hv3); clear hb3 hv3) | (go_at_call 22; refine (hsam.out _ _ (by assumption) (HV3.out _ (by first | exact Below.refl _ _ | exact bel_drew (Below.refl _ _)))).mono ?_; rintro e w4 ⟨rfl, hb4⟩; have hS4 := hst _ _ hb4 (by assumption); clear hb4))
          all_goals
            have HB := hS4.2
            clear hS0 hst
            go_wp2
            go_ret
            exact ⟨ret_bool HV.out.symm, HB.out⟩
        | true =>
          rw [hc] at hsam
          have ht40 := (trmOk_iff.1 ho).2.1
          have hsq := shiftQ_ok HQ.out ht40
          have hI : Uinv (vars (shift top t.length) ++ vars t) [] [(shift top t.length, t)] := .start (.nil _) hsq ho (fun v hv => List.mem_append_left _ hv) (fun v hv => List.mem_append_right _ hv)
          obtain ⟨n, hU⟩ := uni_U hI
          have hVl : (vars (shift top t.length) ++ vars t).length ≤ 4000000 := by
            have h1 := vars_len (shift top t.length)
            have h2 := vars_len t
            have h3 := (trmOk_iff.1 hsq).2.1
            rw [List.length_append]; omega
          have hsw := uni_swap hsq ho
          have HV := Lib.hid (show outOk top 2 t = (uni [] [(shift top t.length, t)]).isSome by rw [HV0.out, ho, hc, hsw]; rfl)
          have HSh := Lib.hid (fun W (h : W.cell? ⟨w.heap.size, 1, none⟩ = some (.slice B t.length k) ∧ Hid (Below w.heap.size w W)) => shiftS_c top tv t.length W (Kd.S_ext h.2.out H.out) hl (by omega) (by omega) (n_small (isQ_ok HQ.out).1))
          obtain ⟨r, hr⟩ : ∃ r, uni [] [(shift top t.length, t)] = r := ⟨_, rfl⟩
          rw [hr] at HV hU
          have HUn := Lib.hid (fun W sv av hs h1 (h : W.cell? ⟨w.heap.size, 1, none⟩ = some (.slice B t.length k) ∧ Hid (Below w.heap.size w W)) hb => unify_c _ n (w.heap.size + 1) [] sv av (.slice B t.length k) (shift top t.length) t r W hU hI hVl hs h1 (Kd.S_ext h.2.out H'.out) hb)
          have hst2 : ∀ W W' : World, Wrote (w.heap.size + 1) 107 W W' → (W.cell? ⟨w.heap.size, 1, none⟩ = some (.slice B t.length k) ∧ Hid (Below w.heap.size w W)) → (W'.cell? ⟨w.heap.size, 1, none⟩ = some (.slice B t.length k) ∧ Hid (Below w.heap.size w W')) := fun W W' hb h => ⟨(hb.bel.cell (p := ⟨w.heap.size, 1, none⟩) (Nat.lt_succ_self _)).trans h.1, Lib.hid (h.2.out.trans (hb.bel.mono (Nat.le_succ _)))⟩
          have hsz : ∀ W : World, (W.cell? ⟨w.heap.size, 1, none⟩ = some (.slice B t.length k) ∧ Hid (Below w.heap.size w W)) → w.heap.size + 1 ≤ W.heap.size := fun W h => World.block_lt_of_cell? W _ h.1
          have Hsz := Lib.hid hsz
          clear ho hc hsq hI hU hVl hsw hr ht40 hsz
          cases r with
          | none =>
            go_enter Tryz.func8, Tryz.ntmps8
            go_upto_region 5 with (go_at_call 19; (with_reducible refine (HT.out _ (bel_alloc (Below.refl _ _) _)).mono ?_); rintro e w1 ⟨rfl, hb⟩; obtain ⟨c0, c1, hb1⟩ := HBX.out _ hb; have HB1 := Lib.hid hb1; clear hb hb1)
            have hS0 := hst w1 w1.drew (bel_drew (Below.refl _ _)) ⟨c1, HB1⟩
            go_region_held3 (fun W => W.cell? ⟨w.heap.size, 1, none⟩ = some (.slice B t.length k) ∧ Hid (Below w.heap.size w W)) (assumption) (first | (go_at_call 21; refine (HO2.out _ (by assumption)).mono ?_; rintro e w2 ⟨rfl, hb2⟩; have hS1 := hst _ _ hb2 (by assumption); clear hb2) | (go_at_call 23; refine (hcan.out _ (by assumption)).mono ?_; rintro e w3 ⟨v3, rfl, hv3, hb3⟩; have hS3 := hst _ _ hb3 (by assumption); have HV3 := Lib.hid (fun W' hb' => Kd.S_ext (w' := W') hb' hv3); clear hb3 hv3) | (go_at_call 22; refine (hsam.out _ _ (by assumption) (HV3.out _ (by first | exact Below.refl _ _ | exact bel_drew (Below.refl _ _)))).mono ?_; rintro e w4 ⟨rfl, hb4⟩; have hS4 := hst _ _ hb4 (by assumption); clear hb4))
            clear hS0 hS1 hS3
            go_upto_region 7 with fail
            have hS0 := hst _ _ (bel_drew (Below.refl w4.heap.size w4)) hS4
            go_region_held3 (fun W => W.cell? ⟨w.heap.size, 1, none⟩ = some (.slice B t.length k) ∧ Hid (Below w.heap.size w W)) (first | assumption | (exact hst _ _ (bel_alloc (Below.refl _ _) _) (by assumption))) (first | (go_at_call 25; refine (HSh.out _ (by assumption)).mono ?_; rintro e w5 ⟨v5, rfl, hv5, hb5⟩; have hS5 := hst _ _ hb5 (by assumption); have HV5 := Lib.hid (fun W' hb' => Kd.S_ext (w' := W') hb' hv5); have HB5 := Lib.hid hb5; clear hb5 hv5) | (go_at_call 24; refine (HUn.out _ _ _ (by first | exact Kd.O_ext HB5.out (Kd.O_empty Kd.bind _ _ (Hsz.out _ (by assumption))) | exact Kd.O_empty Kd.bind _ _ (Hsz.out _ (by assumption))) (HV5.out _ (by first | exact Below.refl _ _ | exact bel_alloc (Below.refl _ _) _)) (by assumption) (Hsz.out _ (by assumption))).mono ?_; rintro e w6 ⟨rv, rfl, hw6⟩; have hS6 := hst2 _ _ hw6 (by assumption); clear hw6))
            all_goals
              have HB := hS6.2
              clear hS0 hst
              go_wp2
              go_ret
              exact ⟨ret_bool HV.out.symm, HB.out⟩
          | some s' =>
            go_enter Tryz.func8, Tryz.ntmps8
            go_upto_region 5 with (go_at_call 19; (with_reducible refine (HT.out _ (bel_alloc (Below.refl _ _) _)).mono ?_); rintro e w1 ⟨rfl, hb⟩; obtain ⟨c0, c1, hb1⟩ := HBX.out _ hb; have HB1 := Lib.hid hb1; clear hb hb1)
            have hS0 := hst w1 w1.drew (bel_drew (Below.refl _ _)) ⟨c1, HB1⟩
            go_region_held3 (fun W => W.cell? ⟨w.heap.size, 1, none⟩ = some (.slice B t.length k) ∧ Hid (Below w.heap.size w W)) (assumption) (first | (go_at_call 21; refine (HO2.out _ (by assumption)).mono ?_; rintro e w2 ⟨rfl, hb2⟩; have hS1 := hst _ _ hb2 (by assumption); clear hb2) | (go_at_call 23; refine (hcan.out _ (by assumption)).mono ?_; rintro e w3 ⟨v3, rfl, hv3, hb3⟩; have hS3 := hst _ _ hb3 (by assumption); have HV3 := Lib.hid (fun W' hb' => Kd.S_ext (w' := W') hb' hv3); clear hb3 hv3) | (go_at_call 22; refine (hsam.out _ _ (by assumption) (HV3.out _ (by first | exact Below.refl _ _ | exact bel_drew (Below.refl _ _)))).mono ?_; rintro e w4 ⟨rfl, hb4⟩; have hS4 := hst _ _ hb4 (by assumption); clear hb4))
            clear hS0 hS1 hS3
            go_upto_region 7 with fail
            have hS0 := hst _ _ (bel_drew (Below.refl w4.heap.size w4)) hS4
            go_region_held3 (fun W => W.cell? ⟨w.heap.size, 1, none⟩ = some (.slice B t.length k) ∧ Hid (Below w.heap.size w W)) (first | assumption | (exact hst _ _ (bel_alloc (Below.refl _ _) _) (by assumption))) (first | (go_at_call 25; refine (HSh.out _ (by assumption)).mono ?_; rintro e w5 ⟨v5, rfl, hv5, hb5⟩; have hS5 := hst _ _ hb5 (by assumption); have HV5 := Lib.hid (fun W' hb' => Kd.S_ext (w' := W') hb' hv5); have HB5 := Lib.hid hb5; clear hb5 hv5) | (go_at_call 24; refine (HUn.out _ _ _ (by first | exact Kd.O_ext HB5.out (Kd.O_empty Kd.bind _ _ (Hsz.out _ (by assumption))) | exact Kd.O_empty Kd.bind _ _ (Hsz.out _ (by assumption))) (HV5.out _ (by first | exact Below.refl _ _ | exact bel_alloc (Below.refl _ _) _)) (by assumption) (Hsz.out _ (by assumption))).mono ?_; rintro e w6 ⟨rv, ⟨rfl, -⟩, hw6⟩; have hS6 := hst2 _ _ hw6 (by assumption); clear hw6))
            all_goals
              have HB := hS6.2
              clear hS0 hst
              go_wp2
              go_ret
              exact ⟨ret_bool HV.out.symm, HB.out⟩
    · have e2 : (st != 2) = true := bne_iff_ne.2 h2
      have HI := Lib.hid (fun W => lIn_c st 3 5 W)
      by_cases h35 : 3 ≤ st ∧ st ≤ 5
      · have HV := Lib.hid (show outOk top st t = t.isEmpty by unfold outOk; rw [if_neg (by rw [HQ.out]; simp), if_pos h35])
        have hI : (decide (3 ≤ st) && decide (st ≤ 5)) = true := by rw [decide_eq_true h35.1, decide_eq_true h35.2]; rfl
        rw [hI] at HI
        have HE := Lib.hid (show (((t.length : Nat) : Int) == 0) = t.isEmpty by cases t <;> simp <;> try omega)
        obtain ⟨m, hm⟩ : ∃ m, t.length = m := ⟨_, rfl⟩
        have HM := Lib.hid hm
        rw [hm] at HBX HE ⊢
        clear hI h35 h2 hm
        go_enter Tryz.func8, Tryz.ntmps8
        go_wp2_with (first | (go_at_call 19; (with_reducible refine (HT.out _ (bel_alloc (Below.refl _ _) _)).mono ?_); rintro e w1 ⟨rfl, hb⟩; obtain ⟨c0, c1, hb1⟩ := HBX.out _ hb; have HB1 := Lib.hid hb1; clear hb hb1) | (go_at_call 20; (with_reducible refine (HI.out _).mono ?_); rintro e w2 ⟨rfl, rfl⟩))
        go_ret
        exact ⟨ret_bool (by rw [HV.out, ← HE.out]), HB1.out⟩
      · have HV := Lib.hid (show outOk top st t = false by unfold outOk; rw [if_neg (by rw [HQ.out]; simp), if_neg h35, if_pos h2])
        have hI : (decide (3 ≤ st) && decide (st ≤ 5)) = false := by
          cases hd : (decide (3 ≤ st) && decide (st ≤ 5)) with
          | false => rfl
          | true => simp at hd; exact absurd hd h35
        rw [hI] at HI
        clear hI h35 h2
        go_enter Tryz.func8, Tryz.ntmps8
        go_wp2_with (first | (go_at_call 19; (with_reducible refine (HT.out _ (bel_alloc (Below.refl _ _) _)).mono ?_); rintro e w1 ⟨rfl, hb⟩; obtain ⟨c0, c1, hb1⟩ := HBX.out _ hb; have HB1 := Lib.hid hb1; clear hb hb1) | (go_at_call 20; (with_reducible refine (HI.out _).mono ?_); rintro e w2 ⟨rfl, rfl⟩))
        go_ret
        exact ⟨ret_bool HV.out.symm, HB1.out⟩
end Go.Proofs.YtjglbadkbhopoaaGreatDoor
namespace Go.Proofs.YtjglbadkbhopoaaGreatDoor
set_option linter.unusedVariables false
def belowV (n : Int) (t : Trm) : Bool := t.all (fun c => !(c.k == 1 && decide (n ≤ c.n)))
def small (c : Cell) : Bool := !(c.k == 1 && decide (8 ≤ c.n))
def inCl (t : Trm) : Bool := trmOk t && decide (t.length ≤ 12) && t.all small
def goalOk (k : Int) (a b c : Trm) : Bool :=
  if k = 1 then inCl a && calls a && ((b.length : Int) + (c.length : Int) == 0)
  else if k = 3 then ((a.length : Int) + (b.length : Int) + (c.length : Int) == 0)
  else if k = 2 ∨ k = 4 then inCl a && inCl b && ((c.length : Int) == 0)
  else if k = 5 then inCl a && inCl b && inCl c else false
def termV (n : Int) (t : Trm) : Bool := trmOk t && belowV n t
structure Goal where
  k : Int
  a : Trm
  b : Trm
  c : Trm
structure SGoal where
  g : Goal
  cut : Int
structure Clause where
  head : Trm
  body : List Goal
structure Place where
  name : ByteArray
  n : Int
  node : Int
structure Prog where
  cl : List Clause
  pl : List Place
structure TCh where
  goals : List SGoal
  mark : Int
  vars : Int
  call : Trm
  next : Int
  far : Int
structure TSt where
  st : Int
  goals : List SGoal
  binds : Binds
  vars : Int
  ch : List TCh
  top : Trm
  out : Trm
structure SCh where
  goals : List SGoal
  binds : Binds
  vars : Int
  call : Trm
  next : Int
structure SSt where
  st : Int
  goals : List SGoal
  binds : Binds
  vars : Int
  ch : List SCh
  top : Trm
  out : Trm
def shapeOk (ok : Trm → Bool) (k : Int) (a b c : Trm) : Bool :=
  if k = 1 ∨ k = 6 then ok a && calls a && ((b.length : Int) + (c.length : Int) == 0)
  else if k = 3 then ((a.length : Int) + (b.length : Int) + (c.length : Int) == 0)
  else if k = 2 ∨ k = 4 then ok a && ok b && ((c.length : Int) == 0)
  else if k = 5 then ok a && ok b && ok c else false
def clauseOk (c : Clause) : Bool := inCl c.head && calls c.head && decide (c.body.length ≤ 4) && c.body.all (fun g => goalOk g.k g.a g.b g.c)
def inR (n a b : Int) : Bool := decide (a ≤ n) && decide (n ≤ b)
def placeOk (x : Place) : Bool := nameOk x.name && inR x.n 0 3 && inR x.node 1 2
def samePl (x y : Place) : Bool := decide (x.name = y.name) && decide (x.n = y.n)
def placesOk : List Place → List Place → Bool
  | _, [] => true
  | ahead, x :: xs => placeOk x && !ahead.any (samePl x) && placesOk (ahead ++ [x]) xs
def prgOk (p : Prog) : Bool := decide (p.cl.length ≤ 12) && decide (p.pl.length ≤ 6) && p.cl.all clauseOk && placesOk [] p.pl
def headC (t : Trm) : Cell := t.headD ⟨0, 0, ByteArray.empty⟩
def nodeOf (p : Prog) (t : Trm) : Int := ((p.pl.find? (fun x => decide (x.name = (headC t).s) && decide (x.n = (headC t).n))).map (·.node)).getD 0
def nextCl (p : Prog) (t : Trm) (k : Nat) : Nat := if h : k < p.cl.length then (if headC (p.cl[k]'h).head = headC t then k else nextCl p t (k + 1)) else p.cl.length
  termination_by p.cl.length - k
def sgOk (vars n : Int) (g : SGoal) : Bool := inR g.cut 0 n && (decide (g.g.k = 3) || decide (g.cut = 0)) && shapeOk (termV vars) g.g.k g.g.a g.g.b g.g.c
def bindsBelow (s : Binds) (n : Int) : Bool := s.all (fun b => decide (b.1 < n) && belowV n b.2)
open Classical in
noncomputable def subOk (s : Binds) : Bool := decide (SubOk' s)
def nearOk (p : Prog) (c : TCh) : Bool := inR c.next 0 ((p.cl.length : Int) - 1) && (match p.cl[c.next.toNat]? with | some x => decide (headC x.head = headC c.call) | none => false)
def farOk (p : Prog) (node : Int) (c : TCh) : Bool := decide (node ≠ -1) && inR c.far 1 12000 && decide (c.next = 0) && decide (nodeOf p c.call ≠ node)
def chOne (p : Prog) (node : Int) (binds : Binds) (vars : Int) (m v : Int) (i : Nat) (c : TCh) : Bool :=
  inR c.mark m binds.length && inR c.vars v vars && bindsBelow (binds.take c.mark.toNat) c.vars && c.goals.all (sgOk c.vars i) && (trmOk c.call && calls c.call) && belowV c.vars c.call && (if c.far = 0 then nearOk p c else farOk p node c)
def chAll (p : Prog) (node : Int) (binds : Binds) (vars : Int) : Int → Int → Nat → List TCh → Bool
  | _, _, _, [] => true
  | m, v, i, c :: cs => chOne p node binds vars m v i c && chAll p node binds vars c.mark c.vars (i + 1) cs
def nothing (s : TSt) : Bool := s.goals.isEmpty && s.binds.isEmpty && s.ch.isEmpty && s.out.isEmpty && decide (s.vars = 0)
def waitsOk (s : TSt) : Bool := s.goals.isEmpty && s.out.isEmpty && (match s.ch.getLast? with | some c => decide (0 < c.far) && decide (c.mark = s.binds.length) && decide (c.vars = s.vars) | none => false)
noncomputable def ansOk (s : TSt) : Bool := s.goals.isEmpty && decide ((flat s.binds s.top).length ≤ 40) && decide (s.out = canon (flat s.binds s.top))
noncomputable def statOk (s : TSt) : Bool := if s.st = 1 then s.out.isEmpty else if s.st = 2 then ansOk s else if s.st = 6 then waitsOk s else false
def tNew (top : Trm) : TSt := if isQ top then ⟨1, [⟨⟨1, top, [], []⟩, 0⟩], [], (free top).length, [], top, []⟩ else ⟨0, [], [], 0, [], [], []⟩
def tEnd (s : TSt) (k : Int) : TSt := ⟨k, [], [], 0, [], s.top, []⟩
def tWait (s : TSt) : TSt := { s with st := 6, goals := [], out := [] }
def exitG (call : Trm) : SGoal := ⟨⟨6, call, [], []⟩, 0⟩
def shiftG (n : Int) (cut : Int) (g : Goal) : SGoal := ⟨⟨g.k, shift g.a n, shift g.b n, shift g.c n⟩, if g.k = 3 then cut else 0⟩
def behind (c : Clause) (n : Int) (cut : Int) (call : Trm) (rest : List SGoal) : List SGoal := c.body.map (shiftG n cut) ++ [exitG call] ++ rest
noncomputable def tMeet (back : TSt → Option TSt) (s : TSt) (a b : Trm) (goals : List SGoal) (more : Int) : Option TSt :=
  if (meet s.binds a b).2 = 3 then some (tEnd s 4) else if (meet s.binds a b).2 = 2 then back s
  else some { s with st := 1, binds := (meet s.binds a b).1.getD [], goals := goals, vars := s.vars + more, out := [] }
def clAt (p : Prog) (k : Nat) : Clause := p.cl[k]?.getD ⟨[], []⟩
def push (p : Prog) (s : TSt) (call : Trm) (rest : List SGoal) (nx : Nat) : TSt := if nx < p.cl.length then { s with ch := s.ch ++ [⟨rest, s.binds.length, s.vars, call, nx, 0⟩] } else s
noncomputable def tTryB (back : TSt → Option TSt) (p : Prog) (s : TSt) (call : Trm) (rest : List SGoal) (from' : Nat) : Option TSt :=
  if nextCl p call from' = p.cl.length then back s
  else if 99991 < s.vars then some (tEnd s 4)
  else tMeet back (push p s call rest (nextCl p call (nextCl p call from' + 1))) call (shift (clAt p (nextCl p call from')).head s.vars) (behind (clAt p (nextCl p call from')) s.vars s.ch.length call rest) 8
noncomputable def tBack : Nat → Prog → TSt → Option TSt
  | 0, _, _ => none
  | n + 1, p, s => match s.ch.getLast? with
    | none => some (tEnd s 3)
    | some c => if 0 < c.far then some (tWait { s with binds := s.binds.take c.mark.toNat, vars := c.vars })
      else tTryB (tBack n p) p { s with binds := s.binds.take c.mark.toNat, vars := c.vars, ch := s.ch.dropLast } c.call c.goals c.next.toNat
noncomputable def tTry (n : Nat) (p : Prog) (s : TSt) (call : Trm) (rest : List SGoal) (from' : Nat) : Option TSt := tTryB (tBack n p) p s call rest from'
noncomputable def walkT (s : Binds) (t : Trm) : Trm := by classical exact if h : ∃ n x, walkB n s t = some x then Classical.choose (Classical.choose_spec h) else []
theorem walkT_eq {s : Binds} {t x : Trm} {n : Nat} (h : walkB n s t = some x) : walkT s t = x := by
  have h' : ∃ n x, walkB n s t = some x := ⟨n, x, h⟩
  unfold walkT
  rw [dif_pos h']
  exact walkB_fun (Classical.choose_spec (Classical.choose_spec h')) h
noncomputable def numV (s : Binds) (t : Trm) : Int := (headC (walkT s t)).n
noncomputable def isNum (s : Binds) (t : Trm) : Bool := decide ((headC (walkT s t)).k = 2)
def numT (n : Int) : Trm := [⟨2, n, ByteArray.empty⟩]
noncomputable def tReckon (n : Nat) (p : Prog) (s : TSt) (g : Goal) (rest : List SGoal) : Option TSt :=
  if (isNum s.binds g.a && isNum s.binds g.b) = false ∨ (g.k = 5 ∧ inR (numV s.binds g.a + numV s.binds g.b) (-9999) 9999 = false) then some (tEnd s 5)
  else if g.k = 5 then tMeet (tBack n p) s g.c (numT (numV s.binds g.a + numV s.binds g.b)) rest 0
  else if numV s.binds g.b ≤ numV s.binds g.a then tBack n p s else some { s with goals := rest }
noncomputable def tCall (n : Nat) (p : Prog) (node : Int) (s : TSt) (t : Trm) (rest : List SGoal) : Option TSt :=
  if (flat s.binds t).length ≤ 40 then
    (if 0 ≤ node ∧ nodeOf p (flat s.binds t) ≠ node then some (tWait { s with ch := s.ch ++ [⟨rest, s.binds.length, s.vars, flat s.binds t, 0, 1⟩] })
     else tTry n p s (flat s.binds t) rest 0)
  else some (tEnd s 4)
noncomputable def tEmpty (s : TSt) : TSt := if (flat s.binds s.top).length ≤ 40 then { s with st := 2, out := canon (flat s.binds s.top) } else tEnd s 4
noncomputable def tStepN (n : Nat) (p : Prog) (node : Int) (s : TSt) : Option TSt :=
  if s.st = 2 then tBack n p s else if s.st ≠ 1 then some s
  else match s.goals with
    | [] => some (tEmpty s)
    | g :: rest =>
      if g.g.k = 1 then tCall n p node s g.g.a rest
      else if g.g.k = 2 then tMeet (tBack n p) s g.g.a g.g.b rest 0
      else if g.g.k = 4 ∨ g.g.k = 5 then tReckon n p s g.g rest
      else if g.g.k = 3 then some { s with ch := s.ch.take g.cut.toNat, goals := rest }
      else if (flat s.binds g.g.a).length ≤ 40 then some { s with goals := rest } else some (tEnd s 4)
def viewC (s : TSt) (c : TCh) : SCh := ⟨c.goals, s.binds.take c.mark.toNat, c.vars, c.call, c.next⟩
def marked (s : SSt) : TSt := ⟨s.st, s.goals, s.binds, s.vars, s.ch.map (fun c => ⟨c.goals, c.binds.length, c.vars, c.call, c.next, 0⟩), s.top, s.out⟩
end Go.Proofs.YtjglbadkbhopoaaGreatDoor
namespace Go.Proofs.YtjglbadkbhopoaaGreatDoor
set_option linter.unusedVariables false
def Vn (n : Int) : List Int := (List.range n.toNat).map (fun k : Nat => (k : Int))
theorem mem_Vn {n x : Int} : x ∈ Vn n ↔ 0 ≤ x ∧ x < n := by
  unfold Vn
  rw [List.mem_map]
  constructor
  · rintro ⟨k, hk, rfl⟩
    have := List.mem_range.1 hk
    omega
  · rintro ⟨h0, h1⟩
    exact ⟨x.toNat, List.mem_range.2 (by omega), by omega⟩
theorem Vn_len (n : Int) : (Vn n).length = n.toNat := by unfold Vn; rw [List.length_map, List.length_range]
theorem below_vars {n : Int} {t : Trm} : belowV n t = true ↔ ∀ x ∈ vars t, x < n := by
  unfold belowV vars
  rw [List.all_eq_true]
  constructor
  · intro h x hx
    simp only [List.mem_map, List.mem_filter, decide_eq_true_eq] at hx
    obtain ⟨c, ⟨h1, h2⟩, rfl⟩ := hx
    have := h c h1
    simp [h2] at this
    exact this
  · intro h c hc
    by_cases hk : c.k = 1
    · have := h c.n (List.mem_map.2 ⟨c, List.mem_filter.2 ⟨hc, by simpa using hk⟩, rfl⟩)
      simp [hk]; exact this
    · simp [hk]
theorem below_mono {n m : Int} {t : Trm} (h : belowV n t = true) (hm : n ≤ m) : belowV m t = true := below_vars.2 fun x hx => by
  have := below_vars.1 h x hx; omega
theorem bb_iff {s : Binds} {n : Int} : bindsBelow s n = true ↔ ∀ b ∈ s, b.1 < n ∧ belowV n b.2 = true := by
  unfold bindsBelow
  rw [List.all_eq_true]
  simp only [Bool.and_eq_true, decide_eq_true_eq]
theorem bb_mono {s : Binds} {n m : Int} (h : bindsBelow s n = true) (hm : n ≤ m) : bindsBelow s m = true := bb_iff.2 fun b hb => by
  obtain ⟨h1, h2⟩ := bb_iff.1 h b hb
  exact ⟨by omega, below_mono h2 hm⟩
theorem bb_take {s : Binds} {n : Int} (h : bindsBelow s n = true) (k : Nat) : bindsBelow (s.take k) n = true := bb_iff.2 fun b hb => bb_iff.1 h b (List.mem_of_mem_take hb)
theorem binv_n {s : Binds} {n : Int} (h : SubOk' s) (hb : bindsBelow s n = true) : Binv (Vn n) s := by
  obtain ⟨bok, trm, -, -, -⟩ := sub_binv h
  refine ⟨bok, trm, fun v t hg x hx => ?_, h.2, fun v hv => ?_⟩
  · have h1 := vars_ok (trm v t hg) x hx
    have h2 := below_vars.1 (bb_iff.1 hb _ (getB_in hg)).2 x hx
    exact mem_Vn.2 ⟨h1.1, h2⟩
  · obtain ⟨b, hb', rfl⟩ := List.mem_map.1 hv
    exact mem_Vn.2 ⟨(h.1 b hb').1, (bb_iff.1 hb b hb').1⟩
theorem getB_nod {s : Binds} (h : (s.map (·.1)).Nodup) {b : Int × Trm} (hb : b ∈ s) : getB s b.1 = some b.2 := by
  induction s with
  | nil => cases hb
  | cons a s ih =>
    rw [List.map_cons, List.nodup_cons] at h
    unfold getB
    rw [List.find?_cons]
    rcases List.mem_cons.1 hb with rfl | hb
    · simp
    · have : a.1 ≠ b.1 := fun e => h.1 (e ▸ List.mem_map.2 ⟨b, hb, rfl⟩)
      simp only [this, decide_false]
      exact ih h.2 hb
theorem binv_sub {s : Binds} {n : Int} (h : Binv (Vn n) s) (hn : n ≤ 100000) : SubOk' s ∧ bindsBelow s n = true := by
  have key : ∀ b ∈ s, getB s b.1 = some b.2 ∧ 0 ≤ b.1 ∧ b.1 < n := fun b hb => ⟨getB_nod h.nod hb, mem_Vn.1 (h.key _ (List.mem_map.2 ⟨b, hb, rfl⟩))⟩
  refine ⟨⟨fun b hb => ?_, h.nod⟩, bb_iff.2 fun b hb => ?_⟩
  · obtain ⟨h1, h2, h3⟩ := key b hb
    refine ⟨h2, by omega, h.trm _ _ h1, fun hr => ?_⟩
    obtain ⟨ρ, hρ⟩ := h.bok.rank
    obtain ⟨x, hx, hle⟩ := Rch_rank hρ hr
    have := hρ _ _ h1 x hx
    omega
  · obtain ⟨h1, h2, h3⟩ := key b hb
    exact ⟨h3, below_vars.2 fun x hx => (mem_Vn.1 (h.vin _ _ h1 x hx)).2⟩
theorem Rch_pre {s : Binds} (hn : (s.map (·.1)).Nodup) {k : Nat} {t : Trm} {v : Int} (h : Rch (s.take k) t v) : Rch s t v := by
  induction h with
  | here hv => exact .here hv
  | on hv hg _ ih => exact .on hv (getB_nod hn (List.mem_of_mem_take (getB_in hg))) ih
theorem sub_take {s : Binds} (h : SubOk' s) (k : Nat) : SubOk' (s.take k) :=
  ⟨fun b hb => by
    obtain ⟨h1, h2, h3, h4⟩ := h.1 b (List.mem_of_mem_take hb)
    exact ⟨h1, h2, h3, fun hr => h4 (Rch_pre h.2 hr)⟩, by rw [List.map_take]; exact h.2.sublist (List.take_sublist _ _)⟩
theorem sub_nil : SubOk' [] := ⟨fun b hb => (by cases hb), (by simp)⟩
theorem U_more : ∀ {n : Nat} {s : Binds} {ps : List (Trm × Trm)} {s' : Binds}, U n s ps = some (some s') → ∃ m, s' = s ++ m
  | 0, s, ps, s', h => by simp [U] at h
  | n + 1, s, [], s', h => by
    rw [U] at h
    obtain rfl := Option.some.inj (Option.some.inj h)
    exact ⟨[], by simp⟩
  | n + 1, s, (a, b) :: ps, s', h => by
    have lift : ∀ {e : Int × Trm}, (∃ m, s' = (s ++ [e]) ++ m) → ∃ m, s' = s ++ m := fun ⟨m, hm⟩ => ⟨_ :: m, by rw [hm, List.append_assoc]; rfl⟩
    unfold U at h
    cases ha : walkB n s a with
    | none => rw [ha] at h; simp at h
    | some x =>
      cases hb : walkB n s b with
      | none => rw [ha, hb] at h; cases x <;> simp at h
      | some y =>
        rw [ha, hb] at h
        cases x with
        | nil => simp at h
        | cons x xs =>
          cases y with
          | nil => simp at h
          | cons y ys =>
            dsimp only at h
            split at h
            · exact U_more h
            · split at h
              · split at h
                · cases h
                · exact lift (U_more h)
              · split at h
                · split at h
                  · cases h
                  · exact lift (U_more h)
                · split at h
                  · exact U_more h
                  · cases h
theorem termV_iff {n : Int} {t : Trm} : termV n t = true ↔ trmOk t = true ∧ belowV n t = true := by unfold termV; rw [Bool.and_eq_true]
theorem termV_pok {n : Int} {a b : Trm} (ha : termV n a = true) (hb : termV n b = true) : Pok (Vn n) (a, b) := by
  obtain ⟨a1, a2⟩ := termV_iff.1 ha
  obtain ⟨b1, b2⟩ := termV_iff.1 hb
  exact ⟨a1, b1, fun v hv => mem_Vn.2 ⟨(vars_ok a1 v hv).1, below_vars.1 a2 v hv⟩, fun v hv => mem_Vn.2 ⟨(vars_ok b1 v hv).1, below_vars.1 b2 v hv⟩⟩
theorem meet_cases (s : Binds) (a b : Trm) : (∃ s', meet s a b = (some s', 1)) ∨ meet s a b = (none, 2) ∨ meet s a b = (none, 3) := by
  unfold meet
  split
  · cases uni s [(a, b)] with
    | none => exact .inr (.inl rfl)
    | some s' =>
      dsimp only
      split
      · exact .inl ⟨s', rfl⟩
      · exact .inr (.inr rfl)
  · exact .inr (.inr rfl)
theorem meet_one {s s' : Binds} {a b : Trm} (h : meet s a b = (some s', 1)) : uni s [(a, b)] = some s' ∧ (flat s' a).length ≤ 40 := by
  unfold meet at h
  split at h
  · cases hu : uni s [(a, b)] with
    | none => rw [hu] at h; simp at h
    | some s2 =>
      rw [hu] at h
      dsimp only at h
      split at h
      · injection h with h _
        injection h with h
        subst h
        exact ⟨rfl, by assumption⟩
      · simp at h
  · simp at h
theorem meet_ok {s s' : Binds} {a b : Trm} {n : Int} (hs : SubOk' s) (hb : bindsBelow s n = true) (hn : n ≤ 100000) (ha : termV n a = true) (hb' : termV n b = true) (h : meet s a b = (some s', 1)) :
    SubOk' s' ∧ bindsBelow s' n = true ∧ ∃ m, s' = s ++ m := by
  obtain ⟨h1, -⟩ := meet_one h
  have hp := termV_pok ha hb'
  have hI : Uinv (Vn n) s [(a, b)] := .start (binv_n hs hb) hp.1 hp.2.1 hp.2.2.1 hp.2.2.2
  obtain ⟨k, hU⟩ := uni_U hI
  rw [h1] at hU
  obtain ⟨g1, g2⟩ := binv_sub (U_binv hI hU) hn
  exact ⟨g1, g2, U_more hU⟩
theorem flat_below {s : Binds} {t : Trm} {n : Int} (hs : SubOk' s) (hb : bindsBelow s n = true) (ht : belowV n t = true) : belowV n (flat s t) = true := by
  obtain ⟨k, f⟩ := flat_fl (sub_binv hs).bok t
  have := Fl_cells (p := fun c => (!(c.k == 1 && decide (n ≤ c.n))) = true) (fun v u hg c hc => List.all_eq_true.1 (bb_iff.1 hb _ (getB_in hg)).2 c hc) f (fun c hc => List.all_eq_true.1 ht c hc)
  exact List.all_eq_true.2 this
theorem flat_term {s : Binds} {t : Trm} {n : Int} (hs : SubOk' s) (hb : bindsBelow s n = true) (ht : termV n t = true) (hl : (flat s t).length ≤ 40) : termV n (flat s t) = true := by
  obtain ⟨h1, h2⟩ := termV_iff.1 ht
  exact termV_iff.2 ⟨flat_ok (sub_binv hs) h1 hl, flat_below hs hb h2⟩
theorem Fl_head {s : Binds} {c : Cell} {t o : Trm} {k : Nat} (hc : c.k ≠ 1) (f : Fl s (c :: t) k o) : ∃ r, o = c :: r := by
  cases f with
  | keep _ _ => exact ⟨_, rfl⟩
  | bound h _ _ => exact absurd h hc
theorem flat_head {s : Binds} {c : Cell} {t : Trm} (hs : SubOk' s) (hc : c.k ≠ 1) : ∃ r, flat s (c :: t) = c :: r := by
  obtain ⟨k, f⟩ := flat_fl (sub_binv hs).bok (c :: t)
  exact Fl_head hc f
theorem calls_iff {t : Trm} : calls t = true ↔ ∃ c r, t = c :: r ∧ c.k = 3 := by
  cases t with
  | nil => simp [calls]
  | cons c r => simp [calls]
theorem flat_calls {s : Binds} {t : Trm} (hs : SubOk' s) (h : calls t = true) : calls (flat s t) = true := by
  obtain ⟨c, r, rfl, hc⟩ := calls_iff.1 h
  obtain ⟨q, hq⟩ := flat_head (t := r) hs (show c.k ≠ 1 by omega)
  rw [hq]
  exact calls_iff.2 ⟨c, q, rfl, hc⟩
theorem shift_below {t : Trm} {n m : Int} (h : belowV n t = true) : belowV (n + m) (shift t m) = true := by
  unfold belowV shift at *
  rw [List.all_eq_true] at *
  intro c hc
  obtain ⟨c', hc', rfl⟩ := List.mem_map.1 hc
  have := h c' hc'
  by_cases hk : c'.k = 1
  · simp [hk] at this ⊢; omega
  · simp [hk]
theorem shift_term {t : Trm} {n m : Int} (h : termV n t = true) (h0 : 0 ≤ m) (hm : n + m ≤ 100000) : termV (n + m) (shift t m) = true := by
  obtain ⟨h1, h2⟩ := termV_iff.1 h
  refine termV_iff.2 ⟨shift_ok h1 h0 (fun c hc hk => ?_), shift_below h2⟩
  have := below_vars.1 h2 c.n (List.mem_map.2 ⟨c, List.mem_filter.2 ⟨hc, by simpa using hk⟩, rfl⟩)
  omega
theorem shift_calls {t : Trm} {m : Int} (h : calls t = true) : calls (shift t m) = true := by
  obtain ⟨c, r, rfl, hc⟩ := calls_iff.1 h
  unfold shift
  rw [List.map_cons, if_neg (by omega)]
  exact calls_iff.2 ⟨_, _, rfl, hc⟩
theorem termV_mono {n m : Int} {t : Trm} (h : termV n t = true) (hm : n ≤ m) : termV m t = true := by
  obtain ⟨h1, h2⟩ := termV_iff.1 h
  exact termV_iff.2 ⟨h1, below_mono h2 hm⟩
theorem inR_iff {n a b : Int} : inR n a b = true ↔ a ≤ n ∧ n ≤ b := by unfold inR; simp
theorem shape_mono {f g : Trm → Bool} (h : ∀ t, f t = true → g t = true) {k : Int} {a b c : Trm} (hs : shapeOk f k a b c = true) : shapeOk g k a b c = true := by
  unfold shapeOk at *
  split at hs
  · rename_i h1; rw [if_pos h1]
    simp only [Bool.and_eq_true] at hs ⊢
    exact ⟨⟨h _ hs.1.1, hs.1.2⟩, hs.2⟩
  · rename_i h1; rw [if_neg h1]
    split at hs
    · rename_i h2; rw [if_pos h2]; exact hs
    · rename_i h2; rw [if_neg h2]
      split at hs
      · rename_i h3; rw [if_pos h3]
        simp only [Bool.and_eq_true] at hs ⊢
        exact ⟨⟨h _ hs.1.1, h _ hs.1.2⟩, hs.2⟩
      · rename_i h3; rw [if_neg h3]
        split at hs
        · rename_i h4; rw [if_pos h4]
          simp only [Bool.and_eq_true] at hs ⊢
          exact ⟨⟨h _ hs.1.1, h _ hs.1.2⟩, h _ hs.2⟩
        · cases hs
theorem sg_mono {v v' n n' : Int} {g : SGoal} (h : sgOk v n g = true) (hv : v ≤ v') (hn : n ≤ n') : sgOk v' n' g = true := by
  unfold sgOk at *
  simp only [Bool.and_eq_true] at *
  obtain ⟨⟨h1, h2⟩, h3⟩ := h
  rw [inR_iff] at *
  exact ⟨⟨by omega, h2⟩, shape_mono (fun t ht => termV_mono ht hv) h3⟩
theorem goal_shape (k : Int) (a b c : Trm) : goalOk k a b c = (!decide (k = 6) && shapeOk inCl k a b c) := by
  unfold goalOk shapeOk
  by_cases h1 : k = 1
  · subst h1; simp
  · by_cases h6 : k = 6
    · subst h6; simp
    · rw [if_neg h1, if_neg (show ¬ (k = 1 ∨ k = 6) by omega)]
      simp only [h6, decide_false, Bool.not_false, Bool.true_and]
theorem inCl_term {t : Trm} (h : inCl t = true) : termV 8 t = true := by
  unfold inCl at h
  simp only [Bool.and_eq_true] at h
  exact termV_iff.2 ⟨h.1.1, h.2⟩
end Go.Proofs.YtjglbadkbhopoaaGreatDoor
