/- Contract: the program's unification. -/
import Derived.Test.YtjnangiggnmkoaaGreatDoorImHolds
import Derived.Test.YtjnangiggnmkoaaGreatDoorUni5
namespace Go.Proofs.YtjnangiggnmkoaaGreatDoor
open Go.RowKit
set_option maxRecDepth 100000
set_option maxHeartbeats 4000000
set_option linter.unusedVariables false
def UniPostI (b : Nat) (w : World) (r : Option Binds) (e : Ending) (w' : World) : Prop :=
  ∃ rv, (match r with
    | none => e = .returned (.tuple #[rv, .bool false])
    | some s' => e = .returned (.tuple #[rv, .bool true]) ∧ Kd.bind.F 115 w' b rv s') ∧ Wrote b 115 w w'
theorem UniPostI.no {b : Nat} {w w' : World} {rv : Value} {r : Option Binds} (hr : r = none) (h : Wrote b 115 w w') : UniPostI b w r (.returned (.tuple #[rv, .bool false])) w' := by subst hr; exact ⟨rv, rfl, h⟩
theorem UniPostI.yes {b : Nat} {w w' : World} {rv : Value} {r : Option Binds} {s' : Binds} (hr : r = some s') (ho : Kd.bind.F 115 w' b rv s') (h : Wrote b 115 w w') : UniPostI b w r (.returned (.tuple #[rv, .bool true])) w' := by subst hr; exact ⟨rv, ⟨rfl, ho⟩, h⟩
theorem unifyI_c (V : List Int) (b : Nat) (hVl : V.length ≤ 1000000) (hVr : ∀ x ∈ V, 0 ≤ x ∧ x ≤ 1000000000) (N : Nat) : ∀ (n : Nat) (s : Binds) (sv av bv : Value) (t1 t2 : Trm) (r : Option Binds) (w : World), n < N → U n s [(t1, t2)] = some r → Binv V s → Pok V (t1, t2) →
    Kd.bind.F 115 w b sv s → Kd.cell.S 47 w av t1 → Kd.cell.S 47 w bv t2 → b ≤ w.heap.size →
    Calls Tryz.prog 40 #[sv, av, bv] w (UniPostI b w r) := by
  induction N with
  | zero => intro n _ _ _ _ _ _ _ _ h; omega
  | succ N ih =>
    intro n s sv av bv t1 t2 r w hn hU hB hP hs h1 h2 hb
    obtain ⟨k, rfl⟩ : ∃ k, n = k + 1 := by
      cases n with
      | zero => simp [U] at hU
      | succ k => exact ⟨k, rfl⟩
    have hI : Uinv V s [(t1, t2)] := .start hB hP.1 hP.2.1 hP.2.2.1 hP.2.2.2
    obtain ⟨x, xs, y, ys, wx, wy, okx, oky, vx, vy, fx, fy, hst⟩ := U_step hU hI
    have IH := Lib.hid ih
    have HST := Lib.hid hst
    have HBi := Lib.hid hB
    have hslen := Nat.le_trans hB.len hVl
    have hne : ∀ v t, getB s v = some t → t ≠ [] := fun v t hg e => by have := hB.trm v t hg; rw [e] at this; simp [trmOk] at this
    obtain ⟨SB, sc, rfl, s1, s2, hSC⟩ := Kd.F_read hs
    have HWx := Lib.hid (walkI_c k s SB sc t1 (x :: xs) av w hSC (by omega) hB.nod h1 wx hne)
    have HWy := Lib.hid (fun W hb => walkI_c k s SB sc t2 (y :: ys) bv W (Kd.C_ext (w' := W) hb hSC) (by omega) hB.nod (Kd.S_ext hb h2) wy hne)
    have HB40 := Lib.hid (trmOk_iff.1 okx)
    have HB41 := Lib.hid (trmOk_iff.1 oky)
    have HVv := Lib.hid (And.intro vx vy)
    have HOk := Lib.hid (And.intro okx oky)
    have HS := Lib.hid hs
    have Hb := Lib.hid hb
    have HVr := Lib.hid hVr
    have Hn := Lib.hid hn
    have hsl : ∀ v u, getB s v = some u → u.length ≤ 1000000000 ∧ u ≠ [] := fun v u hg => ⟨by have := (trmOk_iff.1 (hB.trm v u hg)).2.1; omega, hne v u hg⟩
    have hxl : (x :: xs).length ≤ 40 := HB40.out.2.1
    have hyl : (y :: ys).length ≤ 40 := HB41.out.2.1
    have HBnL := Lib.hid (fun W (hs : Kd.bind.C 115 W SB s) yv hy => bindI_no V s x.n SB sc (y :: ys) yv W (by omega) hB.nod hB.vin hVl hVr hsl hs hy (by omega) vy)
    have HByL := Lib.hid (fun W hs yv hy hb => bindI_yes V b s x.n (.slice SB s.length sc) (y :: ys) yv W hslen hB.nod hB.vin hVl hVr hsl hs hy (by omega) vy hb)
    have HBnR := Lib.hid (fun W (hs : Kd.bind.C 115 W SB s) xv hx => bindI_no V s y.n SB sc (x :: xs) xv W (by omega) hB.nod hB.vin hVl hVr hsl hs hx (by omega) vx)
    have HByR := Lib.hid (fun W hs xv hx hb => bindI_yes V b s y.n (.slice SB s.length sc) (x :: xs) xv W hslen hB.nod hB.vin hVl hVr hsl hs hx (by omega) vx hb)
    clear ih hst hB hP hs h1 h2 hb hI hU wx wy okx oky vx vy fx fy hsl hVr hn hne
    go_enter Tryz.func40, Tryz.ntmps40
    go_upto_region 2 with (first | (go_at_call 72; (with_reducible refine HWx.out.mono ?_); rintro e w1 ⟨xv, rfl, hX, hb⟩; obtain ⟨xa, nx, kx, rfl, hnx, hnx2, hnx3, hnx4⟩ := S_open hX; have HX := Lib.hid hX; have HB1 := Lib.hid hb; clear hX hb)
                                 | (go_at_call 72; (with_reducible refine (HWy.out _ HB1.out).mono ?_); rintro e w2 ⟨yv, rfl, hY, hb⟩; obtain ⟨ya, ny, ky, rfl, hny, hny2, hny3, hny4⟩ := S_open hY; have HY := Lib.hid hY; have HB2 := Lib.hid hb; clear hY hb))
    have HX2 := Lib.hid (Kd.S_ext HB2.out HX.out)
    obtain ⟨cx1, cx2, cx3⟩ := S_cells HX2.out
    obtain ⟨cy1, cy2, cy3⟩ := S_cells HY.out
    have HB := Lib.hid (bel_trans HB1.out HB2.out)
    have HS2 := Lib.hid (Kd.F_ext HB.out HS.out)
    have HSC2 := Lib.hid (Kd.C_ext HB.out hSC)
    have HW2 := Lib.hid (Wrote.of_below (e := 115) Hb.out HB.out)
    have hw2 := Lib.hid (Nat.le_trans Hb.out HB.out.size)
    have HwD := Lib.hid (fun n => (show b ≤ (w2.drewN n).heap.size from hw2.out))
    clear HX HB1 HWx HWy hSC
    rcases HST.out with ⟨k1, rfl, hU1, hI1⟩ | ⟨k1, hne, hR, hr⟩ | ⟨k1, hne, hR, hU1, hI1⟩ | ⟨k1, k2, hR, hr⟩ | ⟨k1, k2, hR, hU1, hI1⟩ | ⟨k1, k2, hne, hr⟩ | ⟨k1, k2, rfl, hU1, hI1⟩
    · have e1 : (x.k == 1) = true := beq_iff_eq.2 k1
      have hr := Lib.hid (U_nil hU1)
      clear k1 hU1 hI1
      go_quiet (fail)
      go_wp2
      go_ret2
      exact .yes hr.out (Kd.F_ext (bel_drewN (Below.refl _ _) _) HS2.out) (HW2.out.call Hb.out (bel_drewN (Below.refl _ _) _))
    · have e1 : (x.k == 1) = true := beq_iff_eq.2 k1
      have HRr := Lib.hid hR
      have hr := Lib.hid hr
      have hcc := cell_neb hne
      clear k1 hne hR
      rcases hcc with e2 | ⟨e2, e3⟩ | ⟨e2, e3, e4⟩
      all_goals
        go_quiet (fail)
        go_wp2_with (go_at_call 73; (with_reducible refine (HBnL.out _ (Kd.C_ext (bel_drewN (Below.refl _ _) _) HSC2.out) _ (Kd.S_ext (bel_drewN (Below.refl _ _) _) HY.out) HRr.out).mono ?_); rintro e w3 ⟨rfl, hb3⟩; have HB3 := Lib.hid hb3; clear hb3)
        go_ret2
        exact .no hr.out ((HW2.out.call Hb.out (bel_drewN (Below.refl _ _) _)).call Hb.out HB3.out)
    · have e1 : (x.k == 1) = true := beq_iff_eq.2 k1
      have HRr := Lib.hid hR
      have hr := Lib.hid (U_nil hU1)
      have hcc := cell_neb hne
      clear k1 hne hR hU1 hI1
      rcases hcc with e2 | ⟨e2, e3⟩ | ⟨e2, e3, e4⟩
      all_goals
        go_quiet (fail)
        go_wp2_with (go_at_call 73; (with_reducible refine (HByL.out _ (Kd.F_ext (bel_drewN (Below.refl _ _) _) HS2.out) _ (Kd.S_ext (bel_drewN (Below.refl _ _) _) HY.out) (HwD.out _) HRr.out).mono ?_); rintro e w3 ⟨rv, rfl, ho3, hw3⟩; have HO3 := Lib.hid ho3; have HW3 := Lib.hid hw3; clear ho3 hw3)
        go_ret2
        exact .yes hr.out (.inl HO3.out) ((HW2.out.call Hb.out (bel_drewN (Below.refl _ _) _)).trans HW3.out)
    · have e1 : (x.k == 1) = false := beq_eq_false_iff_ne.2 k1
      have e2 : (y.k == 1) = true := beq_iff_eq.2 k2
      have HRr := Lib.hid hR
      have hr := Lib.hid hr
      clear k1 k2 hR
      go_quiet (fail)
      go_wp2_with (go_at_call 73; (with_reducible refine (HBnR.out _ (Kd.C_ext (bel_drewN (Below.refl _ _) _) HSC2.out) _ (Kd.S_ext (bel_drewN (Below.refl _ _) _) HX2.out) HRr.out).mono ?_); rintro e w3 ⟨rfl, hb3⟩; have HB3 := Lib.hid hb3; clear hb3)
      go_ret2
      exact .no hr.out ((HW2.out.call Hb.out (bel_drewN (Below.refl _ _) _)).call Hb.out HB3.out)
    · have e1 : (x.k == 1) = false := beq_eq_false_iff_ne.2 k1
      have e2 : (y.k == 1) = true := beq_iff_eq.2 k2
      have HRr := Lib.hid hR
      have hr := Lib.hid (U_nil hU1)
      clear k1 k2 hR hU1 hI1
      go_quiet (fail)
      go_wp2_with (go_at_call 73; (with_reducible refine (HByR.out _ (Kd.F_ext (bel_drewN (Below.refl _ _) _) HS2.out) _ (Kd.S_ext (bel_drewN (Below.refl _ _) _) HX2.out) (HwD.out _) HRr.out).mono ?_); rintro e w3 ⟨rv, rfl, ho3, hw3⟩; have HO3 := Lib.hid ho3; have HW3 := Lib.hid hw3; clear ho3 hw3)
      go_ret2
      exact .yes hr.out (.inl HO3.out) ((HW2.out.call Hb.out (bel_drewN (Below.refl _ _) _)).trans HW3.out)
    · have e1 : (x.k == 1) = false := beq_eq_false_iff_ne.2 k1
      have e0 : (y.k == 1) = false := beq_eq_false_iff_ne.2 k2
      have hr := Lib.hid hr
      have hcc := cell_neb hne
      clear k1 k2 hne
      rcases hcc with e2 | ⟨e2, e3⟩ | ⟨e2, e3, e4⟩
      all_goals
        go_quiet (fail)
        go_upto_region 8 with (fail)
        go_quiet (fail)
        go_wp2
        go_ret2
        exact .no hr.out (HW2.out.call Hb.out (by first | exact bel_drewN (Below.refl _ _) _ | exact bel_drewN (bel_drewN (Below.refl _ _) _) _))
    · have e1 : (x.k == 1) = false := beq_eq_false_iff_ne.2 k1
      have HU1 := Lib.hid hU1
      have HPs := Lib.hid hI1.p
      clear HBnL HByL HBnR HByR hU1 hI1 k1 k2
      have HAx := Lib.hid (fun W hS => argsI_c x xs (.slice (some xa) nx kx) W hS HOk.out.1)
      have HAy := Lib.hid (fun W hS => argsI_c x ys (.slice (some ya) ny ky) W hS HOk.out.2)
      obtain ⟨aX, haX⟩ : ∃ l, argsOf (ar x).toNat xs = l := ⟨_, rfl⟩
      obtain ⟨aY, haY⟩ : ∃ l, argsOf (ar x).toNat ys = l := ⟨_, rfl⟩
      have hll := Lib.hid (show aX.length = aY.length by rw [← haX, ← haY, argsOf_len, argsOf_len])
      have hl3 : aX.length ≤ 3 := by
        have := ar_of_ok (List.all_eq_true.1 HB40.out.2.2 x List.mem_cons_self)
        rw [← haX, argsOf_len]; omega
      rw [haX] at HAx HU1 HPs
      rw [haY] at HAy HU1 HPs
      rw [List.append_nil] at HU1 HPs
      clear haX haY
      go_quiet (fail)
      go_upto_region 8 with (fail)
      go_quiet (fail)
      go_wp2_with (first | (go_at_call 64; (with_reducible refine (HAy.out _ (Kd.S_ext (bel_drewN (Below.refl _ _) _) HY.out)).mono ?_); rintro e w3 ⟨yv, rfl, hoy, hb3⟩; have HOy := Lib.hid hoy; have HB3 := Lib.hid (bel_trans (bel_drewN (Below.refl _ _) _) hb3); obtain ⟨YB, cY, rfl, y1, y2, -⟩ := Kd.O_read hoy; clear hoy hb3)
                         | (go_at_call 64; (with_reducible refine (HAx.out _ (Kd.S_ext HB3.out HX2.out)).mono ?_); rintro e w4 ⟨xv, rfl, hox, hb4⟩; have HOx := Lib.hid hox; have HB4 := Lib.hid hb4; obtain ⟨XB, cX, rfl, x1, x2, -⟩ := Kd.O_read hox; clear hox hb4))
      clear cx1 cx2 cx3 cy1 cy2 cy3
      have HOy4 := Lib.hid (Kd.O_ext HB4.out HOy.out)
      have HB24 := Lib.hid (bel_trans HB3.out HB4.out)
      have HS4 := Lib.hid (Kd.F_ext HB24.out HS2.out)
      have Hb4 := Lib.hid (Nat.le_trans hw2.out HB24.out.size)
      go_loopw [0, 78] (fun v0 v78 wr => ∃ (i m : Nat) (s' : Binds), v78 = .int .i64 i ∧ i ≤ aX.length ∧ Hid (m ≤ k) ∧ Hid (U m s' ((aX.zip aY).drop i) = some r) ∧ Hid (Binv V s') ∧ Hid (Kd.bind.F 115 wr b v0 s') ∧ Hid (Wrote b 115 w4 wr)) (fun _ v78 _ => aX.length - (intOf v78).toNat)
      case atStart => exact ⟨0, k, s, rfl, Nat.zero_le _, Lib.hid (Nat.le_refl _), HU1, HBi, HS4, Lib.hid (Wrote.refl _ _ _ Hb4.out)⟩
      case round =>
        obtain ⟨i, m, s', rfl, hi, Hm, HUm, HBm, HSm, HWm⟩ := hrel
        obtain ⟨S'B, s'c, rfl, s'1, s'2, -⟩ := Kd.F_read HSm.out
        by_cases hlt : i < aX.length
        · obtain ⟨p, hp⟩ : ∃ p, aX[i]? = some p := ⟨_, List.getElem?_eq_getElem hlt⟩
          obtain ⟨q, hq⟩ : ∃ q, aY[i]? = some q := ⟨_, List.getElem?_eq_getElem (by rw [← hll.out]; exact hlt)⟩
          obtain ⟨A1, k1, ev1, _, _, hCx⟩ := Kd.O_read (HWm.out.O HOx.out trmE)
          obtain ⟨A2, k2, ev2, _, _, hCy⟩ := Kd.O_read (HWm.out.O HOy4.out trmE)
          injection ev1 with u1 u2 u3
          injection ev2 with u4 u5 u6
          obtain ⟨ax, pv, hax, cax, hSx⟩ := trm_at hCx hp
          obtain ⟨ay, qv, hay, cay, hSy⟩ := trm_at hCy hq
          have had1 := u1.trans hax
          have had2 := u4.trans hay
          have hzip : (aX.zip aY).drop i = (p, q) :: (aX.zip aY).drop (i + 1) := by
            have hz : (aX.zip aY)[i]? = some (p, q) := by rw [List.getElem?_zip_eq_some]; exact ⟨hp, hq⟩
            obtain ⟨hl, e⟩ := List.getElem?_eq_some_iff.1 hz
            rw [List.drop_eq_getElem_cons hl, e]
          have hpok : Pok V (p, q) := HPs.out _ (List.mem_of_getElem? (i := i) (by rw [List.getElem?_zip_eq_some]; exact ⟨hp, hq⟩))
          have HSx := Lib.hid hSx
          have HSy := Lib.hid hSy
          have hut := U_then (ps := [(p, q)]) (qs := (aX.zip aY).drop (i + 1)) (by rw [List.singleton_append, ← hzip]; exact HUm.out)
          have hiy : i < aY.length := by rw [← hll.out]; exact hlt
          have hbw := Lib.hid (Nat.le_trans Hb4.out HWm.out.bel.size)
          have hmN := Lib.hid (show m < N by have h1 := Hm.out; have h2 := Hn.out; omega)
          clear u1 u2 u3 u4 u5 u6 hax hay hCx hCy hSx hSy hp hq hzip
          subst had1
          subst had2
          rcases hut with ⟨hno, hrn⟩ | ⟨s2, m2, hyes, hm2, hU2⟩
          · have HIH := Lib.hid (IH.out m s' (.slice S'B s'.length s'c) pv qv p q none wr hmN.out hno HBm.out hpok HSm.out HSx.out HSy.out hbw.out)
            have hr := Lib.hid hrn
            clear hno hpok hrn
            go_wp2_with (go_at_call 40; (with_reducible refine HIH.out.mono ?_); rintro e w5 ⟨rv, rfl, hw5⟩; have HW5 := Lib.hid hw5; clear hw5)
            go_ret2
            exact .no hr.out (((HW2.out.call Hb.out HB24.out).trans HWm.out).trans HW5.out)
          · have HB2 := Lib.hid (U_binv (.start HBm.out hpok.1 hpok.2.1 hpok.2.2.1 hpok.2.2.2) hyes)
            have HIH := Lib.hid (IH.out m s' (.slice S'B s'.length s'c) pv qv p q (some s2) wr hmN.out hyes HBm.out hpok HSm.out HSx.out HSy.out hbw.out)
            have HU2 := Lib.hid hU2
            have Hm2 := Lib.hid (Nat.le_trans hm2 Hm.out)
            clear hyes hpok hU2 hm2
            go_wp2_with (go_at_call 40; (with_reducible refine HIH.out.mono ?_); rintro e w5 ⟨rv, ⟨rfl, hf5⟩, hw5⟩; have HW5 := Lib.hid hw5; have HF5 := Lib.hid hf5; clear hw5 hf5)
            exact ⟨⟨i + 1, m2, s2, by go_num, by omega, Hm2, HU2, HB2, HF5, Lib.hid (HWm.out.trans HW5.out)⟩, by simp [intOf]; omega⟩
        · have hr := Lib.hid (show r = some s' by
            have := HUm.out
            rw [List.drop_of_length_le (by rw [List.length_zip]; omega)] at this
            exact U_nil this)
          go_wp2
          go_ret2
          exact .yes hr.out HSm.out ((HW2.out.call Hb.out HB24.out).trans HWm.out)
end Go.Proofs.YtjnangiggnmkoaaGreatDoor
