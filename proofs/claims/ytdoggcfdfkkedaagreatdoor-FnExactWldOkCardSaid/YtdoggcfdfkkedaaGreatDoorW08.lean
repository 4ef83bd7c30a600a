/- Lemmas and contracts for FnExactWldOk, part 8. -/
import Derived.Test.YtdoggcfdfkkedaaGreatDoorW07
import Derived.Test.YtdoggcfdfkkedaaGreatDoorW03
import Derived.Test.YtdoggcfdfkkedaaGreatDoorW06
import Derived.Test.YtdoggcfdfkkedaaGreatDoorW04
import Derived.Deep.RegionHeld3
import Derived.Deep.RegionWith
import Derived.Test.YtdoggcfdfkkedaaGreatDoorW05
namespace Go.Proofs.YtdoggcfdfkkedaaGreatDoor
open Go.RowKit
set_option maxRecDepth 100000
set_option maxHeartbeats 4000000
set_option linter.unusedVariables false
def UniPostI (b : Nat) (w : World) (r : Option Binds) (e : Ending) (w' : World) : Prop :=
  ∃ rv, (match r with
    | none => e = .returned (.tuple #[rv, .bool false])
    | some s' => e = .returned (.tuple #[rv, .bool true]) ∧ Kd.bind.F 216 w' b rv s') ∧ Wrote b 216 w w'
theorem UniPostI.no {b : Nat} {w w' : World} {rv : Value} {r : Option Binds} (hr : r = none) (h : Wrote b 216 w w') : UniPostI b w r (.returned (.tuple #[rv, .bool false])) w' := by subst hr; exact ⟨rv, rfl, h⟩
theorem UniPostI.yes {b : Nat} {w w' : World} {rv : Value} {r : Option Binds} {s' : Binds} (hr : r = some s') (ho : Kd.bind.F 216 w' b rv s') (h : Wrote b 216 w w') : UniPostI b w r (.returned (.tuple #[rv, .bool true])) w' := by subst hr; exact ⟨rv, ⟨rfl, ho⟩, h⟩
theorem unifyI_c (V : List Int) (b : Nat) (hVl : V.length ≤ 4000000) (hVr : ∀ x ∈ V, 0 ≤ x ∧ x ≤ 1000000000) (N : Nat) : ∀ (n : Nat) (s : Binds) (sv av bv : Value) (t1 t2 : Trm) (r : Option Binds) (w : World), n < N → U n s [(t1, t2)] = some r → Binv V s → Pok V (t1, t2) →
    Kd.bind.F 216 w b sv s → Kd.cell.S 112 w av t1 → Kd.cell.S 112 w bv t2 → b ≤ w.heap.size →
    Calls Tryz.prog 106 #[sv, av, bv] w (UniPostI b w r) := by
  induction N with
  | zero => intro n _ _ _ _ _ _ _ _ h; omega
  | succ N ih =>
    intro n s sv av bv t1 t2 r w hn hU hB hP hs h1 h2 hb
    obtain ⟨k, rfl⟩ : ∃ k, n = k + 1 := by
      cases n with
      | zero => simp [U] at hU
      | succ k => exact ⟨k, rfl⟩
    have hI : Uinv V s [(t1, t2)] := .start hB hP.1 hP.2.1 hP.2.2.1 hP.2.2.2
    obtain ⟨x, xs, y, ys, wx, wy, okx, oky, vx, vy, fx, fy, hst⟩ := U_step hU hI
    have IH := Lib.hid ih
    have HST := Lib.hid hst
    have HBi := Lib.hid hB
    have hslen := Nat.le_trans hB.len hVl
    have hne : ∀ v t, getB s v = some t → t ≠ [] := fun v t hg e => by have := hB.trm v t hg; rw [e] at this; simp [trmOk] at this
    obtain ⟨SB, sc, rfl, s1, s2, hSC⟩ := Kd.F_read hs
    have HWx := Lib.hid (walkI_c k s SB sc t1 (x :: xs) av w hSC (by omega) hB.nod h1 wx hne)
    have HWy := Lib.hid (fun W hb => walkI_c k s SB sc t2 (y :: ys) bv W (Kd.C_ext (w' := W) hb hSC) (by omega) hB.nod (Kd.S_ext hb h2) wy hne)
    have HB40 := Lib.hid (trmOk_iff.1 okx)
    have HB41 := Lib.hid (trmOk_iff.1 oky)
    have HVv := Lib.hid (And.intro vx vy)
    have HOk := Lib.hid (And.intro okx oky)
    have HS := Lib.hid hs
    have Hb := Lib.hid hb
    have HVr := Lib.hid hVr
    have Hn := Lib.hid hn
    have hsl : ∀ v u, getB s v = some u → u.length ≤ 1000000000 ∧ u ≠ [] := fun v u hg => ⟨by have := (trmOk_iff.1 (hB.trm v u hg)).2.1; omega, hne v u hg⟩
    have hxl : (x :: xs).length ≤ 40 := HB40.out.2.1
    have hyl : (y :: ys).length ≤ 40 := HB41.out.2.1
    have HBnL := Lib.hid (fun W (hs : Kd.bind.C 216 W SB s) yv hy => bindI_no V s x.n SB sc (y :: ys) yv W (by omega) hB.nod hB.vin hVl hVr hsl hs hy (by omega) vy)
    have HByL := Lib.hid (fun W hs yv hy hb => bindI_yes V b s x.n (.slice SB s.length sc) (y :: ys) yv W hslen hB.nod hB.vin hVl hVr hsl hs hy (by omega) vy hb)
    have HBnR := Lib.hid (fun W (hs : Kd.bind.C 216 W SB s) xv hx => bindI_no V s y.n SB sc (x :: xs) xv W (by omega) hB.nod hB.vin hVl hVr hsl hs hx (by omega) vx)
    have HByR := Lib.hid (fun W hs xv hx hb => bindI_yes V b s y.n (.slice SB s.length sc) (x :: xs) xv W hslen hB.nod hB.vin hVl hVr hsl hs hx (by omega) vx hb)
    clear ih hst hB hP hs h1 h2 hb hI hU wx wy okx oky vx vy fx fy hsl hVr hn hne
    go_enter Tryz.func106, Tryz.ntmps106
    go_upto_region 2 with (first | (go_at_call 143; (with_reducible refine HWx.out.mono ?_); rintro e w1 ⟨xv, rfl, hX, hb⟩; obtain ⟨xa, nx, kx, rfl, hnx, hnx2, hnx3, hnx4⟩ := S_open hX; have HX := Lib.hid hX; have HB1 := Lib.hid hb; clear hX hb)
                                 | (go_at_call 143; (with_reducible refine (HWy.out _ HB1.out).mono ?_); rintro e w2 ⟨yv, rfl, hY, hb⟩; obtain ⟨ya, ny, ky, rfl, hny, hny2, hny3, hny4⟩ := S_open hY; have HY := Lib.hid hY; have HB2 := Lib.hid hb; clear hY hb))
    have HX2 := Lib.hid (Kd.S_ext HB2.out HX.out)
    obtain ⟨cx1, cx2, cx3⟩ := S_cells HX2.out
    obtain ⟨cy1, cy2, cy3⟩ := S_cells HY.out
    have HB := Lib.hid (bel_trans HB1.out HB2.out)
    have HS2 := Lib.hid (Kd.F_ext HB.out HS.out)
    have HSC2 := Lib.hid (Kd.C_ext HB.out hSC)
    have HW2 := Lib.hid (Wrote.of_below (e := 216) Hb.out HB.out)
    have hw2 := Lib.hid (Nat.le_trans Hb.out HB.out.size)
    have HwD := Lib.hid (fun n => (show b ≤ (w2.drewN n).heap.size from hw2.out))
    clear HX HB1 HWx HWy hSC
    rcases HST.out with ⟨k1, rfl, hU1, hI1⟩ | ⟨k1, hne, hR, hr⟩ | ⟨k1, hne, hR, hU1, hI1⟩ | ⟨k1, k2, hR, hr⟩ | ⟨k1, k2, hR, hU1, hI1⟩ | ⟨k1, k2, hne, hr⟩ | ⟨k1, k2, rfl, hU1, hI1⟩
    · have e1 : (x.k == 1) = true := beq_iff_eq.2 k1
      have hr := Lib.hid (U_nil hU1)
      clear k1 hU1 hI1
      go_quiet (fail)
      go_wp2
      go_ret2
      exact .yes hr.out (Kd.F_ext (bel_drewN (Below.refl _ _) _) HS2.out) (HW2.out.call Hb.out (bel_drewN (Below.refl _ _) _))
    · have e1 : (x.k == 1) = true := beq_iff_eq.2 k1
      have HRr := Lib.hid hR
      have hr := Lib.hid hr
      have hcc := cell_neb hne
      clear k1 hne hR
      rcases hcc with e2 | ⟨e2, e3⟩ | ⟨e2, e3, e4⟩
      all_goals
        go_quiet (fail)
        go_wp2_with (go_at_call 144; (with_reducible refine (HBnL.out _ (Kd.C_ext (bel_drewN (Below.refl _ _) _) HSC2.out) _ (Kd.S_ext (bel_drewN (Below.refl _ _) _) HY.out) HRr.out).mono ?_); rintro e w3 ⟨rfl, hb3⟩; have HB3 := Lib.hid hb3; clear hb3)
        go_ret2
        exact .no hr.out ((HW2.out.call Hb.out (bel_drewN (Below.refl _ _) _)).call Hb.out HB3.out)
    · have e1 : (x.k == 1) = true := beq_iff_eq.2 k1
      have HRr := Lib.hid hR
      have hr := Lib.hid (U_nil hU1)
      have hcc := cell_neb hne
      clear k1 hne hR hU1 hI1
      rcases hcc with e2 | ⟨e2, e3⟩ | ⟨e2, e3, e4⟩
      all_goals
        go_quiet (fail)
        go_wp2_with (go_at_call 144; (with_reducible refine (HByL.out _ (Kd.F_ext (bel_drewN (Below.refl _ _) _) HS2.out) _ (Kd.S_ext (bel_drewN (Below.refl _ _) _) HY.out) (HwD.out _) HRr.out).mono ?_); rintro e w3 ⟨rv, rfl, ho3, hw3⟩; have HO3 := Lib.hid ho3; have HW3 := Lib.hid hw3; clear ho3 hw3)
        go_ret2
        exact .yes hr.out (.inl HO3.out) ((HW2.out.call Hb.out (bel_drewN (Below.refl _ _) _)).trans HW3.out)
    · have e1 : (x.k == 1) = false := beq_eq_false_iff_ne.2 k1
      have e2 : (y.k == 1) = true := beq_iff_eq.2 k2
      have HRr := Lib.hid hR
      have hr := Lib.hid hr
      clear k1 k2 hR
      go_quiet (fail)
      go_wp2_with (go_at_call 144; (with_reducible refine (HBnR.out _ (Kd.C_ext (bel_drewN (Below.refl _ _) _) HSC2.out) _ (Kd.S_ext (bel_drewN (Below.refl _ _) _) HX2.out) HRr.out).mono ?_); rintro e w3 ⟨rfl, hb3⟩; have HB3 := Lib.hid hb3; clear hb3)
      go_ret2
      exact .no hr.out ((HW2.out.call Hb.out (bel_drewN (Below.refl _ _) _)).call Hb.out HB3.out)
    · have e1 : (x.k == 1) = false := beq_eq_false_iff_ne.2 k1
      have e2 : (y.k == 1) = true := beq_iff_eq.2 k2
      have HRr := Lib.hid hR
      have hr := Lib.hid (U_nil hU1)
      clear k1 k2 hR hU1 hI1
      go_quiet (fail)
      go_wp2_with (go_at_call 144; (with_reducible refine (HByR.out _ (Kd.F_ext (bel_drewN (Below.refl _ _) _) HS2.out) _ (Kd.S_ext (bel_drewN (Below.refl _ _) _) HX2.out) (HwD.out _) HRr.out).mono ?_); rintro e w3 ⟨rv, rfl, ho3, hw3⟩; have HO3 := Lib.hid ho3; have HW3 := Lib.hid hw3; clear ho3 hw3)
      go_ret2
      exact .yes hr.out (.inl HO3.out) ((HW2.out.call Hb.out (bel_drewN (Below.refl _ _) _)).trans HW3.out)
    · have e1 : (x.k == 1) = false := beq_eq_false_iff_ne.2 k1
      have e0 : (y.k == 1) = false := beq_eq_false_iff_ne.2 k2
      have hr := Lib.hid hr
      have hcc := cell_neb hne
      clear k1 k2 hne
      rcases hcc with e2 | ⟨e2, e3⟩ | ⟨e2, e3, e4⟩
      all_goals
        go_quiet (fail)
        go_upto_region 8 with (fail)
        go_quiet (fail)
        go_wp2
        go_ret2
        exact .no hr.out (HW2.out.call Hb.out (by first | exact bel_drewN (Below.refl _ _) _ | exact bel_drewN (bel_drewN (Below.refl _ _) _) _))
    · have e1 : (x.k == 1) = false := beq_eq_false_iff_ne.2 k1
      have HU1 := Lib.hid hU1
      have HPs := Lib.hid hI1.p
      clear HBnL HByL HBnR HByR hU1 hI1 k1 k2
      have HAx := Lib.hid (fun W hS => argsI_c x xs (.slice (some xa) nx kx) W hS HOk.out.1)
      have HAy := Lib.hid (fun W hS => argsI_c x ys (.slice (some ya) ny ky) W hS HOk.out.2)
      obtain ⟨aX, haX⟩ : ∃ l, argsOf (ar x).toNat xs = l := ⟨_, rfl⟩
      obtain ⟨aY, haY⟩ : ∃ l, argsOf (ar x).toNat ys = l := ⟨_, rfl⟩
      have hll := Lib.hid (show aX.length = aY.length by rw [← haX, ← haY, argsOf_len, argsOf_len])
      have hl3 : aX.length ≤ 3 := by
        have := ar_of_ok (List.all_eq_true.1 HB40.out.2.2 x List.mem_cons_self)
        rw [← haX, argsOf_len]; omega
      rw [haX] at HAx HU1 HPs
      rw [haY] at HAy HU1 HPs
      rw [List.append_nil] at HU1 HPs
      clear haX haY
      go_quiet (fail)
      go_upto_region 8 with (fail)
      go_quiet (fail)
      go_wp2_with (first | (go_at_call 145; (with_reducible refine (HAy.out _ (Kd.S_ext (bel_drewN (Below.refl _ _) _) HY.out)).mono ?_); rintro e w3 ⟨yv, rfl, hoy, hb3⟩; have HOy := Lib.hid hoy; have HB3 := Lib.hid (bel_trans (bel_drewN (Below.refl _ _) _) hb3); obtain ⟨YB, cY, rfl, y1, y2, -⟩ := Kd.O_read hoy; clear hoy hb3)
                         | (go_at_call 145; (with_reducible refine (HAx.out _ (Kd.S_ext HB3.out HX2.out)).mono ?_); rintro e w4 ⟨xv, rfl, hox, hb4⟩; have HOx := Lib.hid hox; have HB4 := Lib.hid hb4; obtain ⟨XB, cX, rfl, x1, x2, -⟩ := Kd.O_read hox; clear hox hb4))
      clear cx1 cx2 cx3 cy1 cy2 cy3
      have HOy4 := Lib.hid (Kd.O_ext HB4.out HOy.out)
      have HB24 := Lib.hid (bel_trans HB3.out HB4.out)
      have HS4 := Lib.hid (Kd.F_ext HB24.out HS2.out)
      have Hb4 := Lib.hid (Nat.le_trans hw2.out HB24.out.size)
      go_loopw [0, 78] (fun v0 v78 wr => ∃ (i m : Nat) (s' : Binds), v78 = .int .i64 i ∧ i ≤ aX.length ∧ Hid (m ≤ k) ∧ Hid (U m s' ((aX.zip aY).drop i) = some r) ∧ Hid (Binv V s') ∧ Hid (Kd.bind.F 216 wr b v0 s') ∧ Hid (Wrote b 216 w4 wr)) (fun _ v78 _ => aX.length - (intOf v78).toNat)
      case atStart => exact ⟨0, k, s, rfl, Nat.zero_le _, Lib.hid (Nat.le_refl _), HU1, HBi, HS4, Lib.hid (Wrote.refl _ _ _ Hb4.out)⟩
      case round =>
        obtain ⟨i, m, s', rfl, hi, Hm, HUm, HBm, HSm, HWm⟩ := hrel
        obtain ⟨S'B, s'c, rfl, s'1, s'2, -⟩ := Kd.F_read HSm.out
        by_cases hlt : i < aX.length
        · obtain ⟨p, hp⟩ : ∃ p, aX[i]? = some p := ⟨_, List.getElem?_eq_getElem hlt⟩
          obtain ⟨q, hq⟩ : ∃ q, aY[i]? = some q := ⟨_, List.getElem?_eq_getElem (by rw [← hll.out]; exact hlt)⟩
          obtain ⟨A1, k1, ev1, _, _, hCx⟩ := Kd.O_read (HWm.out.O HOx.out trmE)
          obtain ⟨A2, k2, ev2, _, _, hCy⟩ := Kd.O_read (HWm.out.O HOy4.out trmE)
          injection ev1 with u1 u2 u3
          injection ev2 with u4 u5 u6
          obtain ⟨ax, pv, hax, cax, hSx⟩ := trm_at hCx hp
          obtain ⟨ay, qv, hay, cay, hSy⟩ := trm_at hCy hq
          have had1 := u1.trans hax
          have had2 := u4.trans hay
          have hzip : (aX.zip aY).drop i = (p, q) :: (aX.zip aY).drop (i + 1) := by
            have hz : (aX.zip aY)[i]? = some (p, q) := by rw [List.getElem?_zip_eq_some]; exact ⟨hp, hq⟩
            obtain ⟨hl, e⟩ := List.getElem?_eq_some_iff.1 hz
            rw [List.drop_eq_getElem_cons hl, e]
          have hpok : Pok V (p, q) := HPs.out _ (List.mem_of_getElem? (i := i) (by rw [List.getElem?_zip_eq_some]; exact ⟨hp, hq⟩))
          have HSx := Lib.hid hSx
          have HSy := Lib.hid hSy
          have hut := U_then (ps := [(p, q)]) (qs := (aX.zip aY).drop (i + 1)) (by rw [List.singleton_append, ← hzip]; exact HUm.out)
          have hiy : i < aY.length := by rw [← hll.out]; exact hlt
          have hbw := Lib.hid (Nat.le_trans Hb4.out HWm.out.bel.size)
          have hmN := Lib.hid (show m < N by have h1 := Hm.out; have h2 := Hn.out; omega)
          clear u1 u2 u3 u4 u5 u6 hax hay hCx hCy hSx hSy hp hq hzip
          subst had1
          subst had2
          rcases hut with ⟨hno, hrn⟩ | ⟨s2, m2, hyes, hm2, hU2⟩
          · have HIH := Lib.hid (IH.out m s' (.slice S'B s'.length s'c) pv qv p q none wr hmN.out hno HBm.out hpok HSm.out HSx.out HSy.out hbw.out)
            have hr := Lib.hid hrn
            clear hno hpok hrn
            go_wp2_with (go_at_call 106; (with_reducible refine HIH.out.mono ?_); rintro e w5 ⟨rv, rfl, hw5⟩; have HW5 := Lib.hid hw5; clear hw5)
            go_ret2
            exact .no hr.out (((HW2.out.call Hb.out HB24.out).trans HWm.out).trans HW5.out)
          · have HB2 := Lib.hid (U_binv (.start HBm.out hpok.1 hpok.2.1 hpok.2.2.1 hpok.2.2.2) hyes)
            have HIH := Lib.hid (IH.out m s' (.slice S'B s'.length s'c) pv qv p q (some s2) wr hmN.out hyes HBm.out hpok HSm.out HSx.out HSy.out hbw.out)
            have HU2 := Lib.hid hU2
            have Hm2 := Lib.hid (Nat.le_trans hm2 Hm.out)
            clear hyes hpok hU2 hm2
            go_wp2_with (go_at_call 106; (with_reducible refine HIH.out.mono ?_); rintro e w5 ⟨rv, ⟨rfl, hf5⟩, hw5⟩; have HW5 := Lib.hid hw5; have HF5 := Lib.hid hf5; clear hw5 hf5)
            exact ⟨⟨i + 1, m2, s2, by go_num, by omega, Hm2, HU2, HB2, HF5, Lib.hid (HWm.out.trans HW5.out)⟩, by simp [intOf]; omega⟩
        · have hr := Lib.hid (show r = some s' by
            have := HUm.out
            rw [List.drop_of_length_le (by rw [List.length_zip]; omega)] at this
            exact U_nil this)
          go_wp2
          go_ret2
          exact .yes hr.out HSm.out ((HW2.out.call Hb.out HB24.out).trans HWm.out)
end Go.Proofs.YtdoggcfdfkkedaaGreatDoor
namespace Go.Proofs.YtdoggcfdfkkedaaGreatDoor
set_option linter.unusedVariables false
def SubOk' (s : Binds) : Prop := (∀ b ∈ s, 0 ≤ b.1 ∧ b.1 ≤ 99999 ∧ trmOk b.2 = true ∧ ¬ Rch s b.2 b.1) ∧ (s.map (·.1)).Nodup
def V0 : List Int := (List.range 100000).map (fun n : Nat => (n : Int))
theorem V0_len : V0.length = 100000 := by unfold V0; rw [List.length_map, List.length_range]
theorem mem_V0 {x : Int} : x ∈ V0 ↔ 0 ≤ x ∧ x ≤ 99999 := by
  unfold V0
  rw [List.mem_map]
  constructor
  · rintro ⟨n, hn, rfl⟩
    have := List.mem_range.1 hn
    omega
  · rintro ⟨h0, h1⟩
    exact ⟨x.toNat, List.mem_range.2 (by omega), by omega⟩
theorem getB_in {s : Binds} {v : Int} {t : Trm} (h : getB s v = some t) : (v, t) ∈ s := by
  unfold getB at h
  obtain ⟨b, hb, rfl⟩ := Option.map_eq_some_iff.1 h
  have h1 := List.mem_of_find?_eq_some hb
  have h2 := List.find?_some hb
  have : b.1 = v := by simpa using h2
  subst this
  exact h1
open Classical in
noncomputable def rankOf (s : Binds) (v : Int) : Nat := match getB s v with
  | none => 0
  | some t => (V0.filter (fun y => decide (Rch s t y))).length
theorem sub_rank {s : Binds} (h : SubOk' s) : ∀ v t, getB s v = some t → ∀ x ∈ vars t, rankOf s x < rankOf s v := by
  classical
  intro v t hg x hx
  have hall : ∀ v t, getB s v = some t → trmOk t = true := fun v t hg => (h.1 _ (getB_in hg)).2.2.1
  have hxV : x ∈ V0 := mem_V0.2 (vars_ok (hall v t hg) x hx)
  have hv : rankOf s v = (V0.filter (fun y => decide (Rch s t y))).length := by unfold rankOf; rw [hg]
  rw [hv]
  cases hgx : getB s x with
  | none =>
    have : rankOf s x = 0 := by unfold rankOf; rw [hgx]
    rw [this]
    exact List.length_pos_of_mem (List.mem_filter.2 ⟨hxV, decide_eq_true (.here hx)⟩)
  | some u =>
    have hu : rankOf s x = (V0.filter (fun y => decide (Rch s u y))).length := by unfold rankOf; rw [hgx]
    rw [hu]
    refine filter_lt (p := fun y => decide (Rch s t y)) (q := fun y => decide (Rch s u y)) (v := x) (fun y hy => decide_eq_true (.on hx hgx (of_decide_eq_true hy))) (decide_eq_true (.here hx)) (decide_eq_false ?_) hxV
    exact (h.1 _ (getB_in hgx)).2.2.2
theorem sub_binv {s : Binds} (h : SubOk' s) : Binv V0 s where
  bok := ⟨fun v t hg => Tk_ok (h.1 _ (getB_in hg)).2.2.1, rankOf s, sub_rank h⟩
  trm := fun v t hg => (h.1 _ (getB_in hg)).2.2.1
  vin := fun v t hg x hx => mem_V0.2 (vars_ok (h.1 _ (getB_in hg)).2.2.1 x hx)
  nod := h.2
  key := fun v hv => by
    obtain ⟨b, hb, rfl⟩ := List.mem_map.1 hv
    exact mem_V0.2 ⟨(h.1 b hb).1, (h.1 b hb).2.1⟩
end Go.Proofs.YtdoggcfdfkkedaaGreatDoor
namespace Go.Proofs.YtdoggcfdfkkedaaGreatDoor
set_option linter.unusedVariables false
end Go.Proofs.YtdoggcfdfkkedaaGreatDoor
namespace Go.Proofs.YtdoggcfdfkkedaaGreatDoor
open Go.RowKit
set_option maxRecDepth 100000
set_option maxHeartbeats 2000000
set_option linter.unusedVariables false
theorem bound_len {V : List Int} {s : Binds} (h : Binv V s) : ∀ v u, getB s v = some u → 0 < u.length ∧ u.length ≤ 40 := fun v u hg => ⟨h.pos v u hg, (trmOk_iff.1 (h.trm v u hg)).2.1⟩
end Go.Proofs.YtdoggcfdfkkedaaGreatDoor
namespace Go.Proofs.YtdoggcfdfkkedaaGreatDoor
open Go.RowKit
set_option maxRecDepth 100000
set_option maxHeartbeats 2000000
set_option linter.unusedVariables false
end Go.Proofs.YtdoggcfdfkkedaaGreatDoor
namespace Go.Proofs.YtdoggcfdfkkedaaGreatDoor
open Go.RowKit
set_option maxRecDepth 100000
set_option maxHeartbeats 2000000
set_option linter.unusedVariables false
end Go.Proofs.YtdoggcfdfkkedaaGreatDoor
namespace Go.Proofs.YtdoggcfdfkkedaaGreatDoor
open Go.RowKit
set_option maxRecDepth 100000
set_option maxHeartbeats 2000000
set_option linter.unusedVariables false
theorem trmOkS_c (t : Trm) (tv : Value) (w : World) (h : Kd.cell.S 112 w tv t) (hl : t.length ≤ 1000000000) :
    Calls Tryz.prog 44 #[tv] w fun e w' => e = .returned (.bool (trmOk t)) ∧ Below w.heap.size w w' := by
  obtain ⟨A, c, rfl, _, _, hC⟩ := h
  exact trmOk_c t A c w hC hl
theorem canonS_c (t : Trm) (tv : Value) (w : World) (h : Kd.cell.S 112 w tv t) (hl : t.length ≤ 1000000000) :
    Calls Tryz.prog 47 #[tv] w fun e w' => ∃ v, e = .returned v ∧ Kd.cell.S 112 w' v (canon t) ∧ Below w.heap.size w w' := by
  obtain ⟨A, c, rfl, _, _, hC⟩ := h
  exact canon_c t A c w hC hl
theorem sameS_c (t u : Trm) (tv uv : Value) (w : World) (h : Kd.cell.S 112 w tv t) (h' : Kd.cell.S 112 w uv u) (hl : t.length ≤ 1000000000) (hl' : u.length ≤ 1000000000) :
    Calls Tryz.prog 46 #[tv, uv] w fun e w' => e = .returned (.bool (decide (t = u))) ∧ Below w.heap.size w w' := by
  obtain ⟨A, c, rfl, _, _, hC⟩ := h
  obtain ⟨B, d, rfl, _, _, hC'⟩ := h'
  exact same_c t u A B c d w hC hC' hl hl'
theorem topS_c (t : Trm) (tv : Value) (w : World) (h : Kd.cell.S 112 w tv t) (hl : t.length ≤ 1000000000) :
    Calls Tryz.prog 15 #[tv] w fun e w' => e = .returned (.bool (isQ t)) ∧ Below w.heap.size w w' := by
  obtain ⟨A, c, rfl, _, _, hC⟩ := h
  exact top_c t A c w hC hl
theorem shiftS_c (t : Trm) (tv : Value) (n : Int) (w : World) (h : Kd.cell.S 112 w tv t) (hl : t.length ≤ 1000000000) (hn0 : -1000000000 ≤ n) (hn1 : n ≤ 1000000000) (hc0 : ∀ x ∈ t, -1000000000 ≤ x.n ∧ x.n ≤ 1000000000) :
    Calls Tryz.prog 87 #[tv, .int .i64 n] w fun e w' => ∃ v, e = .returned v ∧ Kd.cell.S 112 w' v (shift t n) ∧ Below w.heap.size w w' := by
  obtain ⟨A, c, rfl, _, _, hC⟩ := h
  exact shift_c t A c n w hC hl hn0 hn1 hc0
theorem n_small {t : Trm} (h : trmOk t = true) : ∀ x ∈ t, -1000000000 ≤ x.n ∧ x.n ≤ 1000000000 := fun x hx => by
  have := cellOk_n (List.all_eq_true.1 (trmOk_iff.1 h).2.2 x hx)
  omega
theorem outOkS_c (top : Trm) (tv : Value) (st : Int) (t : Trm) (ov : Value) (w : World) (h : Kd.cell.S 112 w tv top) (h' : Kd.cell.S 112 w ov t) (hl : top.length ≤ 1000000000) (hl' : t.length ≤ 1000000000) :
    Calls Tryz.prog 48 #[tv, .agg #[.int .i64 st, ov]] w fun e w' => e = .returned (.bool (outOk top st t)) ∧ Below w.heap.size w w' := by
  have H := Lib.hid h
  have H' := Lib.hid h'
  obtain ⟨B, k, rfl, b1, b2, -⟩ := h'
  have HT := Lib.hid (fun W hb => topS_c top tv W (Kd.S_ext (w' := W) hb H.out) hl)
  clear h
  cases hq : isQ top with
  | false =>
    have HV := Lib.hid (show outOk top st t = false by unfold outOk; rw [if_pos hq])
    rw [hq] at HT
    clear hq
    go_enter Tryz.func48, Tryz.ntmps48
    go_wp2_with (go_at_call 15; (with_reducible refine (HT.out _ (bel_alloc (Below.refl _ _) _)).mono ?_); rintro e w1 ⟨rfl, hb⟩)
    go_ret
    exact ⟨ret_bool HV.out.symm, bel_trans (bel_alloc (Below.refl _ _) _) hb⟩
  | true =>
    rw [hq] at HT
    have HQ := Lib.hid hq
    clear hq
    have hbx : ∀ w1, Below (w.alloc (.cells #[.int .i64 st, .slice B t.length k] 99)).heap.size (w.alloc (.cells #[.int .i64 st, .slice B t.length k] 99)) w1 →
        w1.cell? ⟨w.heap.size, 0, none⟩ = some (.int .i64 st) ∧ w1.cell? ⟨w.heap.size, 1, none⟩ = some (.slice B t.length k) ∧ Below w.heap.size w w1 := fun w1 hb => ⟨cell_keep hb (box_cell _ _ _ 0), cell_keep hb (box_cell _ _ _ 1), bel_trans (bel_alloc (Below.refl _ _) _) hb⟩
    have HBX := Lib.hid hbx
    clear hbx
    by_cases h2 : st = 2
    · subst h2
      have HO := Lib.hid (fun W hb => trmOkS_c t _ W (Kd.S_ext (w' := W) hb H'.out) hl')
      have HV0 := Lib.hid (show outOk top 2 t = (trmOk t && (decide (canon t = t) && (uni [] [(t, shift top t.length)]).isSome)) by
        unfold outOk
        rw [if_neg (by rw [HQ.out]; simp), if_neg (by omega), if_neg (by omega)]
        cases trmOk t with
        | false => rfl
        | true =>
          rw [if_neg (by simp), Bool.true_and]
          by_cases hc : canon t = t
          · rw [if_neg (by simpa using hc), decide_eq_true hc, Bool.true_and]
          · rw [if_pos hc, decide_eq_false hc, Bool.false_and])
      have hst : ∀ W W' : World, Below W.heap.size W W' → (W.cell? ⟨w.heap.size, 1, none⟩ = some (.slice B t.length k) ∧ Hid (Below w.heap.size w W)) → (W'.cell? ⟨w.heap.size, 1, none⟩ = some (.slice B t.length k) ∧ Hid (Below w.heap.size w W')) := fun W W' hb h => ⟨cell_keep hb h.1, Lib.hid (bel_trans h.2.out hb)⟩
      cases ho : trmOk t with
      | false =>
        rw [ho] at HO
        have HV := Lib.hid (show outOk top 2 t = false by rw [HV0.out, ho]; rfl)
        clear ho
        have HO2 := Lib.hid (fun W (h : W.cell? ⟨w.heap.size, 1, none⟩ = some (.slice B t.length k) ∧ Hid (Below w.heap.size w W)) => HO.out W h.2.out)
        go_enter Tryz.func48, Tryz.ntmps48
        go_upto_region 5 with (go_at_call 15; (with_reducible refine (HT.out _ (bel_alloc (Below.refl _ _) _)).mono ?_); rintro e w1 ⟨rfl, hb⟩; obtain ⟨c0, c1, hb1⟩ := HBX.out _ hb; have HB1 := Lib.hid hb1; clear hb hb1)
        have hS0 := hst w1 w1.drew (bel_drew (Below.refl _ _)) ⟨c1, HB1⟩
        obtain ⟨C, hC⟩ : ∃ C : World → Prop, ∀ W, C W ↔ (W.cell? ⟨w.heap.size, 1, none⟩ = some (.slice B t.length k) ∧ Hid (Below w.heap.size w W)) := ⟨_, fun W => Iff.rfl⟩
        have HCi := Lib.hid hC
        have hC0 := (hC _).2 hS0
        clear hC hS0
        refine wp_region_class (C := C) (by kernel_rfl) (by kernel_rfl) hC0 ?_; (repeat (first | go_big_quiet_skip | (go_big_quiet_want; first | (go_big_quiet_op; first | go_big_quiet_on | (refine ⟨_, fun _ _ => rfl, ?_⟩; go_big_quiet_on)) | (refine quiet_cell rfl rfl (fun W v hv => (by go_simp)) (fun W hW => ((HCi.out W).1 hW).1) ?_; go_big_quiet_on; simp only [Act.put, List.setIfInBounds_toArray, List.set_cons_zero, List.set_cons_succ]) | (go_big_quiet_op; refine ⟨_, fun W hW => ((HO2.out W ((HCi.out W).1 hW)).mono (fun e w' hh => ⟨hh.1, (HCi.out _).2 (hst _ _ hh.2 ((HCi.out W).1 hW))⟩)), ?_⟩; go_big_quiet_on)))); refine wpQuiet_nil ?_; intro w2 hw2
        have HB := ((HCi.out w2).1 hw2).2
        clear hw2 hC0
        go_wp2
        go_ret
        exact ⟨ret_bool HV.out.symm, HB.out⟩
      | true =>
        rw [ho] at HO
        have hcan : Hid (∀ W, (W.cell? ⟨w.heap.size, 1, none⟩ = some (.slice B t.length k) ∧ Hid (Below w.heap.size w W)) → Calls Tryz.prog 47 #[.slice B t.length k] W fun e w' => ∃ v, e = .returned v ∧ Kd.cell.S 112 w' v (canon t) ∧ Below W.heap.size W w') := Lib.hid (fun W h => canonS_c t _ W (Kd.S_ext h.2.out H'.out) hl')
        have hsam : Hid (∀ W v, (W.cell? ⟨w.heap.size, 1, none⟩ = some (.slice B t.length k) ∧ Hid (Below w.heap.size w W)) → Kd.cell.S 112 W v (canon t) → Calls Tryz.prog 46 #[v, .slice B t.length k] W fun e w' => e = .returned (.bool (decide (canon t = t))) ∧ Below W.heap.size W w') := Lib.hid (fun W v h hv => sameS_c (canon t) t v _ W hv (Kd.S_ext h.2.out H'.out) (by rw [canon_len]; exact hl') hl')
        have HO2 := Lib.hid (fun W (h : W.cell? ⟨w.heap.size, 1, none⟩ = some (.slice B t.length k) ∧ Hid (Below w.heap.size w W)) => HO.out W h.2.out)
        cases hc : decide (canon t = t) with
        | false =>
          have HV := Lib.hid (show outOk top 2 t = false by rw [HV0.out, ho, hc]; rfl)
          rw [hc] at hsam
          clear ho hc
          go_enter Tryz.func48, Tryz.ntmps48
          go_upto_region 5 with (go_at_call 15; (with_reducible refine (HT.out _ (bel_alloc (Below.refl _ _) _)).mono ?_); rintro e w1 ⟨rfl, hb⟩; obtain ⟨c0, c1, hb1⟩ := HBX.out _ hb; have HB1 := Lib.hid hb1; clear hb hb1)
          have hS0 := hst w1 w1.drew (bel_drew (Below.refl _ _)) ⟨c1, HB1⟩
          go_region_held3 (fun W => W.cell? ⟨w.heap.size, 1, none⟩ = some (.slice B t.length k) ∧ Hid (Below w.heap.size w W)) (assumption) (first | (go_at_call 44; refine (HO2.out _ (by assumption)).mono ?_; rintro e w2 ⟨rfl, hb2⟩; have hS1 := hst _ _ hb2 (by assumption); clear hb2) | (go_at_call 47; refine (hcan.out _ (by assumption)).mono ?_; rintro e w3 ⟨v3, rfl, hv3, hb3⟩; have hS3 := hst _ _ hb3 (by assumption); have HV3 := Lib.hid (fun W' hb' => Kd.S_ext (w' := W') hb' hv3); clear hb3 hv3) | (go_at_call 46; refine (hsam.out _ _ (by assumption) (HV3.out _ (by first | exact Below.refl _ _ | exact bel_drew (Below.refl _ _)))).mono ?_; rintro e w4 ⟨rfl, hb4⟩; have hS4 := hst _ _ hb4 (by assumption); clear hb4))
          all_goals
            have HB := hS4.2
            clear hS0 hst
            go_wp2
            go_ret
            exact ⟨ret_bool HV.out.symm, HB.out⟩
        | true =>
          rw [hc] at hsam
          have ht40 := (trmOk_iff.1 ho).2.1
          have hsq := shiftQ_ok HQ.out ht40
          have hI : Uinv (vars (shift top t.length) ++ vars t) [] [(shift top t.length, t)] := .start (.nil _) hsq ho (fun v hv => List.mem_append_left _ hv) (fun v hv => List.mem_append_right _ hv)
          obtain ⟨n, hU⟩ := uni_U hI
          have hVl : (vars (shift top t.length) ++ vars t).length ≤ 4000000 := by
            have h1 := vars_len (shift top t.length)
            have h2 := vars_len t
            have h3 := (trmOk_iff.1 hsq).2.1
            rw [List.length_append]; omega
          have hsw := uni_swap hsq ho
          have HV := Lib.hid (show outOk top 2 t = (uni [] [(shift top t.length, t)]).isSome by rw [HV0.out, ho, hc, hsw]; rfl)
          have HSh := Lib.hid (fun W (h : W.cell? ⟨w.heap.size, 1, none⟩ = some (.slice B t.length k) ∧ Hid (Below w.heap.size w W)) => shiftS_c top tv t.length W (Kd.S_ext h.2.out H.out) hl (by omega) (by omega) (n_small (isQ_ok HQ.out).1))
          obtain ⟨r, hr⟩ : ∃ r, uni [] [(shift top t.length, t)] = r := ⟨_, rfl⟩
          rw [hr] at HV hU
          have HUn := Lib.hid (fun W sv av hs h1 (h : W.cell? ⟨w.heap.size, 1, none⟩ = some (.slice B t.length k) ∧ Hid (Below w.heap.size w W)) hb => unify_c _ n (w.heap.size + 1) [] sv av (.slice B t.length k) (shift top t.length) t r W hU hI hVl hs h1 (Kd.S_ext h.2.out H'.out) hb)
          have hst2 : ∀ W W' : World, Wrote (w.heap.size + 1) 216 W W' → (W.cell? ⟨w.heap.size, 1, none⟩ = some (.slice B t.length k) ∧ Hid (Below w.heap.size w W)) → (W'.cell? ⟨w.heap.size, 1, none⟩ = some (.slice B t.length k) ∧ Hid (Below w.heap.size w W')) := fun W W' hb h => ⟨(hb.bel.cell (p := ⟨w.heap.size, 1, none⟩) (Nat.lt_succ_self _)).trans h.1, Lib.hid (h.2.out.trans (hb.bel.mono (Nat.le_succ _)))⟩
          have hsz : ∀ W : World, (W.cell? ⟨w.heap.size, 1, none⟩ = some (.slice B t.length k) ∧ Hid (Below w.heap.size w W)) → w.heap.size + 1 ≤ W.heap.size := fun W h => World.block_lt_of_cell? W _ h.1
          have Hsz := Lib.hid hsz
          clear ho hc hsq hI hU hVl hsw hr ht40 hsz
          cases r with
          | none =>
            go_enter Tryz.func48, Tryz.ntmps48
            go_upto_region 5 with (go_at_call 15; (with_reducible refine (HT.out _ (bel_alloc (Below.refl _ _) _)).mono ?_); rintro e w1 ⟨rfl, hb⟩; obtain ⟨c0, c1, hb1⟩ := HBX.out _ hb; have HB1 := Lib.hid hb1; clear hb hb1)
            have hS0 := hst w1 w1.drew (bel_drew (Below.refl _ _)) ⟨c1, HB1⟩
            go_region_held3 (fun W => W.cell? ⟨w.heap.size, 1, none⟩ = some (.slice B t.length k) ∧ Hid (Below w.heap.size w W)) (assumption) (first | (go_at_call 44; refine (HO2.out _ (by assumption)).mono ?_; rintro e w2 ⟨rfl, hb2⟩; have hS1 := hst _ _ hb2 (by assumption); clear hb2) | (go_at_call 47; refine (hcan.out _ (by assumption)).mono ?_; rintro e w3 ⟨v3, rfl, hv3, hb3⟩; have hS3 := hst _ _ hb3 (by assumption); have HV3 := Lib.hid (fun W' hb' => Kd.S_ext (w' := W') hb' hv3); clear hb3 hv3) | (go_at_call 46; refine (hsam.out _ _ (by assumption) (HV3.out _ (by first | exact Below.refl _ _ | exact bel_drew (Below.refl _ _)))).mono ?_; rintro e w4 ⟨rfl, hb4⟩; have hS4 := hst _ _ hb4 (by assumption); clear hb4))
            clear hS0 hS1 hS3
            go_upto_region 7 with fail
            have hS0 := hst _ _ (bel_drew (Below.refl w4.heap.size w4)) hS4
            go_region_held3 (fun W => W.cell? ⟨w.heap.size, 1, none⟩ = some (.slice B t.length k) ∧ Hid (Below w.heap.size w W)) (first | assumption | (exact hst _ _ (bel_alloc (Below.refl _ _) _) (by assumption))) (first | (go_at_call 87; refine (HSh.out _ (by assumption)).mono ?_; rintro e w5 ⟨v5, rfl, hv5, hb5⟩; have hS5 := hst _ _ hb5 (by assumption); have HV5 := Lib.hid (fun W' hb' => Kd.S_ext (w' := W') hb' hv5); have HB5 := Lib.hid hb5; clear hb5 hv5) | (go_at_call 86; refine (HUn.out _ _ _ (by first | exact Kd.O_ext HB5.out (Kd.O_empty Kd.bind _ _ (Hsz.out _ (by assumption))) | exact Kd.O_empty Kd.bind _ _ (Hsz.out _ (by assumption))) (HV5.out _ (by first | exact Below.refl _ _ | exact bel_alloc (Below.refl _ _) _)) (by assumption) (Hsz.out _ (by assumption))).mono ?_; rintro e w6 ⟨rv, rfl, hw6⟩; have hS6 := hst2 _ _ hw6 (by assumption); clear hw6))
            all_goals
              have HB := hS6.2
              clear hS0 hst
              go_wp2
              go_ret
              exact ⟨ret_bool HV.out.symm, HB.out⟩
          | some s' =>
            go_enter Tryz.func48, Tryz.ntmps48
            go_upto_region 5 with (go_at_call 15; (with_reducible refine (HT.out _ (bel_alloc (Below.refl _ _) _)).mono ?_); rintro e w1 ⟨rfl, hb⟩; obtain ⟨c0, c1, hb1⟩ := HBX.out _ hb; have HB1 := Lib.hid hb1; clear hb hb1)
            have hS0 := hst w1 w1.drew (bel_drew (Below.refl _ _)) ⟨c1, HB1⟩
            go_region_held3 (fun W => W.cell? ⟨w.heap.size, 1, none⟩ = some (.slice B t.length k) ∧ Hid (Below w.heap.size w W)) (assumption) (first | (go_at_call 44; refine (HO2.out _ (by assumption)).mono ?_; rintro e w2 ⟨rfl, hb2⟩; have hS1 := hst _ _ hb2 (by assumption); clear hb2) | (go_at_call 47; refine (hcan.out _ (by assumption)).mono ?_; rintro e w3 ⟨v3, rfl, hv3, hb3⟩; have hS3 := hst _ _ hb3 (by assumption); have HV3 := Lib.hid (fun W' hb' => Kd.S_ext (w' := W') hb' hv3); clear hb3 hv3) | (go_at_call 46; refine (hsam.out _ _ (by assumption) (HV3.out _ (by first | exact Below.refl _ _ | exact bel_drew (Below.refl _ _)))).mono ?_; rintro e w4 ⟨rfl, hb4⟩; have hS4 := hst _ _ hb4 (by assumption); clear hb4))
            clear hS0 hS1 hS3
            go_upto_region 7 with fail
            have hS0 := hst _ _ (bel_drew (Below.refl w4.heap.size w4)) hS4
            go_region_held3 (fun W => W.cell? ⟨w.heap.size, 1, none⟩ = some (.slice B t.length k) ∧ Hid (Below w.heap.size w W)) (first | assumption | (exact hst _ _ (bel_alloc (Below.refl _ _) _) (by assumption))) (first | (go_at_call 87; refine (HSh.out _ (by assumption)).mono ?_; rintro e w5 ⟨v5, rfl, hv5, hb5⟩; have hS5 := hst _ _ hb5 (by assumption); have HV5 := Lib.hid (fun W' hb' => Kd.S_ext (w' := W') hb' hv5); have HB5 := Lib.hid hb5; clear hb5 hv5) | (go_at_call 86; refine (HUn.out _ _ _ (by first | exact Kd.O_ext HB5.out (Kd.O_empty Kd.bind _ _ (Hsz.out _ (by assumption))) | exact Kd.O_empty Kd.bind _ _ (Hsz.out _ (by assumption))) (HV5.out _ (by first | exact Below.refl _ _ | exact bel_alloc (Below.refl _ _) _)) (by assumption) (Hsz.out _ (by assumption))).mono ?_; rintro e w6 ⟨rv, ⟨rfl, -⟩, hw6⟩; have hS6 := hst2 _ _ hw6 (by assumption); clear hw6))
            all_goals
              have HB := hS6.2
              clear hS0 hst
              go_wp2
              go_ret
              exact ⟨ret_bool HV.out.symm, HB.out⟩
    · have e2 : (st != 2) = true := bne_iff_ne.2 h2
      have HI := Lib.hid (fun W => lIn_c st 3 5 W)
      by_cases h35 : 3 ≤ st ∧ st ≤ 5
      · have HV := Lib.hid (show outOk top st t = t.isEmpty by unfold outOk; rw [if_neg (by rw [HQ.out]; simp), if_pos h35])
        have hI : (decide (3 ≤ st) && decide (st ≤ 5)) = true := by rw [decide_eq_true h35.1, decide_eq_true h35.2]; rfl
        rw [hI] at HI
        have HE := Lib.hid (show (((t.length : Nat) : Int) == 0) = t.isEmpty by cases t <;> simp <;> try omega)
        obtain ⟨m, hm⟩ : ∃ m, t.length = m := ⟨_, rfl⟩
        have HM := Lib.hid hm
        rw [hm] at HBX HE ⊢
        clear hI h35 h2 hm
        go_enter Tryz.func48, Tryz.ntmps48
        go_wp2_with (first | (go_at_call 15; (with_reducible refine (HT.out _ (bel_alloc (Below.refl _ _) _)).mono ?_); rintro e w1 ⟨rfl, hb⟩; obtain ⟨c0, c1, hb1⟩ := HBX.out _ hb; have HB1 := Lib.hid hb1; clear hb hb1) | (go_at_call 18; (with_reducible refine (HI.out _).mono ?_); rintro e w2 ⟨rfl, rfl⟩))
        go_ret
        exact ⟨ret_bool (by rw [HV.out, ← HE.out]), HB1.out⟩
      · have HV := Lib.hid (show outOk top st t = false by unfold outOk; rw [if_neg (by rw [HQ.out]; simp), if_neg h35, if_pos h2])
        have hI : (decide (3 ≤ st) && decide (st ≤ 5)) = false := by
          cases hd : (decide (3 ≤ st) && decide (st ≤ 5)) with
          | false => rfl
          | true => simp at hd; exact absurd hd h35
        rw [hI] at HI
        clear hI h35 h2
        go_enter Tryz.func48, Tryz.ntmps48
        go_wp2_with (first | (go_at_call 15; (with_reducible refine (HT.out _ (bel_alloc (Below.refl _ _) _)).mono ?_); rintro e w1 ⟨rfl, hb⟩; obtain ⟨c0, c1, hb1⟩ := HBX.out _ hb; have HB1 := Lib.hid hb1; clear hb hb1) | (go_at_call 18; (with_reducible refine (HI.out _).mono ?_); rintro e w2 ⟨rfl, rfl⟩))
        go_ret
        exact ⟨ret_bool HV.out.symm, HB1.out⟩
end Go.Proofs.YtdoggcfdfkkedaaGreatDoor
namespace Go.Proofs.YtdoggcfdfkkedaaGreatDoor
set_option linter.unusedVariables false
def belowV (n : Int) (t : Trm) : Bool := t.all (fun c => !(c.k == 1 && decide (n ≤ c.n)))
def small (c : Cell) : Bool := !(c.k == 1 && decide (8 ≤ c.n))
def inCl (t : Trm) : Bool := trmOk t && decide (t.length ≤ 12) && t.all small
def goalOk (k : Int) (a b c : Trm) : Bool :=
  if k = 1 then inCl a && calls a && ((b.length : Int) + (c.length : Int) == 0)
  else if k = 3 then ((a.length : Int) + (b.length : Int) + (c.length : Int) == 0)
  else if k = 2 ∨ k = 4 then inCl a && inCl b && ((c.length : Int) == 0)
  else if k = 5 then inCl a && inCl b && inCl c else false
def termV (n : Int) (t : Trm) : Bool := trmOk t && belowV n t
structure Goal where
  k : Int
  a : Trm
  b : Trm
  c : Trm
structure SGoal where
  g : Goal
  cut : Int
structure Clause where
  head : Trm
  body : List Goal
structure Place where
  name : ByteArray
  n : Int
  node : Int
structure Prog where
  cl : List Clause
  pl : List Place
structure TCh where
  goals : List SGoal
  mark : Int
  vars : Int
  call : Trm
  next : Int
  far : Int
structure TSt where
  st : Int
  goals : List SGoal
  binds : Binds
  vars : Int
  ch : List TCh
  top : Trm
  out : Trm
def shapeOk (ok : Trm → Bool) (k : Int) (a b c : Trm) : Bool :=
  if k = 1 ∨ k = 6 then ok a && calls a && ((b.length : Int) + (c.length : Int) == 0)
  else if k = 3 then ((a.length : Int) + (b.length : Int) + (c.length : Int) == 0)
  else if k = 2 ∨ k = 4 then ok a && ok b && ((c.length : Int) == 0)
  else if k = 5 then ok a && ok b && ok c else false
def clauseOk (c : Clause) : Bool := inCl c.head && calls c.head && decide (c.body.length ≤ 4) && c.body.all (fun g => goalOk g.k g.a g.b g.c)
def inR (n a b : Int) : Bool := decide (a ≤ n) && decide (n ≤ b)
def placeOk (x : Place) : Bool := nameOk x.name && inR x.n 0 3 && inR x.node 1 2
def samePl (x y : Place) : Bool := decide (x.name = y.name) && decide (x.n = y.n)
def placesOk : List Place → List Place → Bool
  | _, [] => true
  | ahead, x :: xs => placeOk x && !ahead.any (samePl x) && placesOk (ahead ++ [x]) xs
def prgOk (p : Prog) : Bool := decide (p.cl.length ≤ 12) && decide (p.pl.length ≤ 6) && p.cl.all clauseOk && placesOk [] p.pl
def headC (t : Trm) : Cell := t.headD ⟨0, 0, ByteArray.empty⟩
def nodeOf (p : Prog) (t : Trm) : Int := ((p.pl.find? (fun x => decide (x.name = (headC t).s) && decide (x.n = (headC t).n))).map (·.node)).getD 0
def sgOk (vars n : Int) (g : SGoal) : Bool := inR g.cut 0 n && (decide (g.g.k = 3) || decide (g.cut = 0)) && shapeOk (termV vars) g.g.k g.g.a g.g.b g.g.c
def bindsBelow (s : Binds) (n : Int) : Bool := s.all (fun b => decide (b.1 < n) && belowV n b.2)
open Classical in
noncomputable def subOk (s : Binds) : Bool := decide (SubOk' s)
def nearOk (p : Prog) (c : TCh) : Bool := inR c.next 0 ((p.cl.length : Int) - 1) && (match p.cl[c.next.toNat]? with | some x => decide (headC x.head = headC c.call) | none => false)
def farOk (p : Prog) (node : Int) (c : TCh) : Bool := decide (node ≠ -1) && inR c.far 1 12000 && decide (c.next = 0) && decide (nodeOf p c.call ≠ node)
def chOne (p : Prog) (node : Int) (binds : Binds) (vars : Int) (m v : Int) (i : Nat) (c : TCh) : Bool :=
  inR c.mark m binds.length && inR c.vars v vars && bindsBelow (binds.take c.mark.toNat) c.vars && c.goals.all (sgOk c.vars i) && (trmOk c.call && calls c.call) && belowV c.vars c.call && (if c.far = 0 then nearOk p c else farOk p node c)
def chAll (p : Prog) (node : Int) (binds : Binds) (vars : Int) : Int → Int → Nat → List TCh → Bool
  | _, _, _, [] => true
  | m, v, i, c :: cs => chOne p node binds vars m v i c && chAll p node binds vars c.mark c.vars (i + 1) cs
def nothing (s : TSt) : Bool := s.goals.isEmpty && s.binds.isEmpty && s.ch.isEmpty && s.out.isEmpty && decide (s.vars = 0)
noncomputable def fineOk (goals : List SGoal) (binds : Binds) (vars : Int) (n : Int) : Bool := inR vars 0 99999 && subOk binds && goals.all (sgOk vars n) && bindsBelow binds vars
def waitsOk (s : TSt) : Bool := s.goals.isEmpty && s.out.isEmpty && (match s.ch.getLast? with | some c => decide (0 < c.far) && decide (c.mark = s.binds.length) && decide (c.vars = s.vars) | none => false)
noncomputable def ansOk (s : TSt) : Bool := s.goals.isEmpty && decide ((flat s.binds s.top).length ≤ 40) && decide (s.out = canon (flat s.binds s.top))
noncomputable def statOk (s : TSt) : Bool := if s.st = 1 then s.out.isEmpty else if s.st = 2 then ansOk s else if s.st = 6 then waitsOk s else false
noncomputable def liveOk (p : Prog) (node : Int) (s : TSt) : Bool := fineOk s.goals s.binds s.vars s.ch.length && belowV s.vars s.top && chAll p node s.binds s.vars 0 0 0 s.ch
noncomputable def tOk (p : Prog) (node : Int) (s : TSt) : Bool :=
  (prgOk p && inR node (-1) 2 && isQ s.top) && (if 3 ≤ s.st ∧ s.st ≤ 5 then nothing s else liveOk p node s && statOk s)
def exitG (call : Trm) : SGoal := ⟨⟨6, call, [], []⟩, 0⟩
def shiftG (n : Int) (cut : Int) (g : Goal) : SGoal := ⟨⟨g.k, shift g.a n, shift g.b n, shift g.c n⟩, if g.k = 3 then cut else 0⟩
def behind (c : Clause) (n : Int) (cut : Int) (call : Trm) (rest : List SGoal) : List SGoal := c.body.map (shiftG n cut) ++ [exitG call] ++ rest
end Go.Proofs.YtdoggcfdfkkedaaGreatDoor
namespace Go.Proofs.YtdoggcfdfkkedaaGreatDoor
set_option linter.unusedVariables false
theorem getB_nod {s : Binds} (h : (s.map (·.1)).Nodup) {b : Int × Trm} (hb : b ∈ s) : getB s b.1 = some b.2 := by
  induction s with
  | nil => cases hb
  | cons a s ih =>
    rw [List.map_cons, List.nodup_cons] at h
    unfold getB
    rw [List.find?_cons]
    rcases List.mem_cons.1 hb with rfl | hb
    · simp
    · have : a.1 ≠ b.1 := fun e => h.1 (e ▸ List.mem_map.2 ⟨b, hb, rfl⟩)
      simp only [this, decide_false]
      exact ih h.2 hb
theorem Rch_pre {s : Binds} (hn : (s.map (·.1)).Nodup) {k : Nat} {t : Trm} {v : Int} (h : Rch (s.take k) t v) : Rch s t v := by
  induction h with
  | here hv => exact .here hv
  | on hv hg _ ih => exact .on hv (getB_nod hn (List.mem_of_mem_take (getB_in hg))) ih
theorem sub_take {s : Binds} (h : SubOk' s) (k : Nat) : SubOk' (s.take k) :=
  ⟨fun b hb => by
    obtain ⟨h1, h2, h3, h4⟩ := h.1 b (List.mem_of_mem_take hb)
    exact ⟨h1, h2, h3, fun hr => h4 (Rch_pre h.2 hr)⟩, by rw [List.map_take]; exact h.2.sublist (List.take_sublist _ _)⟩
theorem calls_iff {t : Trm} : calls t = true ↔ ∃ c r, t = c :: r ∧ c.k = 3 := by
  cases t with
  | nil => simp [calls]
  | cons c r => simp [calls]
theorem inR_iff {n a b : Int} : inR n a b = true ↔ a ≤ n ∧ n ≤ b := by unfold inR; simp
theorem goal_shape (k : Int) (a b c : Trm) : goalOk k a b c = (!decide (k = 6) && shapeOk inCl k a b c) := by
  unfold goalOk shapeOk
  by_cases h1 : k = 1
  · subst h1; simp
  · by_cases h6 : k = 6
    · subst h6; simp
    · rw [if_neg h1, if_neg (show ¬ (k = 1 ∨ k = 6) by omega)]
      simp only [h6, decide_false, Bool.not_false, Bool.true_and]
end Go.Proofs.YtdoggcfdfkkedaaGreatDoor
namespace Go.Proofs.YtdoggcfdfkkedaaGreatDoor
set_option linter.unusedVariables false
def cutsOk : Int → List SGoal → Bool
  | _, [] => true
  | n, g :: gs => if g.g.k = 3 then decide (g.cut ≤ n) && cutsOk g.cut gs else cutsOk n gs
section
variable {p : Prog} {node : Int} {B : Binds} {V : Int}
structure ChOne (p : Prog) (node : Int) (B : Binds) (V m v : Int) (i : Nat) (c : TCh) : Prop where
  mr : m ≤ c.mark ∧ c.mark ≤ B.length
  vr : v ≤ c.vars ∧ c.vars ≤ V
  bb : bindsBelow (B.take c.mark.toNat) c.vars = true
  gs : c.goals.all (sgOk c.vars i) = true
  tm : trmOk c.call = true
  cl : calls c.call = true
  bl : belowV c.vars c.call = true
  nf : (if c.far = 0 then nearOk p c else farOk p node c) = true
theorem chOne_iff {m v : Int} {i : Nat} {c : TCh} : chOne p node B V m v i c = true ↔ ChOne p node B V m v i c := by
  unfold chOne
  simp only [Bool.and_eq_true, inR_iff]
  constructor
  · rintro ⟨⟨⟨⟨⟨⟨h1, h2⟩, h3⟩, h4⟩, h5, h6⟩, h7⟩, h8⟩
    exact ⟨h1, h2, h3, h4, h5, h6, h7, h8⟩
  · rintro ⟨h1, h2, h3, h4, h5, h6, h7, h8⟩
    exact ⟨⟨⟨⟨⟨⟨h1, h2⟩, h3⟩, h4⟩, h5, h6⟩, h7⟩, h8⟩
end
structure Tinv (q : Bool) (p : Prog) (node : Int) (s : TSt) : Prop where
  prg : prgOk p = true
  nd : inR node (-1) 2 = true
  top : isQ s.top = true
  v : 0 ≤ s.vars ∧ s.vars ≤ 99999
  sub : SubOk' s.binds
  bb : bindsBelow s.binds s.vars = true
  ch : chAll p node s.binds s.vars 0 0 0 s.ch = true
  tv : q = true → belowV s.vars s.top = true
  ex : q = true → ∀ (i : Nat) (c : TCh), s.ch[i]? = some c → cutsOk i c.goals = true ∧ belowV c.vars s.top = true
def goalsOk (q : Bool) (v n : Int) (gs : List SGoal) : Prop := gs.all (sgOk v n) = true ∧ (q = true → cutsOk n gs = true)
def Tok (q : Bool) (p : Prog) (node : Int) (s : TSt) : Prop := (3 ≤ s.st ∧ s.st ≤ 5 ∧ nothing s = true ∧ isQ s.top = true) ∨ (Tinv q p node s ∧ goalsOk q s.vars s.ch.length s.goals ∧ statOk s = true)
section
variable {q : Bool} {p : Prog} {node : Int} {s s' : TSt}
theorem cl_at (h : prgOk p = true) {x : Clause} (hx : x ∈ p.cl) : inCl x.head = true ∧ calls x.head = true ∧ x.body.length ≤ 4 ∧ ∀ g ∈ x.body, goalOk g.k g.a g.b g.c = true := by
  unfold prgOk at h
  simp only [Bool.and_eq_true] at h
  have := List.all_eq_true.1 h.1.2 x hx
  unfold clauseOk at this
  simp only [Bool.and_eq_true, decide_eq_true_eq] at this
  exact ⟨this.1.1.1, this.1.1.2, this.1.2, List.all_eq_true.1 this.2⟩
end
end Go.Proofs.YtdoggcfdfkkedaaGreatDoor
namespace Go.Proofs.YtdoggcfdfkkedaaGreatDoor
set_option linter.unusedVariables false
theorem nil_of_empty {α : Type} {l : List α} (h : l.isEmpty = true) : l = [] := by cases l with
  | nil => rfl
  | cons _ _ => cases h
section
variable {q : Bool} {p : Prog} {node : Int} {s s' : TSt}
end
theorem subOk_iff {s : Binds} : subOk s = true ↔ SubOk' s := by classical exact decide_eq_true_iff
theorem tOk_tok {p : Prog} {node : Int} {s : TSt} (h : tOk p node s = true) : prgOk p = true ∧ inR node (-1) 2 = true ∧ isQ s.top = true ∧ Tok false p node s := by
  unfold tOk at h
  simp only [Bool.and_eq_true] at h
  obtain ⟨⟨⟨h1, h2⟩, h3⟩, h4⟩ := h
  refine ⟨h1, h2, h3, ?_⟩
  split at h4
  · rename_i hs
    exact .inl ⟨hs.1, hs.2, h4, h3⟩
  · simp only [liveOk, fineOk, Bool.and_eq_true, inR_iff] at h4
    obtain ⟨⟨⟨⟨⟨⟨hv, hsub⟩, hg⟩, hbb⟩, htv⟩, hch⟩, hst⟩ := h4
    have hsub : SubOk' s.binds := subOk_iff.1 hsub
    exact .inr ⟨⟨h1, h2, h3, hv, hsub, hbb, hch, fun hq => (by cases hq), fun hq => (by cases hq)⟩, ⟨hg, fun hq => (by cases hq)⟩, hst⟩
end Go.Proofs.YtdoggcfdfkkedaaGreatDoor
