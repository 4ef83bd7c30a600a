/- Contracts: the reference's arguments of a term, what a term leads to, how a variable is bound. -/
import Derived.Test.YtjnangiggnmkoaaGreatDoorCUniS
import Derived.Test.YtjnangiggnmkoaaGreatDoorUni4
namespace Go.Proofs.YtjnangiggnmkoaaGreatDoor
open Go.RowKit
set_option maxRecDepth 100000
set_option maxHeartbeats 1000000
set_option linter.unusedVariables false
theorem endAt_arg {c : Cell} {r : Trm} (h : trmOk (c :: r) = true) {k : Nat} {x : Trm} (hx : (argsOf (ar c).toNat r)[k]? = some x) : endAt (c :: r) (argAt c r k) = ((argAt c r (k + 1) : Nat) : Int) := by
  obtain ⟨h1, h2, h3, h4⟩ := arg_split h hx
  unfold endAt
  rw [h1, skip_pre _ h2, h3]
theorem arg_c (c0 : Cell) (r : Trm) (x : Trm) (k : Nat) (tv : Value) (w : World) (ht : Kd.cell.S 47 w tv (c0 :: r)) (hok : trmOk (c0 :: r) = true) (hx : (argsOf (ar c0).toNat r)[k]? = some x) :
    Calls Tryz.prog 57 #[tv, .int .i64 k] w fun e w' => ∃ v, e = .returned v ∧ Kd.cell.O 47 w' w.heap.size v x ∧ Below w.heap.size w w' := by
  obtain ⟨B, cB, rfl, b1, b2, hC⟩ := ht
  have hlt : k < (ar c0).toNat := by have := (List.getElem?_eq_some_iff.1 hx).1; rwa [argsOf_len] at this
  have hk3 : c0.k = 3 := by
    apply Classical.byContradiction; intro hk
    have : (ar c0).toNat = 0 := by unfold ar; rw [if_neg hk]; rfl
    omega
  have har : ar c0 = c0.n := by unfold ar; rw [if_pos hk3]
  have hall := (trmOk_iff.1 hok).2.2
  have hr := ar_of_ok (List.all_eq_true.1 hall c0 List.mem_cons_self)
  have h40 := (trmOk_iff.1 hok).2.1
  obtain ⟨ad, rfl, a1, a2, a3⟩ := cell_hd hC
  have e3 : (c0.k != 3) = false := by rw [hk3]; rfl
  have hkn : (k : Int) < c0.n := by omega
  have HE := Lib.hid (fun j (hj : j ≤ k) W (hb : Below w.heap.size w W) => end_c (c0 :: r) (some ad) cB (argAt c0 r j) W (Kd.C_ext hb hC) hall (by omega) (by
    obtain ⟨y, hy⟩ : ∃ y, (argsOf (ar c0).toNat r)[j]? = some y := ⟨_, List.getElem?_eq_getElem (by rw [argsOf_len]; omega)⟩
    have := arg_split hok hy
    omega))
  have HA := Lib.hid (fun j (hj : j ≤ k) => (by
    obtain ⟨y, hy⟩ : ∃ y, (argsOf (ar c0).toNat r)[j]? = some y := ⟨_, List.getElem?_eq_getElem (by rw [argsOf_len]; omega)⟩
    exact endAt_arg hok hy : endAt (c0 :: r) (argAt c0 r j) = ((argAt c0 r (j + 1) : Nat) : Int)))
  have HC := Lib.hid hC
  have HS := Lib.hid (arg_split hok hx)
  have hle := (arg_split hok hx).2.2
  have hz := argAt_zero c0 r
  have HZ := Lib.hid hz
  have hn : (0 : Int) < ((c0 :: r).length : Int) := by rw [List.length_cons]; omega
  have hb40 : ∀ j, argAt c0 r j = argAt c0 r j := fun _ => rfl
  clear hall hC hx hok hz hb40
  obtain ⟨m, hm⟩ : ∃ m, (c0 :: r).length = m := ⟨_, rfl⟩
  have HM := Lib.hid hm
  have HSv := Lib.hid (show Kd.cell.S 47 w (.slice (some ad) m cB) (c0 :: r) from ⟨some ad, cB, by rw [hm], by rw [hm]; rwa [hm] at b1, b2, HC.out⟩)
  rw [hm] at hn b1 hle HE h40 ⊢
  have hle1 : argAt c0 r k + x.length ≤ m := by omega
  have hk3' : k ≤ 3 := by omega
  have HL := Lib.hid hle.1
  clear hm hle har hr
  go_enter Tryz.func57, Tryz.ntmps57
  go_wp2
  go_loopw [5, 6] (fun v5 v6 wr => ∃ j : Nat, v6 = .int .i64 j ∧ j ≤ k ∧ v5 = .int .i64 (argAt c0 r j) ∧ Hid (Below w.heap.size w wr)) (fun _ v6 _ => k - (intOf v6).toNat)
  case atStart => exact ⟨0, rfl, Nat.zero_le _, by rw [HZ.out]; rfl, Lib.hid (by first | exact Below.refl _ _ | exact bel_drewN (Below.refl _ _) _)⟩
  case round =>
    obtain ⟨j, rfl, hj, rfl, HB⟩ := hrel
    by_cases hlt : j < k
    · have HE1 := Lib.hid (HE.out j hj)
      rw [HA.out j hj] at HE1
      go_wp2_with (go_at_call 52; refine (HE1.out _ HB.out).mono ?_; rintro e w1 ⟨rfl, rfl⟩)
      exact ⟨⟨j + 1, by go_num, by omega, rfl, HB⟩, by simp [intOf]; omega⟩
    · obtain rfl : j = k := by omega
      have HE1 := Lib.hid (HE.out j hj)
      rw [HA.out j hj] at HE1
      go_wp2_with (first | (go_at_call 52; refine (HE1.out _ (bel_alloc HB.out _)).mono ?_; rintro e w1 ⟨rfl, rfl⟩) | (refine wp_sub_lh AppI.cell rfl rfl (Kd.S_alloc _ (Kd.S_ext HB.out HSv.out)) rfl rfl rfl (by omega) (by have := HL.out; omega) (by rw [HM.out]; have := HL.out; omega) ?_; intro v' hv'; have HV' := Lib.hid hv'; clear hv') | (at_builtin; refine wp_app AppI.cell rfl rfl (Kd.O_empty Kd.cell _ wr HB.out.size) rfl HV'.out rfl ?c1 ?c2 ?_; (case c1 => rw [List.length_take, List.length_nil]; have := HL.out; omega); (case c2 => simp; have := HB.out.size; omega); intro v' w' hg; have HG := Lib.hid hg; clear hg))
      go_ret
      refine ⟨_, rfl, ?_, HG.out.below (bel_alloc HB.out _) (Kd.O_empty Kd.cell _ wr HB.out.size)⟩
      have := HG.out.own
      obtain ⟨s1, s2, s3, s4⟩ := HS.out
      rw [List.nil_append, Int.toNat_natCast, Int.toNat_natCast, s1, s3, show argAt c0 r j + x.length - argAt c0 r j = x.length by omega, List.take_left'] at this
      · exact this
      · rfl
theorem leads_c (V : List Int) (s : Binds) (A : Option Addr) (c : Nat) (t : Trm) (tv : Value) (w : World) (h : Kd.bind.C 115 w A s) (hl : s.length ≤ 1000000000) (ht : Kd.cell.S 47 w tv t)
    (hV : VarsIn s V) (hVt : ∀ x ∈ vars t, x ∈ V) (hVl : V.length ≤ 1000000) (htl : t.length ≤ 1000000000) (hsl : ∀ v u, getB s v = some u → u.length ≤ 1000000000) :
    Calls Tryz.prog 85 #[.slice A s.length c, tv] w fun e w' => ∃ v L, e = .returned v ∧ (Kd.int .i64).O 3 w' w.heap.size v L ∧ (∀ x, x ∈ L ↔ Rch s t x) ∧ L.length ≤ 1000000 ∧ Below w.heap.size w w' := by
  obtain ⟨B, cB, rfl, b1, b2, hC⟩ := ht
  have HF := Lib.hid (free_c t B cB w hC htl)
  have H := Lib.hid h
  have HVs := Lib.hid (fun k D (h : LInv s t k D) => h.len hV hVt)
  have HSL := Lib.hid hsl
  have HG := Lib.hid (fun (x : Int) W hb => get_c s A c x W (Kd.C_ext (w' := W) hb h) hl)
  clear h hC hV hVt hsl hl
  go_enter Tryz.func85, Tryz.ntmps85
  go_wp2_with (go_at_call 53; refine HF.out.mono ?_; rintro e w1 ⟨v, rfl, hO, hb⟩; have HO := Lib.hid hO; have HB := Lib.hid hb; clear hO hb)
  go_loopw [5, 6] (fun v5 v6 wr => ∃ (k : Nat) (D : List Int), v6 = .int .i64 k ∧ k ≤ D.length ∧ D.length ≤ 1000000 ∧ Hid (LInv s t k D) ∧ Hid ((Kd.int .i64).O 3 wr w.heap.size v5 D) ∧ Hid (Below w.heap.size w wr)) (fun _ v6 _ => 1000000 + 1 - (intOf v6).toNat)
  case atStart => exact ⟨0, free t, rfl, Nat.zero_le _, Nat.le_trans (HVs.out _ _ (LInv.start s t)) hVl, Lib.hid (LInv.start s t), HO, HB⟩
  case round =>
    obtain ⟨k, D, rfl, hk, hD, HI, HOD, HBr⟩ := hrel
    obtain ⟨DB, cD, rfl, d1, d2, hCD⟩ := Kd.O_read HOD.out
    by_cases hlt : k < D.length
    · obtain ⟨x, hx⟩ : ∃ x, D[k]? = some x := ⟨_, List.getElem?_eq_getElem hlt⟩
      obtain ⟨ad, rfl, a1⟩ := int_at hCD hx
      have HX := Lib.hid hx
      have HG1 := Lib.hid (HG.out x)
      have HlenU := Lib.hid (show ((getB s x).getD []).length ≤ 1000000000 by
        cases hg : getB s x with
        | none => simp
        | some u => exact HSL.out _ _ hg)
      clear hx hCD
      go_wp2_with (first | (go_at_call 84; refine (HG1.out _ HBr.out).mono ?_; rintro e w2 ⟨rv, rfl, ⟨UB, cU, rfl, u1, u2, hCU⟩, hb2⟩; have HB2 := Lib.hid hb2; have HF2 := Lib.hid (free_c _ UB cU w2 hCU HlenU.out); clear hb2 hCU) | (go_at_call 53; refine HF2.out.mono ?_; rintro e w3 ⟨mv, rfl, hO3, hb3⟩; have HO3 := Lib.hid hO3; have HB3 := Lib.hid hb3; clear hO3 hb3))
      obtain ⟨M, hM⟩ : ∃ M, free ((getB s x).getD []) = M := ⟨_, rfl⟩
      have HMv := Lib.hid hM
      rw [hM] at HO3
      have hMl : M.length ≤ 1000000000 := by rw [← hM]; exact Nat.le_trans (free_len _) HlenU.out
      clear hM
      obtain ⟨MB, cM, rfl, m1, m2, hCM⟩ := Kd.O_read HO3.out
      clear hCM
      have HBD := Lib.hid (bel_trans HB2.out HB3.out)
      have HOD3 := Lib.hid (Kd.O_ext HBD.out HOD.out)
      go_loopw [5, 8] (fun v5 v8 wi => ∃ (j : Nat) (E : List Int), v8 = .int .i64 j ∧ j ≤ M.length ∧ k < E.length ∧ E.length ≤ 1000000 ∧ Hid (E[k]? = some x) ∧ Hid (LInv s t k E) ∧ Hid (∀ y ∈ M.take j, y ∈ E) ∧ Hid ((Kd.int .i64).O 3 wi w.heap.size v5 E) ∧ Hid ((Kd.int .i64).O 3 wi w2.heap.size (.slice MB M.length cM) M) ∧ Hid (∀ b, (Value.slice MB M.length cM).ownBlock = some b → v5.ownBlock ≠ some b) ∧ Hid (Below w.heap.size w wi)) (fun _ v8 _ => M.length - (intOf v8).toNat)
      case atStart => exact ⟨0, D, rfl, Nat.zero_le _, hlt, hD, HX, HI, Lib.hid (fun y hy => by simp at hy), HOD3, HO3, Lib.hid (fun b hb e => by
          have h1 := (Kd.O_lt HO3.out b hb).1
          have h2 := (Kd.O_lt HOD.out b e).2
          have := HB2.out.size; omega), Lib.hid (bel_trans HBr.out HBD.out)⟩
      case round =>
        obtain ⟨j, E, rfl, hj, hkE, hE, HEk, HIE, HME, HOE, HOM, HNE, HBi⟩ := hrel
        obtain ⟨EB, cE, rfl, e1, e2, hCE⟩ := Kd.O_read HOE.out
        by_cases hjl : j < M.length
        · obtain ⟨y, hy⟩ : ∃ y, M[j]? = some y := ⟨_, List.getElem?_eq_getElem hjl⟩
          obtain ⟨adM, hadM, aM⟩ := int_at (by obtain ⟨A', c', ev, _, _, hc⟩ := Kd.O_read HOM.out; injection ev with e1 e2 e3; subst e1; exact hc : (Kd.int .i64).C 3 _ MB M) hy
          have HMB := Lib.hid hadM
          have HH := Lib.hid (has_c E EB cE y wr hCE (by omega))
          have hlb := Lib.hid (show ∀ z ∈ M.take (j + 1), z ∈ E ∨ z = y from fun z hz => by
            rw [List.take_succ_eq_append_getElem hjl, (List.getElem?_eq_some_iff.1 hy).2] at hz
            rcases List.mem_append.1 hz with hz | hz
            · exact .inl (HME.out z hz)
            · simp at hz; exact .inr hz)
          have HR := Lib.hid (HIE.out.rch' HEk.out (y := y) (by rw [HMv.out]; exact List.mem_of_getElem? hy))
          clear hy hCE
          subst hadM
          by_cases hm : y ∈ E
          · have HN := Lib.hid (show ∀ z ∈ M.take (j + 1), z ∈ E from fun z hz => (hlb.out z hz).elim id (fun e => by rw [e]; exact hm))
            rw [decide_eq_true hm] at HH
            clear hm
            go_wp2_with (go_at_call 83; refine HH.out.mono ?_; rintro e w4 ⟨rfl, rfl⟩)
            exact ⟨⟨j + 1, E, by go_num, by omega, hkE, hE, HEk, HIE, HN, HOE, HOM, HNE, HBi⟩, by simp [intOf]; omega⟩
          · have HI2 := Lib.hid (HIE.out.add (by omega) hm HR.out)
            have hE2 := Lib.hid (Nat.le_trans (HVs.out _ _ HI2.out) hVl)
            have HN := Lib.hid (show ∀ z ∈ M.take (j + 1), z ∈ E ++ [y] from fun z hz => (hlb.out z hz).elim (List.mem_append_left _) (fun e => by rw [e]; simp))
            rw [decide_eq_false hm] at HH
            clear hm
            go_wp2_with (first | (go_at_call 83; refine HH.out.mono ?_; rintro e w4 ⟨rfl, rfl⟩) | (at_builtin; refine wp_app AppI.int rfl rfl (Kd.O_alloc _ HOE.out) rfl (Kd.S_lit (Kd.int .i64) _ (x := y) (cs := [.int .i64 y]) rfl rfl) rfl ?c1 ?c2 ?_; (case c1 => simp; omega); (case c2 => simp; have := HBi.out.size; omega); intro v' w' hg; have HGr := Lib.hid hg; clear hg))
            exact ⟨⟨j + 1, E ++ [y], by go_num, by omega, by simp; omega, hE2.out, Lib.hid (by rw [List.getElem?_append_left hkE]; exact HEk.out), HI2, HN, Lib.hid HGr.out.own, Lib.hid (HGr.out.O_far (Kd.O_alloc _ HOM.out) HNE.out rfl), Lib.hid (fun b hb e => by
                rcases HGr.out.at' with h | h
                · rw [h] at e; exact HNE.out b hb e
                · rw [h] at e
                  have := (Kd.O_lt HOM.out b hb).2
                  simp at e; omega), Lib.hid (HGr.out.below (bel_alloc HBi.out _) (Kd.O_alloc _ HOE.out))⟩, by simp [intOf]; omega⟩
        · have HNx := Lib.hid (HIE.out.next HEk.out (by rw [HMv.out]; intro y hy; exact HME.out y (by rw [List.take_of_length_le (by omega)]; exact hy)))
          clear hCE
          go_wp2
          exact ⟨⟨k + 1, E, by go_num, by omega, hE, HNx, HOE, HBi⟩, by simp [intOf]; omega⟩
    · have HD := Lib.hid (fun x => HI.out.done (by omega) x)
      clear hCD
      go_wp2
      go_ret
      exact ⟨_, D, rfl, HOD.out, HD.out, hD, HBr.out⟩
theorem bind_no (V : List Int) (b : Nat) (s : Binds) (sv : Value) (v : Int) (t : Trm) (tv : Value) (w : World) (hs : Kd.bind.O 115 w b sv s) (hl : s.length ≤ 1000000) (ht : Kd.cell.S 47 w tv t)
    (hV : VarsIn s V) (hVt : ∀ x ∈ vars t, x ∈ V) (hVl : V.length ≤ 1000000) (htl : t.length ≤ 1000000000) (hsl : ∀ v u, getB s v = some u → u.length ≤ 1000000000) (hb : b ≤ w.heap.size) (hR : Rch s t v) :
    Calls Tryz.prog 56 #[sv, .int .i64 v, tv] w fun e w' => ∃ rv, e = .returned (.tuple #[rv, .bool false]) ∧ Wrote b 115 w w' := by
  obtain ⟨A, c, rfl, c1, c2, hC⟩ := Kd.O_read hs
  have HL := Lib.hid (leads_c V s A c t tv w hC (by omega) ht hV hVt hVl htl hsl)
  have HR := Lib.hid hR
  have HW := Lib.hid hb
  clear hC hs hV hVt hVl htl hsl hb hR ht
  go_enter Tryz.func56, Tryz.ntmps56
  go_wp2_with (first | (go_at_call 85; refine HL.out.mono ?_; rintro e w1 ⟨lv, L, rfl, hO, hm, hll, hb⟩; obtain ⟨LB, cL, rfl, l1, l2, hCL⟩ := Kd.O_read hO; have HB := Lib.hid hb; have HH := Lib.hid (has_c L LB cL v w1 hCL (by omega)); rw [decide_eq_true ((hm v).2 HR.out)] at HH; clear hO hm hb hCL) | (go_at_call 83; refine HH.out.mono ?_; rintro e w2 ⟨rfl, rfl⟩))
  go_ret2
  exact ⟨_, rfl, .of_below HW.out (by first | exact bel_alloc HB.out _ | exact HB.out)⟩
theorem bind_yes (V : List Int) (b : Nat) (s : Binds) (sv : Value) (v : Int) (t : Trm) (tv : Value) (w : World) (hs : Kd.bind.O 115 w b sv s) (hl : s.length ≤ 1000000) (ht : Kd.cell.S 47 w tv t)
    (hV : VarsIn s V) (hVt : ∀ x ∈ vars t, x ∈ V) (hVl : V.length ≤ 1000000) (htl : t.length ≤ 1000000) (hsl : ∀ v u, getB s v = some u → u.length ≤ 1000000000) (hb : b ≤ w.heap.size) (hR : ¬ Rch s t v) :
    Calls Tryz.prog 56 #[sv, .int .i64 v, tv] w fun e w' => ∃ rv, e = .returned (.tuple #[rv, .bool true]) ∧ Kd.bind.O 115 w' b rv (s ++ [(v, t)]) ∧ Wrote b 115 w w' := by
  obtain ⟨A, c, rfl, c1, c2, hC⟩ := Kd.O_read hs
  have HL := Lib.hid (leads_c V s A c t tv w hC (by omega) ht hV hVt hVl (by omega) hsl)
  have HR := Lib.hid hR
  have HW := Lib.hid hb
  have HT := Lib.hid ht
  have HS := Lib.hid hs
  clear hC hs hV hVt hVl hsl hb hR ht
  go_enter Tryz.func56, Tryz.ntmps56
  go_wp2_with (first | (go_at_call 85; refine HL.out.mono ?_; rintro e w1 ⟨lv, L, rfl, hO, hm, hll, hb⟩; obtain ⟨LB, cL, rfl, l1, l2, hCL⟩ := Kd.O_read hO; have HB := Lib.hid hb; have HH := Lib.hid (has_c L LB cL v w1 hCL (by omega)); rw [decide_eq_false (fun h => HR.out ((hm v).1 h))] at HH; clear hO hm hb hCL) | (go_at_call 83; refine HH.out.mono ?_; rintro e w2 ⟨rfl, rfl⟩)
                              | (at_builtin; refine wp_app AppI.cell rfl rfl (Kd.O_empty Kd.cell _ w1 (Nat.le_refl _)) rfl (Kd.S_ext (bel_alloc HB.out _) HT.out) rfl ?c1 ?c2 ?_; (case c1 => simp; omega); (case c2 => simp); intro v1 w2 hg; have HB2 := Lib.hid (hg.below (bel_alloc (Below.refl _ w1) _) (Kd.O_empty Kd.cell _ w1 (Nat.le_refl _))); have HO2 := Lib.hid (Kd.O_ext (bel_trans HB.out HB2.out) HS.out); have hown := hg.own; rw [List.nil_append] at hown; clear hg; obtain ⟨VB, cV, rfl, q1, q2, hVC⟩ := Kd.O_read hown; have HVC := Lib.hid hVC; clear hVC hown)
                              | (at_builtin; refine wp_app AppI.bind rfl rfl (Kd.O_alloc _ HO2.out) rfl (Kd.S_lit Kd.bind _ (x := (v, t)) (cs := [.int .i64 v, .slice VB t.length cV]) ⟨[.int .i64 v], [.slice VB t.length cV], rfl, rfl, _, rfl, VB, cV, rfl, q1, q2, HVC.out⟩ rfl) rfl ?c3 ?c4 ?_; (case c3 => simp; omega); (case c4 => simp; have h1 := HB.out.size; have h2 := HB2.out.size; have h3 := HW.out; omega); intro v2 w3 hg3; have HG3 := Lib.hid hg3; clear hg3))
  go_ret2
  refine ⟨_, rfl, HG3.out.own, ?_⟩
  have h1 := HB.out.size
  have h2 := HB2.out.size
  have h3 := HW.out
  exact (Wrote.of_below h3 (bel_alloc (bel_trans HB.out HB2.out) _)).trans (.grew HG3.out (Kd.O_alloc _ HO2.out) (by simp; omega))
end Go.Proofs.YtjnangiggnmkoaaGreatDoor
