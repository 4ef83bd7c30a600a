/- Contracts: the program's sameness of terms; what it takes for a question. -/
import Derived.Test.YtjnangiggnmkoaaGreatDoorImQ
namespace Go.Proofs.YtjnangiggnmkoaaGreatDoor
open Go.RowKit
set_option maxRecDepth 100000
set_option maxHeartbeats 2000000
set_option linter.unusedVariables false
theorem equalI_c (t u : Trm) (A B : Option Addr) (c d : Nat) (w : World) (h : Kd.cell.C 47 w A t) (h' : Kd.cell.C 47 w B u) (hl : t.length ≤ 1000000000) (hl' : u.length ≤ 1000000000) :
    Calls Tryz.prog 68 #[.slice A t.length c, .slice B u.length d] w fun e w' => e = .returned (.bool (decide (t = u))) ∧ Below w.heap.size w w' := by
  by_cases hlen : t.length = u.length
  · have H := Lib.hid h
    have H' := Lib.hid h'
    have HL := Lib.hid hlen
    clear h h'
    rw [← hlen]
    clear hlen hl'
    go_enter Tryz.func68, Tryz.ntmps68
    go_wp2
    go_loopw [13] (fun v5 wr => ∃ k : Nat, v5 = .int .i64 k ∧ k ≤ t.length ∧ Hid (t.take k = u.take k) ∧ Hid (Below w.heap.size w wr)) (fun v5 _ => t.length - (intOf v5).toNat)
    case atStart => exact ⟨0, rfl, Nat.zero_le _, Lib.hid rfl, Lib.hid (Below.refl _ _)⟩
    case round =>
      obtain ⟨k, rfl, hk, HS, HB⟩ := hrel
      by_cases hlt : k < t.length
      · obtain ⟨x, hx⟩ : ∃ x, t[k]? = some x := ⟨_, List.getElem?_eq_getElem hlt⟩
        obtain ⟨y, hy⟩ : ∃ y, u[k]? = some y := ⟨_, List.getElem?_eq_getElem (show k < u.length by rw [← HL.out]; exact hlt)⟩
        obtain ⟨ad, rfl, a1, a2, a3⟩ := cell_at (Kd.C_ext HB.out H.out) hx
        obtain ⟨ad', rfl, b1, b2, b3⟩ := cell_at (Kd.C_ext HB.out H'.out) hy
        by_cases hxy : x = y
        · subst hxy
          have HN := Lib.hid (show t.take (k + 1) = u.take (k + 1) by
            rw [List.take_add_one, List.take_add_one, HS.out, hx, hy])
          clear hx hy
          go_upto_region 6 with fail
          go_quiet (fail)
          go_wp2
          exact ⟨⟨k + 1, by go_num, by omega, HN, Lib.hid (bel_drewN HB.out _)⟩, by simp [intOf]; omega⟩
        · have HV := Lib.hid (show decide (t = u) = false from decide_eq_false (fun e => hxy (by rw [e, hy] at hx; exact (Option.some.inj hx).symm)))
          have hcc := cell_neb hxy
          clear hx hy hxy
          rcases hcc with e2 | ⟨e2, e3⟩ | ⟨e2, e3, e4⟩
          all_goals
            go_upto_region 6 with fail
            go_quiet (fail)
            go_wp2
            go_ret
            exact ⟨ret_bool HV.out.symm, bel_drewN HB.out _⟩
      · have HV := Lib.hid (show decide (t = u) = true from decide_eq_true (by
          have e := HS.out
          rwa [List.take_of_length_le (by omega), List.take_of_length_le (by rw [← HL.out]; omega)] at e))
        go_wp2
        go_ret
        exact ⟨ret_bool HV.out.symm, HB.out⟩
  · have hne : ((t.length : Int) != (u.length : Int)) = true := bne_iff_ne.2 (by omega)
    have HV := Lib.hid (show decide (t = u) = false from decide_eq_false (fun e => hlen (by rw [e])))
    go_enter Tryz.func68, Tryz.ntmps68
    go_wp2
    go_ret
    exact ⟨ret_bool HV.out.symm, Below.refl _ _⟩
theorem sameI_c (t u : Trm) (tv uv : Value) (w : World) (h : Kd.cell.S 47 w tv t) (h' : Kd.cell.S 47 w uv u) (hl : t.length ≤ 1000000000) (hl' : u.length ≤ 1000000000) :
    Calls Tryz.prog 38 #[tv, uv] w fun e w' => e = .returned (.bool (decide (t = u))) ∧ Below w.heap.size w w' := by
  obtain ⟨A, c, rfl, _, _, hC⟩ := h
  obtain ⟨B, d, rfl, _, _, hC'⟩ := h'
  have HE := Lib.hid (equalI_c t u A B c d w hC hC' hl hl')
  obtain ⟨q, hq⟩ : ∃ q, decide (t = u) = q := ⟨_, rfl⟩
  rw [hq] at HE ⊢
  clear hC hC' hq
  go_enter Tryz.func38, Tryz.ntmps38
  go_wp2_with (go_at_call 68; (with_reducible refine HE.out.mono ?_); rintro e w1 ⟨rfl, hb⟩)
  go_ret
  exact ⟨rfl, hb⟩
theorem imOkS_c (t : Trm) (tv : Value) (w : World) (h : Kd.cell.S 47 w tv t) (hl : t.length ≤ 1000000000) (hz : sized t) :
    Calls Tryz.prog 31 #[tv] w fun e w' => e = .returned (.bool (trmOk t)) ∧ Below w.heap.size w w' := by
  obtain ⟨A, c, rfl, _, _, hC⟩ := h
  exact imOk_c t A c w hC hl hz
theorem calledI_c (t : Trm) (tv : Value) (w : World) (h : Kd.cell.S 47 w tv t) (hl : t.length ≤ 1000000000) (hz : sized t) :
    Calls Tryz.prog 67 #[tv] w fun e w' => e = .returned (.bool (trmOk t && calls t)) ∧ Below w.heap.size w w' := by
  have HT := Lib.hid (imOkS_c t tv w h hl hz)
  have H := Lib.hid h
  cases hq : trmOk t with
  | false =>
    rw [hq] at HT
    clear h hq
    go_enter Tryz.func67, Tryz.ntmps67
    go_wp2_with (go_at_call 31; (with_reducible refine HT.out.mono ?_); rintro e w1 ⟨rfl, hb⟩)
    go_ret
    exact ⟨rfl, hb⟩
  | true =>
    rw [hq] at HT
    obtain ⟨x, r, rfl⟩ : ∃ x r, t = x :: r := by
      cases t with
      | nil => simp [trmOk] at hq
      | cons x r => exact ⟨x, r, rfl⟩
    obtain ⟨ad, n, k, rfl, h1, h2, h3, h4⟩ := S_open h
    have HC := Lib.hid (fun W (hb : Below w.heap.size w W) => S_cells (Kd.S_ext hb H.out))
    clear h hq
    by_cases h3 : x.k = 3
    · have e1 : (x.k == 3) = true := beq_iff_eq.2 h3
      have HV := Lib.hid (show calls (x :: r) = true from decide_eq_true h3)
      clear h3
      go_enter Tryz.func67, Tryz.ntmps67
      go_wp2_with (go_at_call 31; (with_reducible refine HT.out.mono ?_); rintro e w1 ⟨rfl, hb⟩; obtain ⟨c1, -, -⟩ := HC.out _ hb)
      go_ret
      exact ⟨ret_bool (by rw [HV.out]; rfl), hb⟩
    · have e1 : (x.k == 3) = false := beq_eq_false_iff_ne.2 h3
      have HV := Lib.hid (show calls (x :: r) = false from decide_eq_false h3)
      clear h3
      go_enter Tryz.func67, Tryz.ntmps67
      go_wp2_with (go_at_call 31; (with_reducible refine HT.out.mono ?_); rintro e w1 ⟨rfl, hb⟩; obtain ⟨c1, -, -⟩ := HC.out _ hb)
      go_ret
      exact ⟨ret_bool (by rw [HV.out]; rfl), hb⟩
theorem isQI_c (t : Trm) (tv : Value) (w : World) (h : Kd.cell.S 47 w tv t) (hl : t.length ≤ 1000000000) (hz : sized t) :
    Calls Tryz.prog 36 #[tv] w fun e w' => e = .returned (.bool (isQ t)) ∧ Below w.heap.size w w' := by
  have HT := Lib.hid (calledI_c t tv w h hl hz)
  have HC := Lib.hid (fun W hb => canonI_c t tv W (Kd.S_ext (w' := W) hb h) hl)
  have HS := Lib.hid (fun W v hb hv => sameI_c t (canon t) tv v W (Kd.S_ext hb h) hv hl (by rw [canon_len]; exact hl))
  cases hq : (trmOk t && calls t) with
  | false =>
    rw [hq] at HT
    have HV := Lib.hid (show isQ t = false by unfold isQ; rw [hq]; rfl)
    clear h hq
    go_enter Tryz.func36, Tryz.ntmps36
    go_wp2_with (go_at_call 67; (with_reducible refine HT.out.mono ?_); rintro e w1 ⟨rfl, hb⟩)
    go_ret
    exact ⟨ret_bool HV.out.symm, hb⟩
  | true =>
    rw [hq] at HT
    have HV := Lib.hid (show isQ t = decide (t = canon t) by unfold isQ; rw [hq, Bool.true_and]; exact decide_eq_decide.2 ⟨Eq.symm, Eq.symm⟩)
    obtain ⟨q, hq2⟩ : ∃ q, decide (t = canon t) = q := ⟨_, rfl⟩
    rw [hq2] at HS HV
    clear h hq hq2
    go_enter Tryz.func36, Tryz.ntmps36
    go_wp2_with (first | (go_at_call 67; (with_reducible refine HT.out.mono ?_); rintro e w1 ⟨rfl, hb⟩; have HB := Lib.hid hb; clear hb) | (go_at_call 39; (with_reducible refine (HC.out _ HB.out).mono ?_); rintro e w2 ⟨v, rfl, ho, hb2⟩; have HO := Lib.hid (Kd.O_read ho); have HB2 := Lib.hid (bel_trans HB.out hb2); clear ho hb2) | (go_at_call 38; (with_reducible refine (HS.out _ _ HB2.out HO.out).mono ?_); rintro e w3 ⟨rfl, hb3⟩))
    go_ret
    exact ⟨ret_bool HV.out.symm, bel_trans HB2.out hb3⟩
end Go.Proofs.YtjnangiggnmkoaaGreatDoor
