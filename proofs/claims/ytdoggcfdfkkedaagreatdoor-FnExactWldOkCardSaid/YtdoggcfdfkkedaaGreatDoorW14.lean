/- Lemmas and contracts for FnExactWldOk, part 14. -/
import Derived.Test.YtdoggcfdfkkedaaGreatDoorW09
import Derived.Test.YtdoggcfdfkkedaaGreatDoorW11
import Derived.Test.YtdoggcfdfkkedaaGreatDoorW08
import Derived.Test.YtdoggcfdfkkedaaGreatDoorW03
namespace Go.Proofs.YtdoggcfdfkkedaaGreatDoor
set_option linter.unusedVariables false
def fitT (t : Trm) : Prop := t.length ≤ 4000000 ∧ ∀ c ∈ t, c.s.size ≤ 9223372036854775807
def fitG (g : Goal) : Prop := fitT g.a ∧ fitT g.b ∧ fitT g.c
def fitC (c : Clause) : Prop := fitT c.head ∧ c.body.length ≤ 4000000 ∧ ∀ g ∈ c.body, fitG g
def fitP (p : Prog) : Prop := p.cl.length ≤ 4000000 ∧ (∀ c ∈ p.cl, fitC c) ∧ p.pl.length ≤ 4000000 ∧ ∀ x ∈ p.pl, x.name.size ≤ 9223372036854775807
def fitGs (gs : List SGoal) : Prop := gs.length ≤ 4000000 ∧ ∀ g ∈ gs, fitG g.g
def fitB (s : Binds) : Prop := s.length ≤ 4000000 ∧ (s.map (fun b => b.2.length)).sum ≤ 4000000 ∧ ∀ b ∈ s, fitT b.2
def fitCh (c : TCh) : Prop := fitGs c.goals ∧ fitT c.call
def fitS (s : TSt) : Prop := fitGs s.goals ∧ fitB s.binds ∧ (s.ch.length ≤ 4000000 ∧ ∀ c ∈ s.ch, fitCh c) ∧ fitT s.top ∧ fitT s.out
theorem fit_len {t : Trm} (h : fitT t) : t.length ≤ 1000000000 := Nat.le_trans h.1 (by decide)
end Go.Proofs.YtdoggcfdfkkedaaGreatDoor
namespace Go.Proofs.YtdoggcfdfkkedaaGreatDoor
open Go.RowKit
set_option maxRecDepth 100000
set_option maxHeartbeats 4000000
set_option linter.unusedVariables false
def fitOs (os : List SOut) : Prop := os.length ≤ 4000000 ∧ ∀ o ∈ os, fitT o.2
theorem drop_one {α : Type} {xs : List α} {k : Nat} {x : α} (h : xs[k]? = some x) : xs.drop k = x :: xs.drop (k + 1) := by
  obtain ⟨hl, hx⟩ := List.getElem?_eq_some_iff.1 h
  rw [List.drop_eq_getElem_cons hl, hx]
theorem outsAll_step {top : Trm} {os : List SOut} {k : Nat} {o : SOut} (h : os[k]? = some o) :
    outsAll top (os.drop k) = (outOk top o.1 o.2 && (!decide ((k : Int) < (os.length : Int) - 1) || decide (o.1 = 2)) && outsAll top (os.drop (k + 1))) := by
  have hk := (List.getElem?_eq_some_iff.1 h).1
  rw [drop_one h]
  have e : (os.drop (k + 1)).isEmpty = !decide ((k : Int) < (os.length : Int) - 1) := by
    by_cases hl : k + 1 < os.length
    · rw [decide_eq_true (by omega)]
      cases hd : os.drop (k + 1) with
      | nil => have := congrArg List.length hd; rw [List.length_drop] at this; simp at this; omega
      | cons a b => rfl
    · rw [decide_eq_false (by omega), List.drop_of_length_le (by omega)]; rfl
  show (outOk top o.1 o.2 && ((os.drop (k + 1)).isEmpty || decide (o.1 = 2)) && outsAll top (os.drop (k + 1))) = _
  rw [e]
theorem outsS_c (top : Trm) (os : List SOut) (tv ov : Value) (w : World) (ht : Kd.cell.S 112 w tv top) (ho : Kd.sout.S 99 w ov os) (hlt : top.length ≤ 1000000000) (hf : fitOs os) :
    Calls Tryz.prog 16 #[tv, ov] w fun e w' => e = .returned (.bool (outsAll top os)) ∧ Below w.heap.size w w' := by
  have HT := Lib.hid ht
  have HS := Lib.hid ho
  have hlen := hf.1
  have HF := Lib.hid hf.2
  have H0 := Lib.hid (Below.refl w.heap.size w)
  obtain ⟨A, c, rfl, a1, a2, -⟩ := ho
  obtain ⟨TA, tc, rfl, -, -, -⟩ := ht
  obtain ⟨Z, hZ⟩ : ∃ Z, outsAll top os = Z := ⟨_, rfl⟩
  have HZ0 := Lib.hid (show outsAll top (os.drop 0) = Z from hZ)
  rw [hZ]
  clear hZ hf
  go_enter Tryz.func16, Tryz.ntmps16
  go_wp2
  go_loopw [5] (fun v5 wr => ∃ k : Nat, v5 = .int .i64 k ∧ k ≤ os.length ∧ Hid (outsAll top (os.drop k) = Z) ∧ Hid (Below w.heap.size w wr)) (fun v5 _ => os.length - (intOf v5).toNat)
  case atStart => exact ⟨0, rfl, Nat.zero_le _, HZ0, H0⟩
  case round =>
    obtain ⟨k, rfl, hk, HRr, HBr⟩ := hrel
    by_cases hlt2 : k < os.length
    · obtain ⟨o, hc⟩ : ∃ o, os[k]? = some o := ⟨_, List.getElem?_eq_getElem hlt2⟩
      obtain ⟨A', c', ev, _, _, hC⟩ := HS.out
      injection ev with z1 z2 z3
      obtain ⟨ad, v1, had, x0, x1, h1⟩ := dbind_at hC hc
      have had2 := z1.trans had
      have HX := Lib.hid (fun W hb => outOkS_c top (.slice TA top.length tc) o.1 o.2 v1 W (Kd.S_ext (w := w) hb HT.out) (Kd.S_ext (w := w) hb h1) hlt (fit_len (HF.out o (List.mem_of_getElem? hc))))
      have HST := Lib.hid ((outsAll_step (top := top) hc).symm.trans HRr.out)
      obtain ⟨OA, oc, rfl, -, -, -⟩ := h1
      have x0 := cell_keep HBr.out x0
      have x1 := cell_keep HBr.out x1
      clear z1 z2 z3 had hC hc
      subst had2
      obtain ⟨q1, e1⟩ : ∃ q, outOk top o.1 o.2 = q := ⟨_, rfl⟩
      rw [e1] at HX HST
      clear e1
      cases q1
      · have HV := Lib.hid (show false = Z from HST.out)
        go_wp2_with (go_at_call 48; (with_reducible refine (HX.out _ HBr.out).mono ?_); rintro e w2 ⟨rfl, hb2⟩; have HB2 := Lib.hid (bel_trans HBr.out hb2); clear hb2)
        go_ret
        exact ⟨ret_bool HV.out, HB2.out⟩
      · by_cases hl : (k : Int) < (os.length : Int) - 1
        · have e2 : decide ((k : Int) < (os.length : Int) - 1) = true := decide_eq_true hl
          by_cases h2 : o.1 = 2
          · have e3 : (o.1 != 2) = false := by rw [h2]; rfl
            have HV := Lib.hid (show outsAll top (os.drop (k + 1)) = Z by have := HST.out; rw [e2, decide_eq_true h2] at this; exact this)
            clear h2 hl
            go_wp2_with (go_at_call 48; (with_reducible refine (HX.out _ HBr.out).mono ?_); rintro e w2 ⟨rfl, hb2⟩; have HB2 := Lib.hid (bel_trans HBr.out hb2); have y0 := cell_keep hb2 x0; have y1 := cell_keep hb2 x1; clear hb2)
            exact ⟨⟨k + 1, by go_num, hlt2, HV, HB2⟩, by simp [intOf]; omega⟩
          · have e3 : (o.1 != 2) = true := by simp [h2]
            have HV := Lib.hid (show false = Z by have := HST.out; rw [e2, decide_eq_false h2] at this; exact this)
            clear h2 hl
            go_wp2_with (go_at_call 48; (with_reducible refine (HX.out _ HBr.out).mono ?_); rintro e w2 ⟨rfl, hb2⟩; have HB2 := Lib.hid (bel_trans HBr.out hb2); have y0 := cell_keep hb2 x0; have y1 := cell_keep hb2 x1; clear hb2)
            go_ret
            exact ⟨ret_bool HV.out, HB2.out⟩
        · have e2 : decide ((k : Int) < (os.length : Int) - 1) = false := decide_eq_false hl
          have HV := Lib.hid (show outsAll top (os.drop (k + 1)) = Z by have := HST.out; rw [e2] at this; exact this)
          clear hl
          go_wp2_with (go_at_call 48; (with_reducible refine (HX.out _ HBr.out).mono ?_); rintro e w2 ⟨rfl, hb2⟩; have HB2 := Lib.hid (bel_trans HBr.out hb2); have y0 := cell_keep hb2 x0; have y1 := cell_keep hb2 x1; clear hb2)
          exact ⟨⟨k + 1, by go_num, hlt2, HV, HB2⟩, by simp [intOf]; omega⟩
    · have HV := Lib.hid (show true = Z by have := HRr.out; rwa [List.drop_of_length_le (by omega)] at this)
      go_wp2
      go_ret
      exact ⟨ret_bool HV.out, HBr.out⟩
theorem last_at {α : Type} {os : List α} (h : 0 < os.length) : ∃ o, os.getLast? = some o ∧ os[os.length - 1]? = some o := by
  refine ⟨os[os.length - 1], ?_, List.getElem?_eq_getElem (by omega)⟩
  rw [List.getLast?_eq_getElem?]; exact List.getElem?_eq_getElem (by omega)
theorem endedS_c (os : List SOut) (ov : Value) (w : World) (ho : Kd.sout.S 99 w ov os) (hl : os.length ≤ 4000000) :
    Calls Tryz.prog 90 #[ov] w fun e w' => e = .returned (.bool (endedO os)) ∧ w = w' := by
  obtain ⟨A, c, rfl, a1, a2, hC⟩ := ho
  by_cases h0 : 0 < os.length
  · obtain ⟨o, hlast, hc⟩ := last_at h0
    obtain ⟨ad, v1, rfl, x0, x1, h1⟩ := dbind_at hC hc
    have HV := Lib.hid (show endedO os = (o.1 != 2) by unfold endedO; rw [hlast]; simp [bne, BEq.beq])
    have e0 : decide ((0 : Int) < (os.length : Int)) = true := decide_eq_true (by omega)
    have e1 : (((os.length : Int) - 1).toNat) = os.length - 1 := by omega
    obtain ⟨q, hq⟩ : ∃ q, (o.1 != 2) = q := ⟨_, rfl⟩
    rw [hq] at HV
    have h3 : ¬ ((os.length : Int) - 1 < 0) := by omega
    have h4 : (os.length : Int) - 1 < os.length := by omega
    clear hC hlast hc h1
    go_enter Tryz.func90, Tryz.ntmps90
    go_wp2
    go_ret
    exact ⟨ret_bool HV.out.symm, rfl⟩
  · have HV := Lib.hid (show endedO os = false by rw [show os = [] from List.eq_nil_of_length_eq_zero (by omega)]; rfl)
    have e0 : decide ((0 : Int) < (os.length : Int)) = false := decide_eq_false (by omega)
    clear hC
    go_enter Tryz.func90, Tryz.ntmps90
    go_wp2
    go_ret
    exact ⟨ret_bool HV.out.symm, rfl⟩
end Go.Proofs.YtdoggcfdfkkedaaGreatDoor
namespace Go.Proofs.YtdoggcfdfkkedaaGreatDoor
open Go.RowKit
set_option maxRecDepth 100000
set_option maxHeartbeats 2000000
set_option linter.unusedVariables false
theorem inClS_c (t : Trm) (tv : Value) (w : World) (h : Kd.cell.S 112 w tv t) (hl : t.length ≤ 1000000000) :
    Calls Tryz.prog 79 #[tv] w fun e w' => e = .returned (.bool (inCl t)) ∧ Below w.heap.size w w' := by
  have HT := Lib.hid (trmOkS_c t tv w h hl)
  have HS := Lib.hid h
  obtain ⟨A, c, rfl, a1, a2, -⟩ := h
  cases hq : trmOk t with
  | false =>
    rw [hq] at HT
    have HV := Lib.hid (show inCl t = false by unfold inCl; rw [hq]; rfl)
    clear hq
    go_enter Tryz.func79, Tryz.ntmps79
    go_wp2_with (go_at_call 44; (with_reducible refine HT.out.mono ?_); rintro e w1 ⟨rfl, hb⟩)
    go_ret
    exact ⟨ret_bool HV.out.symm, hb⟩
  | true =>
    rw [hq] at HT
    by_cases h12 : t.length ≤ 12
    · have e0 : decide ((12 : Int) < (t.length : Int)) = false := decide_eq_false (by omega)
      have HV := Lib.hid (show inCl t = t.all small by unfold inCl; rw [hq, decide_eq_true h12]; rfl)
      clear hq
      go_enter Tryz.func79, Tryz.ntmps79
      go_wp2_with (go_at_call 44; (with_reducible refine HT.out.mono ?_); rintro e w1 ⟨rfl, hb⟩; have HB := Lib.hid hb; clear hb)
      go_loopw [3] (fun v3 wr => ∃ k : Nat, v3 = .int .i64 k ∧ k ≤ t.length ∧ Hid ((t.drop k).all small = t.all small) ∧ wr = w1) (fun v3 _ => t.length - (intOf v3).toNat)
      case atStart => exact ⟨0, rfl, Nat.zero_le _, Lib.hid (by simp), rfl⟩
      case round =>
        obtain ⟨k, rfl, hk, HA, rfl⟩ := hrel
        by_cases hlt : k < t.length
        · obtain ⟨cc, hc⟩ : ∃ cc, t[k]? = some cc := ⟨_, List.getElem?_eq_getElem hlt⟩
          obtain ⟨A', c', ev, _, _, hC⟩ := Kd.S_ext HB.out HS.out
          injection ev with u1 u2 u3
          obtain ⟨ad, had, x1, x2, x3⟩ := cell_at hC hc
          have had2 := u1.trans had
          have hA := HA.out
          rw [List.drop_eq_getElem_cons hlt, (List.getElem?_eq_some_iff.1 hc).2, List.all_cons] at hA
          clear u1 u2 u3 had hC hc
          subst had2
          by_cases hk1 : cc.k = 1
          · have e1 : (cc.k == 1) = true := beq_iff_eq.2 hk1
            by_cases h8 : 8 ≤ cc.n
            · have e2 : decide (8 ≤ cc.n) = true := decide_eq_true h8
              have HR := Lib.hid (show inCl t = false by rw [HV.out, ← hA, show small cc = false by unfold small; rw [e1, e2]; rfl]; rfl)
              clear hA hk1
              go_wp2
              go_ret
              exact ⟨ret_bool HR.out.symm, HB.out⟩
            · have e2 : decide (8 ≤ cc.n) = false := decide_eq_false h8
              have HR := Lib.hid (show (t.drop (k + 1)).all small = t.all small by rw [← hA, show small cc = true by unfold small; rw [e1, e2]; rfl]; rfl)
              clear hA hk1
              go_wp2
              exact ⟨⟨k + 1, by go_num, hlt, HR, trivial⟩, by simp [intOf]; omega⟩
          · have e1 : (cc.k == 1) = false := beq_eq_false_iff_ne.2 hk1
            have HR := Lib.hid (show (t.drop (k + 1)).all small = t.all small by rw [← hA, show small cc = true by unfold small; rw [e1]; rfl]; rfl)
            clear hA hk1
            go_wp2
            exact ⟨⟨k + 1, by go_num, hlt, HR, trivial⟩, by simp [intOf]; omega⟩
        · have HR := Lib.hid (show inCl t = true by rw [HV.out, ← HA.out, List.drop_of_length_le (by omega)]; rfl)
          go_wp2
          go_ret
          exact ⟨ret_bool HR.out.symm, HB.out⟩
    · have e0 : decide ((12 : Int) < (t.length : Int)) = true := decide_eq_true (by omega)
      have HV := Lib.hid (show inCl t = false by unfold inCl; rw [hq, decide_eq_false h12]; rfl)
      clear hq
      go_enter Tryz.func79, Tryz.ntmps79
      go_wp2_with (go_at_call 44; (with_reducible refine HT.out.mono ?_); rintro e w1 ⟨rfl, hb⟩)
      go_ret
      exact ⟨ret_bool HV.out.symm, hb⟩
end Go.Proofs.YtdoggcfdfkkedaaGreatDoor
namespace Go.Proofs.YtdoggcfdfkkedaaGreatDoor
open Go.RowKit
set_option maxRecDepth 100000
set_option maxHeartbeats 4000000
set_option linter.unusedVariables false
theorem gbox_at (w : World) (k : Int) (av bv cv : Value) {w1 : World} (hb : Below (w.alloc (.cells #[.int .i64 k, av, bv, cv] 137)).heap.size (w.alloc (.cells #[.int .i64 k, av, bv, cv] 137)) w1) :
    w1.cell? ⟨w.heap.size, 0, none⟩ = some (.int .i64 k) ∧ w1.cell? ⟨w.heap.size, 1, none⟩ = some av ∧ w1.cell? ⟨w.heap.size, 2, none⟩ = some bv ∧ w1.cell? ⟨w.heap.size, 3, none⟩ = some cv := by
  have h := heap_alloc_new w (.cells #[.int .i64 k, av, bv, cv] 137)
  exact ⟨cell_keep hb (Lib.cell_of_heap h 0), cell_keep hb (Lib.cell_of_heap h 1), cell_keep hb (Lib.cell_of_heap h 2), cell_keep hb (Lib.cell_of_heap h 3)⟩
theorem goalS_c (k : Int) (a b c : Trm) (av bv cv : Value) (w : World) (hA : Kd.cell.S 112 w av a) (hB : Kd.cell.S 112 w bv b) (hC : Kd.cell.S 112 w cv c) (la : a.length ≤ 1000000000) (lb : b.length ≤ 1000000000) (lc : c.length ≤ 1000000000) :
    Calls Tryz.prog 80 #[.agg #[.int .i64 k, av, bv, cv]] w fun e w' => e = .returned (.bool (goalOk k a b c)) ∧ Below w.heap.size w w' := by
  have HA := Lib.hid (fun w' hb => inClS_c a av w' (Kd.S_ext hb hA) la)
  have HB := Lib.hid (fun w' hb => inClS_c b bv w' (Kd.S_ext hb hB) lb)
  have HC := Lib.hid (fun w' hb => inClS_c c cv w' (Kd.S_ext hb hC) lc)
  have HX := Lib.hid (fun w1 => gbox_at w k av bv cv (w1 := w1))
  have H0 := Lib.hid (fun o => bel_alloc (Below.refl _ w) o)
  have HSa := Lib.hid hA
  have HCl := Lib.hid (fun w' hb => (show Calls Tryz.prog 45 #[av] w' fun e w2 => e = .returned (.bool (calls a)) ∧ w' = w2 by
    obtain ⟨A, c, rfl, _, _, h⟩ := Kd.S_ext (w := w) (w' := w') hb hA
    exact calls_c a A c w' h))
  obtain ⟨A1, n1, rfl, a1, a2, -⟩ := hA
  obtain ⟨A2, n2, rfl, b1, b2, -⟩ := hB
  obtain ⟨A3, n3, rfl, c1, c2, -⟩ := hC
  obtain ⟨qa, hqa⟩ : ∃ q, inCl a = q := ⟨_, rfl⟩
  obtain ⟨qb, hqb⟩ : ∃ q, inCl b = q := ⟨_, rfl⟩
  obtain ⟨qc, hqc⟩ : ∃ q, inCl c = q := ⟨_, rfl⟩
  obtain ⟨ca, hca⟩ : ∃ q, calls a = q := ⟨_, rfl⟩
  rw [hqa] at HA
  rw [hqb] at HB
  rw [hqc] at HC
  rw [hca] at HCl
  unfold goalOk
  rw [hqa, hqb, hqc, hca]
  clear hqa hqb hqc hca HSa
  by_cases k1 : k = 1
  · subst k1
    rw [if_pos rfl]
    obtain ⟨q0, e0⟩ : ∃ q, ((b.length : Int) + (c.length : Int) == 0) = q := ⟨_, rfl⟩
    rw [e0]
    cases qa <;> cases ca <;> cases q0
    all_goals
      go_enter Tryz.func80, Tryz.ntmps80
      go_wp2_with (first | (go_at_call 79; (with_reducible refine (HA.out _ (H0.out _)).mono ?_); rintro e w1 ⟨rfl, hb1⟩; obtain ⟨x0, x1, x2, x3⟩ := HX.out _ hb1; have HB1 := Lib.hid (bel_trans (H0.out _) hb1); clear hb1) | (go_at_call 45; (with_reducible refine (HCl.out _ HB1.out).mono ?_); rintro e w2 ⟨rfl, rfl⟩))
      go_ret
      exact ⟨rfl, HB1.out⟩
  · rw [if_neg k1]
    have e1 : (k == 1) = false := beq_eq_false_iff_ne.2 k1
    by_cases k3 : k = 3
    · subst k3
      rw [if_pos rfl]
      obtain ⟨q0, e0⟩ : ∃ q, ((a.length : Int) + (b.length : Int) + (c.length : Int) == 0) = q := ⟨_, rfl⟩
      rw [e0]
      cases q0
      all_goals
        go_enter Tryz.func80, Tryz.ntmps80
        go_wp2
        go_ret
        exact ⟨rfl, H0.out _⟩
    · rw [if_neg k3]
      have e3 : (k == 3) = false := beq_eq_false_iff_ne.2 k3
      by_cases k24 : k = 2 ∨ k = 4
      · rw [if_pos k24]
        obtain ⟨q0, e0⟩ : ∃ q, ((c.length : Int) == 0) = q := ⟨_, rfl⟩
        rw [e0]
        clear k1 k3 e1 e3
        rcases k24 with rfl | rfl
        all_goals (cases qa <;> cases qb <;> cases q0)
        all_goals
          go_enter Tryz.func80, Tryz.ntmps80
          go_wp2_with (first | (go_at_call 79; (with_reducible refine (HA.out _ (H0.out _)).mono ?_); rintro e w1 ⟨rfl, hb1⟩; obtain ⟨x0, x1, x2, x3⟩ := HX.out _ hb1; have Hb1 := Lib.hid hb1; have HB1 := Lib.hid (bel_trans (H0.out _) hb1); clear hb1) | (go_at_call 79; (with_reducible refine (HB.out _ HB1.out).mono ?_); rintro e w2 ⟨rfl, hb2⟩; obtain ⟨z0, z1, z2, z3⟩ := HX.out _ (bel_trans Hb1.out hb2); have HB2 := Lib.hid (bel_trans HB1.out hb2); clear hb2) | (go_at_call 79; (with_reducible refine (HC.out _ HB2.out).mono ?_); rintro e w3 ⟨rfl, hb3⟩; have HB3 := Lib.hid (bel_trans HB2.out hb3); clear hb3))
          go_ret
          first | exact ⟨rfl, HB3.out⟩ | exact ⟨rfl, HB2.out⟩ | exact ⟨rfl, HB1.out⟩
      · rw [if_neg k24]
        by_cases k5 : k = 5
        · subst k5
          rw [if_pos rfl]
          clear k1 k3 e1 e3 k24
          cases qa <;> cases qb <;> cases qc
          all_goals
            go_enter Tryz.func80, Tryz.ntmps80
            go_wp2_with (first | (go_at_call 79; (with_reducible refine (HA.out _ (H0.out _)).mono ?_); rintro e w1 ⟨rfl, hb1⟩; obtain ⟨x0, x1, x2, x3⟩ := HX.out _ hb1; have Hb1 := Lib.hid hb1; have HB1 := Lib.hid (bel_trans (H0.out _) hb1); clear hb1) | (go_at_call 79; (with_reducible refine (HB.out _ HB1.out).mono ?_); rintro e w2 ⟨rfl, hb2⟩; obtain ⟨z0, z1, z2, z3⟩ := HX.out _ (bel_trans Hb1.out hb2); have HB2 := Lib.hid (bel_trans HB1.out hb2); clear hb2) | (go_at_call 79; (with_reducible refine (HC.out _ HB2.out).mono ?_); rintro e w3 ⟨rfl, hb3⟩; have HB3 := Lib.hid (bel_trans HB2.out hb3); clear hb3))
            go_ret
            first | exact ⟨rfl, HB3.out⟩ | exact ⟨rfl, HB2.out⟩ | exact ⟨rfl, HB1.out⟩
        · rw [if_neg k5]
          have e2 : (k == 2) = false := beq_eq_false_iff_ne.2 (fun h => k24 (.inl h))
          have e4 : (k == 4) = false := beq_eq_false_iff_ne.2 (fun h => k24 (.inr h))
          have e5 : (k == 5) = false := beq_eq_false_iff_ne.2 k5
          clear k1 k3 k24 k5
          go_enter Tryz.func80, Tryz.ntmps80
          go_wp2
          go_ret
          exact ⟨rfl, H0.out _⟩
end Go.Proofs.YtdoggcfdfkkedaaGreatDoor
namespace Go.Proofs.YtdoggcfdfkkedaaGreatDoor
open Go.RowKit
set_option maxRecDepth 100000
set_option maxHeartbeats 4000000
set_option linter.unusedVariables false
theorem termS_c (t : Trm) (n : Int) (tv : Value) (w : World) (h : T0 w tv t) (hl : t.length ≤ 1000000000) :
    Calls Tryz.prog 123 #[tv, .int .i64 n] w fun e w' => e = .returned (.bool (termV n t)) ∧ Below w.heap.size w w' := by
  have HT := Lib.hid (trmOkS_c t tv w h hl)
  have HS := Lib.hid h
  obtain ⟨A, c, rfl, a1, a2, -⟩ := h
  cases hq : trmOk t with
  | false =>
    rw [hq] at HT
    have HV := Lib.hid (show termV n t = false by unfold termV; rw [hq]; rfl)
    clear hq
    go_enter Tryz.func123, Tryz.ntmps123
    go_wp2_with (go_at_call 44; (with_reducible refine HT.out.mono ?_); rintro e w1 ⟨rfl, hb⟩)
    go_ret
    exact ⟨ret_bool HV.out.symm, hb⟩
  | true =>
    rw [hq] at HT
    have HV := Lib.hid (show termV n t = belowV n t by unfold termV; rw [hq]; rfl)
    clear hq
    go_enter Tryz.func123, Tryz.ntmps123
    go_wp2_with (go_at_call 44; (with_reducible refine HT.out.mono ?_); rintro e w1 ⟨rfl, hb⟩; have HB := Lib.hid hb; clear hb)
    go_loopw [5] (fun v5 wr => ∃ k : Nat, v5 = .int .i64 k ∧ k ≤ t.length ∧ Hid (belowV n (t.drop k) = belowV n t) ∧ wr = w1) (fun v5 _ => t.length - (intOf v5).toNat)
    case atStart => exact ⟨0, rfl, Nat.zero_le _, Lib.hid (by simp), rfl⟩
    case round =>
      obtain ⟨k, rfl, hk, HA, rfl⟩ := hrel
      by_cases hlt : k < t.length
      · obtain ⟨cc, hc⟩ : ∃ cc, t[k]? = some cc := ⟨_, List.getElem?_eq_getElem hlt⟩
        obtain ⟨A', c', ev, _, _, hC⟩ := Kd.S_ext HB.out HS.out
        injection ev with u1 u2 u3
        obtain ⟨ad, had, x1, x2, x3⟩ := cell_at hC hc
        have had2 := u1.trans had
        have hA := HA.out
        rw [List.drop_eq_getElem_cons hlt, (List.getElem?_eq_some_iff.1 hc).2] at hA
        have hA : ((!(cc.k == 1 && decide (n ≤ cc.n))) && belowV n (t.drop (k + 1))) = belowV n t := by rw [← hA]; unfold belowV; rw [List.all_cons]
        clear u1 u2 u3 had hC hc
        subst had2
        by_cases hk1 : cc.k = 1
        · have e1 : (cc.k == 1) = true := beq_iff_eq.2 hk1
          by_cases h8 : n ≤ cc.n
          · have e2 : decide (n ≤ cc.n) = true := decide_eq_true h8
            have HR := Lib.hid (show termV n t = false by rw [HV.out, ← hA, e1, e2]; rfl)
            clear hA hk1
            go_wp2
            go_ret
            exact ⟨ret_bool HR.out.symm, HB.out⟩
          · have e2 : decide (n ≤ cc.n) = false := decide_eq_false h8
            have HR := Lib.hid (show belowV n (t.drop (k + 1)) = belowV n t by rw [← hA, e1, e2]; rfl)
            clear hA hk1
            go_wp2
            exact ⟨⟨k + 1, by go_num, hlt, HR, trivial⟩, by simp [intOf]; omega⟩
        · have e1 : (cc.k == 1) = false := beq_eq_false_iff_ne.2 hk1
          have HR := Lib.hid (show belowV n (t.drop (k + 1)) = belowV n t by rw [← hA, e1]; rfl)
          clear hA hk1
          go_wp2
          exact ⟨⟨k + 1, by go_num, hlt, HR, trivial⟩, by simp [intOf]; omega⟩
      · have HR := Lib.hid (show termV n t = true by rw [HV.out, ← HA.out, List.drop_of_length_le (by omega)]; rfl)
        go_wp2
        go_ret
        exact ⟨ret_bool HR.out.symm, HB.out⟩
theorem placeS_c (x : Place) (w : World) :
    Calls Tryz.prog 43 #[.agg #[.string x.name, .int .i64 x.n, .int .i64 x.node]] w fun e w' => e = .returned (.bool (placeOk x)) ∧ Below w.heap.size w w' := by
  have HN := Lib.hid (fun W => name_c x.name W)
  have HI := Lib.hid (fun W => lIn_c x.n 0 3 W)
  have HJ := Lib.hid (fun W => lIn_c x.node 1 2 W)
  obtain ⟨q1, e1⟩ : ∃ q, nameOk x.name = q := ⟨_, rfl⟩
  obtain ⟨q2, e2⟩ : ∃ q, (decide (0 ≤ x.n) && decide (x.n ≤ 3)) = q := ⟨_, rfl⟩
  obtain ⟨q3, e3⟩ : ∃ q, (decide (1 ≤ x.node) && decide (x.node ≤ 2)) = q := ⟨_, rfl⟩
  have HV := Lib.hid (show placeOk x = (q1 && q2 && q3) by unfold placeOk inR; rw [e1, e2, e3])
  rw [e1] at HN
  rw [e2] at HI
  rw [e3] at HJ
  clear e1 e2 e3
  cases q1 <;> cases q2 <;> cases q3
  all_goals
    go_enter Tryz.func43, Tryz.ntmps43
    go_wp2_with (first | (go_at_call 81; (with_reducible refine (HN.out _).mono ?_); rintro e w1 ⟨rfl, rfl⟩) | (go_at_call 18; (with_reducible refine (HI.out _).mono ?_); rintro e w2 ⟨rfl, rfl⟩) | (go_at_call 18; (with_reducible refine (HJ.out _).mono ?_); rintro e w3 ⟨rfl, rfl⟩))
    go_ret
    exact ⟨ret_bool HV.out.symm, bel_alloc (Below.refl _ _) _⟩
theorem body_split {xs : List Goal} {k : Nat} (hlt : k < xs.length) {x : Goal} (hc : xs[k]? = some x) : (xs.drop k).all (fun g => goalOk g.k g.a g.b g.c) = (goalOk x.k x.a x.b x.c && (xs.drop (k + 1)).all (fun g => goalOk g.k g.a g.b g.c)) := by
  rw [List.drop_eq_getElem_cons hlt, (List.getElem?_eq_some_iff.1 hc).2, List.all_cons]
theorem box2_at (w : World) (a b : Value) (t : TypeId) {w1 : World} (hb : Below (w.alloc (.cells #[a, b] t)).heap.size (w.alloc (.cells #[a, b] t)) w1) : w1.cell? ⟨w.heap.size, 0, none⟩ = some a ∧ w1.cell? ⟨w.heap.size, 1, none⟩ = some b := by
  have h := heap_alloc_new w (.cells #[a, b] t)
  exact ⟨cell_keep hb (Lib.cell_of_heap h 0), cell_keep hb (Lib.cell_of_heap h 1)⟩
theorem clauseS_c (x : Clause) (hv bv : Value) (w : World) (h1 : T0 w hv x.head) (h2 : Kd.goal.S 137 w bv x.body) (hf : fitC x) :
    Calls Tryz.prog 42 #[.agg #[hv, bv]] w fun e w' => e = .returned (.bool (clauseOk x)) ∧ Below w.heap.size w w' := by
  have HT := Lib.hid (fun w' hb => inClS_c x.head hv w' (Kd.S_ext (w := w) hb h1) (fit_len hf.1))
  have HC := Lib.hid (fun w' hb => (show Calls Tryz.prog 45 #[hv] w' fun e w2 => e = .returned (.bool (calls x.head)) ∧ w' = w2 by
    obtain ⟨A, c, rfl, _, _, h⟩ := Kd.S_ext (w := w) (w' := w') hb h1
    exact calls_c x.head A c w' h))
  have HG := Lib.hid (fun w' hb g (hg : g ∈ x.body) av bv cv (a1 : T0 w av g.a) (a2 : T0 w bv g.b) (a3 : T0 w cv g.c) => goalS_c g.k g.a g.b g.c av bv cv w' (Kd.S_ext (w := w) hb a1) (Kd.S_ext hb a2) (Kd.S_ext hb a3) (fit_len (hf.2.2 g hg).1) (fit_len (hf.2.2 g hg).2.1) (fit_len (hf.2.2 g hg).2.2))
  have H2 := Lib.hid h2
  have HX := Lib.hid (fun w1 => box2_at w hv bv 92 (w1 := w1))
  have H0 := Lib.hid (fun o => bel_alloc (Below.refl _ w) o)
  have hlen := hf.2.1
  obtain ⟨B, c, rfl, b1, b2, -⟩ := h2
  obtain ⟨A, c', rfl, a1, a2, -⟩ := h1
  obtain ⟨q1, e1⟩ : ∃ q, inCl x.head = q := ⟨_, rfl⟩
  obtain ⟨q2, e2⟩ : ∃ q, calls x.head = q := ⟨_, rfl⟩
  rw [e1] at HT
  rw [e2] at HC
  have hV : clauseOk x = (q1 && q2 && decide (x.body.length ≤ 4) && x.body.all (fun g => goalOk g.k g.a g.b g.c)) := by unfold clauseOk; rw [e1, e2]
  clear e1 e2 hf
  by_cases hq : q1 = true ∧ q2 = true ∧ x.body.length ≤ 4
  · obtain ⟨rfl, rfl, h4⟩ := hq
    have e4 : decide ((4 : Int) < (x.body.length : Int)) = false := decide_eq_false (by omega)
    rw [decide_eq_true h4] at hV
    have HV := Lib.hid (show clauseOk x = x.body.all (fun g => goalOk g.k g.a g.b g.c) by rw [hV]; rfl)
    clear hV
    go_enter Tryz.func42, Tryz.ntmps42
    go_wp2_with (first | (go_at_call 79; (with_reducible refine (HT.out _ (H0.out _)).mono ?_); rintro e w1 ⟨rfl, hb1⟩; obtain ⟨x0, x1⟩ := HX.out _ hb1; have HB0 := Lib.hid hb1; have HB1 := Lib.hid (bel_trans (H0.out _) hb1); clear hb1) | (go_at_call 45; (with_reducible refine (HC.out _ HB1.out).mono ?_); rintro e w2 ⟨rfl, rfl⟩))
    have hx1 := x1
    go_loopw [3] (fun v3 wr => ∃ k : Nat, v3 = .int .i64 k ∧ k ≤ x.body.length ∧ Hid ((x.body.drop k).all (fun g => goalOk g.k g.a g.b g.c) = x.body.all (fun g => goalOk g.k g.a g.b g.c)) ∧ Hid (Below w1.heap.size w1 wr)) (fun v3 _ => x.body.length - (intOf v3).toNat)
    case atStart => exact ⟨0, rfl, Nat.zero_le _, Lib.hid (by simp), Lib.hid (Below.refl _ _)⟩
    case round =>
      obtain ⟨k, rfl, hk, HA, HBr⟩ := hrel
      have y1 := cell_keep HBr.out hx1
      have HBw := Lib.hid (bel_trans HB1.out HBr.out)
      by_cases hlt : k < x.body.length
      · obtain ⟨g, hc⟩ : ∃ g, x.body[k]? = some g := ⟨_, List.getElem?_eq_getElem hlt⟩
        obtain ⟨B', c2, ev, _, _, hC⟩ := H2.out
        injection ev with u1 u2 u3
        obtain ⟨ad, av, bv, cv, had, z0, z1, z2, z3, t1, t2, t3⟩ := goal_at hC hc
        have had2 := u1.trans had
        have hA := HA.out
        rw [body_split hlt hc] at hA
        have hmem := List.mem_of_getElem? hc
        have HGk := Lib.hid (fun W hb => HG.out W hb g hmem av bv cv t1 t2 t3)
        have v0 := cell_keep HBw.out z0
        have v1 := cell_keep HBw.out z1
        have v2 := cell_keep HBw.out z2
        have v3 := cell_keep HBw.out z3
        clear u1 u2 u3 had hC hc z0 z1 z2 z3 t1 t2 t3 hmem
        subst had2
        cases hq : goalOk g.k g.a g.b g.c with
        | true =>
          rw [hq] at hA HGk
          have HR := Lib.hid hA
          clear hA hq
          go_wp2_with (go_at_call 80; (with_reducible refine (HGk.out _ HBw.out).mono ?_); rintro e w3 ⟨rfl, hb3⟩)
          exact ⟨⟨k + 1, by go_num, hlt, Lib.hid (by have := HR.out; rwa [Bool.true_and] at this), Lib.hid (bel_trans HBr.out hb3)⟩, by simp [intOf]; omega⟩
        | false =>
          rw [hq] at hA HGk
          have HR := Lib.hid (show clauseOk x = false by rw [HV.out, ← hA]; rfl)
          clear hA hq
          go_wp2_with (go_at_call 80; (with_reducible refine (HGk.out _ HBw.out).mono ?_); rintro e w3 ⟨rfl, hb3⟩)
          go_ret
          exact ⟨ret_bool HR.out.symm, bel_trans HBw.out hb3⟩
      · have HR := Lib.hid (show clauseOk x = true by rw [HV.out, ← HA.out, List.drop_of_length_le (by omega)]; rfl)
        go_wp2
        go_ret
        exact ⟨ret_bool HR.out.symm, HBw.out⟩
  · have HV := Lib.hid (show clauseOk x = false by
      rw [hV]
      cases q1
      · rfl
      · cases q2
        · rfl
        · rw [decide_eq_false (fun h => hq ⟨rfl, rfl, h⟩)]; rfl)
    clear hV
    by_cases h4 : x.body.length ≤ 4
    · have hqq : q1 = false ∨ (q1 = true ∧ q2 = false) := by cases q1 <;> cases q2 <;> simp_all
      clear hq
      rcases hqq with rfl | ⟨rfl, rfl⟩
      all_goals
        go_enter Tryz.func42, Tryz.ntmps42
        go_wp2_with (first | (go_at_call 79; (with_reducible refine (HT.out _ (H0.out _)).mono ?_); rintro e w1 ⟨rfl, hb1⟩; obtain ⟨x0, x1⟩ := HX.out _ hb1; have HB1 := Lib.hid (bel_trans (H0.out _) hb1); clear hb1) | (go_at_call 45; (with_reducible refine (HC.out _ HB1.out).mono ?_); rintro e w2 ⟨rfl, rfl⟩))
        go_ret
        exact ⟨ret_bool HV.out.symm, HB1.out⟩
    · have e4 : decide ((4 : Int) < (x.body.length : Int)) = true := decide_eq_true (by omega)
      clear hq
      cases q1 <;> cases q2
      all_goals
        go_enter Tryz.func42, Tryz.ntmps42
        go_wp2_with (first | (go_at_call 79; (with_reducible refine (HT.out _ (H0.out _)).mono ?_); rintro e w1 ⟨rfl, hb1⟩; obtain ⟨x0, x1⟩ := HX.out _ hb1; have HB1 := Lib.hid (bel_trans (H0.out _) hb1); clear hb1) | (go_at_call 45; (with_reducible refine (HC.out _ HB1.out).mono ?_); rintro e w2 ⟨rfl, rfl⟩))
        go_ret
        exact ⟨ret_bool HV.out.symm, HB1.out⟩
end Go.Proofs.YtdoggcfdfkkedaaGreatDoor
namespace Go.Proofs.YtdoggcfdfkkedaaGreatDoor
open Go.RowKit
set_option maxRecDepth 100000
set_option maxHeartbeats 4000000
set_option linter.unusedVariables false
def ndL (c : Cell) (l : List Place) : Int := ((l.find? (fun x => decide (x.name = c.s) && decide (x.n = c.n))).map (·.node)).getD 0
theorem ndL_hit {c : Cell} {l : List Place} {k : Nat} {x : Place} (hlt : k < l.length) (hx : l[k]? = some x) (h1 : x.name = c.s) (h2 : x.n = c.n) : ndL c (l.drop k) = x.node := by
  unfold ndL
  rw [List.drop_eq_getElem_cons hlt, (List.getElem?_eq_some_iff.1 hx).2, List.find?_cons]
  simp [h1, h2]
theorem ndL_miss {c : Cell} {l : List Place} {k : Nat} {x : Place} (hlt : k < l.length) (hx : l[k]? = some x) (h : ¬ (x.name = c.s ∧ x.n = c.n)) : ndL c (l.drop k) = ndL c (l.drop (k + 1)) := by
  unfold ndL
  rw [List.drop_eq_getElem_cons hlt, (List.getElem?_eq_some_iff.1 hx).2, List.find?_cons]
  have : (decide (x.name = c.s) && decide (x.n = c.n)) = false := by
    rw [Bool.eq_false_iff]; intro hh
    simp only [Bool.and_eq_true, decide_eq_true_eq] at hh
    exact h hh
  rw [this]
theorem str_eqb (s u : ByteArray) : (s.toList == u.toList) = decide (s = u) := by
  rw [Lib.toList_data, Lib.toList_data]
  by_cases h : s = u
  · subst h; simp
  · rw [decide_eq_false h]
    exact beq_eq_false_iff_ne.2 (fun e => h (ByteArray.ext (Array.toList_inj.1 e)))
theorem nodeS_c (p : Prog) (t : Trm) (cv pv tv : Value) (w : World) (h : Kd.place.S 95 w pv p.pl) (ht : T0 w tv t) (hc : calls t = true) (hl : p.pl.length ≤ 4000000) :
    Calls Tryz.prog 89 #[.agg #[cv, pv], tv] w fun e w' => e = .returned (.int .i64 (nodeOf p t)) ∧ Below w.heap.size w w' := by
  obtain ⟨c, r, rfl, hck⟩ := calls_iff.1 hc
  have HV := Lib.hid (show nodeOf p (c :: r) = ndL c p.pl from rfl)
  have HS := Lib.hid h
  have HT := Lib.hid ht
  have HX := Lib.hid (fun w1 => box2_at w cv pv 37 (w1 := w1))
  have H0 := Lib.hid (fun o => bel_alloc (Below.refl _ w) o)
  obtain ⟨A, n, rfl, a1, a2, -⟩ := h
  obtain ⟨TA, tn, rfl, t1, t2, tC⟩ := ht
  obtain ⟨ta, rfl, -, -, -⟩ := cell_hd tC
  clear hc hck tC
  go_enter Tryz.func89, Tryz.ntmps89
  go_wp2
  go_loopw [5] (fun v5 wr => ∃ k : Nat, v5 = .int .i64 k ∧ k ≤ p.pl.length ∧ Hid (ndL c (p.pl.drop k) = ndL c p.pl) ∧ Hid (Below (w.alloc (.cells #[cv, .slice A p.pl.length n] 37)).heap.size (w.alloc (.cells #[cv, .slice A p.pl.length n] 37)) wr)) (fun v5 _ => p.pl.length - (intOf v5).toNat)
  case atStart => exact ⟨0, rfl, Nat.zero_le _, Lib.hid (by simp), Lib.hid (Below.refl _ _)⟩
  case round =>
    obtain ⟨k, rfl, hk, HA, HBr⟩ := hrel
    obtain ⟨x0, x1⟩ := HX.out _ HBr.out
    have HBw := Lib.hid (bel_trans (H0.out _) HBr.out)
    by_cases hlt : k < p.pl.length
    · obtain ⟨x, hx⟩ : ∃ x, p.pl[k]? = some x := ⟨_, List.getElem?_eq_getElem hlt⟩
      obtain ⟨A', n', ev, _, _, hC⟩ := Kd.S_ext HBw.out HS.out
      injection ev with u1 u2 u3
      obtain ⟨ad, had, z0, z1, z2⟩ := place_at hC hx
      have had2 := u1.trans had
      obtain ⟨TA', tn', ev', _, _, tC⟩ := Kd.S_ext HBw.out HT.out
      injection ev' with v1 v2 v3
      obtain ⟨ta', hta, c0, c1, c2⟩ := cell_hd tC
      obtain rfl := Option.some.inj (v1.trans hta)
      clear u1 u2 u3 v1 v2 v3 hta tC had hC
      subst had2
      by_cases e1 : x.name = c.s
      · have f1 : (x.name.toList == c.s.toList) = true := by rw [str_eqb]; exact decide_eq_true e1
        by_cases e2 : x.n = c.n
        · have f2 : (x.n == c.n) = true := beq_iff_eq.2 e2
          have HR := Lib.hid (show nodeOf p (c :: r) = x.node by rw [HV.out, ← HA.out, ndL_hit hlt hx e1 e2])
          clear e1 e2 hx
          go_upto_region 4 with fail
          go_quiet (fail)
          go_wp2
          go_ret
          exact ⟨ret_int HR.out.symm, bel_drewN HBw.out _⟩
        · have f2 : (x.n == c.n) = false := beq_eq_false_iff_ne.2 e2
          have HR := Lib.hid (show ndL c (p.pl.drop (k + 1)) = ndL c p.pl by rw [← ndL_miss hlt hx (fun h => e2 h.2)]; exact HA.out)
          clear e1 e2 hx
          go_upto_region 4 with fail
          go_quiet (fail)
          go_wp2
          exact ⟨⟨k + 1, by go_num, hlt, HR, Lib.hid (bel_drewN HBr.out _)⟩, by simp [intOf]; omega⟩
      · have f1 : (x.name.toList == c.s.toList) = false := by rw [str_eqb]; exact decide_eq_false e1
        have HR := Lib.hid (show ndL c (p.pl.drop (k + 1)) = ndL c p.pl by rw [← ndL_miss hlt hx (fun h => e1 h.1)]; exact HA.out)
        clear e1 hx
        go_upto_region 4 with fail
        go_quiet (fail)
        go_wp2
        exact ⟨⟨k + 1, by go_num, hlt, HR, Lib.hid (bel_drewN HBr.out _)⟩, by simp [intOf]; omega⟩
    · have HR := Lib.hid (show nodeOf p (c :: r) = 0 by rw [HV.out, ← HA.out, List.drop_of_length_le (by omega)]; rfl)
      go_wp2
      go_ret
      exact ⟨ret_int HR.out.symm, HBw.out⟩
theorem cl_split {xs : List Clause} {k : Nat} (hlt : k < xs.length) {x : Clause} (hc : xs[k]? = some x) : (xs.drop k).all clauseOk = (clauseOk x && (xs.drop (k + 1)).all clauseOk) := by
  rw [List.drop_eq_getElem_cons hlt, (List.getElem?_eq_some_iff.1 hc).2, List.all_cons]
theorem pl_split {xs : List Place} {k : Nat} (hlt : k < xs.length) {x : Place} (hc : xs[k]? = some x) : placesOk (xs.take k) (xs.drop k) = (placeOk x && !(xs.take k).any (samePl x) && placesOk (xs.take (k + 1)) (xs.drop (k + 1))) := by
  rw [List.drop_eq_getElem_cons hlt, (List.getElem?_eq_some_iff.1 hc).2, placesOk, List.take_succ_eq_append_getElem hlt, (List.getElem?_eq_some_iff.1 hc).2]
theorem any_snoc {xs : List Place} {j : Nat} (hlt : j < xs.length) {y : Place} (hy : xs[j]? = some y) (x : Place) : (xs.take (j + 1)).any (samePl x) = ((xs.take j).any (samePl x) || samePl x y) := by
  rw [List.take_succ_eq_append_getElem hlt, (List.getElem?_eq_some_iff.1 hy).2, List.any_append]; simp
theorem any_mono {xs : List Place} {j k : Nat} (hjk : j < k) {y : Place} (hy : xs[j]? = some y) {x : Place} (h : samePl x y = true) : (xs.take k).any (samePl x) = true := by
  rw [List.any_eq_true]
  refine ⟨y, ?_, h⟩
  have : (xs.take k)[j]? = some y := by rw [List.getElem?_take, if_pos hjk]; exact hy
  exact List.mem_of_getElem? this
theorem prgOkS_c (p : Prog) (cv pv : Value) (w : World) (h1 : Kd.clause.S 92 w cv p.cl) (h2 : Kd.place.S 95 w pv p.pl) (hf : fitP p) :
    Calls Tryz.prog 14 #[.agg #[cv, pv]] w fun e w' => e = .returned (.bool (prgOk p)) ∧ Below w.heap.size w w' := by
  have HC := Lib.hid (fun w' hb x (hx : x ∈ p.cl) hv bv (a1 : T0 w hv x.head) (a2 : Kd.goal.S 137 w bv x.body) => clauseS_c x hv bv w' (Kd.S_ext (w := w) hb a1) (Kd.S_ext hb a2) (hf.2.1 x hx))
  have HP := Lib.hid (fun x w' => placeS_c x w')
  have H1 := Lib.hid h1
  have H2 := Lib.hid h2
  have HX := Lib.hid (fun w1 => box2_at w cv pv 37 (w1 := w1))
  have H0 := Lib.hid (fun o => bel_alloc (Below.refl _ w) o)
  have l1 := hf.1
  have l2 := hf.2.2.1
  obtain ⟨A, n, rfl, a1, a2, -⟩ := h1
  obtain ⟨B, m, rfl, b1, b2, -⟩ := h2
  have hV : prgOk p = (decide (p.cl.length ≤ 12) && decide (p.pl.length ≤ 6) && p.cl.all clauseOk && placesOk [] p.pl) := rfl
  clear hf
  by_cases h12 : p.cl.length ≤ 12
  · have e12 : decide ((12 : Int) < (p.cl.length : Int)) = false := decide_eq_false (by omega)
    by_cases h6 : p.pl.length ≤ 6
    · have e6 : decide ((6 : Int) < (p.pl.length : Int)) = false := decide_eq_false (by omega)
      have HV := Lib.hid (show prgOk p = (p.cl.all clauseOk && placesOk [] p.pl) by rw [hV, decide_eq_true h12, decide_eq_true h6]; rfl)
      clear hV
      go_enter Tryz.func14, Tryz.ntmps14
      go_wp2
      go_loopw [3] (fun v3 wr => ∃ k : Nat, v3 = .int .i64 k ∧ k ≤ p.cl.length ∧ Hid ((p.cl.drop k).all clauseOk = p.cl.all clauseOk) ∧ Hid (Below (w.alloc (.cells #[.slice A p.cl.length n, .slice B p.pl.length m] 37)).heap.size (w.alloc (.cells #[.slice A p.cl.length n, .slice B p.pl.length m] 37)) wr)) (fun v3 _ => p.cl.length - (intOf v3).toNat)
      case atStart => exact ⟨0, rfl, Nat.zero_le _, Lib.hid (by simp), Lib.hid (Below.refl _ _)⟩
      case round =>
        obtain ⟨k, rfl, hk, HA, HBr⟩ := hrel
        obtain ⟨x0, x1⟩ := HX.out _ HBr.out
        have HBw := Lib.hid (bel_trans (H0.out _) HBr.out)
        by_cases hlt : k < p.cl.length
        · obtain ⟨x, hx⟩ : ∃ x, p.cl[k]? = some x := ⟨_, List.getElem?_eq_getElem hlt⟩
          obtain ⟨A', n', ev, _, _, hC⟩ := H1.out
          injection ev with u1 u2 u3
          obtain ⟨ad, hv, bv, had, z0, z1, t1, t2⟩ := clause_at hC hx
          have had2 := u1.trans had
          have hA := HA.out
          rw [cl_split hlt hx] at hA
          have HCk := Lib.hid (fun W hb => HC.out W hb x (List.mem_of_getElem? hx) hv bv t1 t2)
          have y0 := cell_keep HBw.out z0
          have y1 := cell_keep HBw.out z1
          clear u1 u2 u3 had hC hx z0 z1 t1 t2
          subst had2
          cases hq : clauseOk x with
          | true =>
            rw [hq] at hA HCk
            have HR := Lib.hid hA
            clear hA hq
            go_wp2_with (go_at_call 42; (with_reducible refine (HCk.out _ HBw.out).mono ?_); rintro e w3 ⟨rfl, hb3⟩)
            exact ⟨⟨k + 1, by go_num, hlt, Lib.hid (by have := HR.out; rwa [Bool.true_and] at this), Lib.hid (bel_trans HBr.out hb3)⟩, by simp [intOf]; omega⟩
          | false =>
            rw [hq] at hA HCk
            have HR := Lib.hid (show prgOk p = false by rw [HV.out, ← hA]; rfl)
            clear hA hq
            go_wp2_with (go_at_call 42; (with_reducible refine (HCk.out _ HBw.out).mono ?_); rintro e w3 ⟨rfl, hb3⟩)
            go_ret
            exact ⟨ret_bool HR.out.symm, bel_trans HBw.out hb3⟩
        · have HW := Lib.hid (show prgOk p = placesOk [] p.pl by rw [HV.out, ← HA.out, List.drop_of_length_le (by omega)]; rfl)
          clear HA
          go_wp2
          clear hk hlt
          go_loopw [4] (fun v4 ws => ∃ k : Nat, v4 = .int .i64 k ∧ k ≤ p.pl.length ∧ Hid (placesOk (p.pl.take k) (p.pl.drop k) = placesOk [] p.pl) ∧ Hid (Below (w.alloc (.cells #[.slice A p.cl.length n, .slice B p.pl.length m] 37)).heap.size (w.alloc (.cells #[.slice A p.cl.length n, .slice B p.pl.length m] 37)) ws)) (fun v4 _ => p.pl.length - (intOf v4).toNat)
          case atStart => exact ⟨0, rfl, Nat.zero_le _, Lib.hid (by simp), HBr⟩
          case round =>
            clear x0 x1
            obtain ⟨k, rfl, hk, HA, HBs⟩ := hrel
            obtain ⟨x0, x1⟩ := HX.out _ HBs.out
            have HBv := Lib.hid (bel_trans (H0.out _) HBs.out)
            by_cases hlt : k < p.pl.length
            · obtain ⟨x, hx⟩ : ∃ x, p.pl[k]? = some x := ⟨_, List.getElem?_eq_getElem hlt⟩
              obtain ⟨B', m', ev, _, _, hC⟩ := H2.out
              injection ev with u1 u2 u3
              obtain ⟨ad, had, z0, z1, z2⟩ := place_at hC hx
              have had2 := u1.trans had
              have hA := HA.out
              rw [pl_split hlt hx] at hA
              have HPk := Lib.hid (fun W => HP.out x W)
              have y0 := cell_keep HBv.out z0
              have y1 := cell_keep HBv.out z1
              have y2 := cell_keep HBv.out z2
              have Hx := Lib.hid hx
              clear u1 u2 u3 had hC hx
              subst had2
              cases hq : placeOk x with
              | true =>
                rw [hq, Bool.true_and] at hA
                rw [hq] at HPk
                have HR := Lib.hid hA
                have Z0 := Lib.hid z0
                have Z1 := Lib.hid z1
                clear hA hq z0 z1 z2
                go_wp2_with (go_at_call 43; (with_reducible refine (HPk.out _).mono ?_); rintro e w3 ⟨rfl, hb3⟩; have HB3 := Lib.hid hb3; clear hb3)
                clear y0 y1 y2 x0 x1
                go_loopw [5] (fun v5 wt => ∃ j : Nat, v5 = .int .i64 j ∧ j ≤ k ∧ Hid ((p.pl.take j).any (samePl x) = false) ∧ Hid (Below w3.heap.size w3 wt)) (fun v5 _ => k - (intOf v5).toNat)
                case atStart => exact ⟨0, rfl, Nat.zero_le _, Lib.hid rfl, Lib.hid (Below.refl _ _)⟩
                case round =>
                  obtain ⟨j, rfl, hj, HJ, HBt⟩ := hrel
                  have HBu := Lib.hid (bel_trans HBs.out (bel_trans HB3.out HBt.out))
                  obtain ⟨x0, x1⟩ := HX.out _ HBu.out
                  have HBq := Lib.hid (bel_trans (H0.out _) HBu.out)
                  by_cases hjk : j < k
                  · obtain ⟨y, hy⟩ : ∃ y, p.pl[j]? = some y := ⟨_, List.getElem?_eq_getElem (by omega)⟩
                    obtain ⟨B', m', ev, _, _, hC⟩ := H2.out
                    injection ev with u1 u2 u3
                    obtain ⟨ad', had, z0, z1, z2⟩ := place_at hC hy
                    obtain rfl := Option.some.inj (u1.trans had)
                    have q0 := cell_keep HBq.out z0
                    have q1 := cell_keep HBq.out z1
                    have q2 := cell_keep HBq.out Z0.out
                    have q3 := cell_keep HBq.out Z1.out
                    clear u1 u2 u3 had hC z0 z1 z2
                    by_cases e1 : y.name = x.name
                    · have f1 : (y.name.toList == x.name.toList) = true := by rw [str_eqb]; exact decide_eq_true e1
                      by_cases e2 : y.n = x.n
                      · have f2 : (y.n == x.n) = true := beq_iff_eq.2 e2
                        have HF := Lib.hid (show prgOk p = false by
                          rw [HW.out, ← HR.out, any_mono hjk hy (by unfold samePl; rw [e1, e2]; simp)]; rfl)
                        clear e1 e2 hy
                        go_upto_region 16 with fail
                        go_quiet (fail)
                        go_wp2
                        go_ret
                        exact ⟨ret_bool HF.out.symm, bel_drewN HBq.out _⟩
                      · have f2 : (y.n == x.n) = false := beq_eq_false_iff_ne.2 e2
                        have HN := Lib.hid (show (p.pl.take (j + 1)).any (samePl x) = false by
                          rw [any_snoc (by omega) hy, HJ.out]; unfold samePl; simp; exact fun _ h => e2 h.symm)
                        clear e1 e2 hy
                        go_upto_region 16 with fail
                        go_quiet (fail)
                        go_wp2
                        exact ⟨⟨j + 1, by go_num, hjk, HN, Lib.hid (bel_drewN HBt.out _)⟩, by simp [intOf]; omega⟩
                    · have f1 : (y.name.toList == x.name.toList) = false := by rw [str_eqb]; exact decide_eq_false e1
                      have HN := Lib.hid (show (p.pl.take (j + 1)).any (samePl x) = false by
                        rw [any_snoc (by omega) hy, HJ.out]; unfold samePl; simp; exact fun h _ => e1 h.symm)
                      clear e1 hy
                      go_upto_region 16 with fail
                      go_quiet (fail)
                      go_wp2
                      exact ⟨⟨j + 1, by go_num, hjk, HN, Lib.hid (bel_drewN HBt.out _)⟩, by simp [intOf]; omega⟩
                  · obtain rfl : j = k := by omega
                    have HN := Lib.hid (show placesOk (p.pl.take (j + 1)) (p.pl.drop (j + 1)) = placesOk [] p.pl by rw [← HR.out, HJ.out]; rfl)
                    clear hjk
                    go_wp2
                    exact ⟨⟨j + 1, by go_num, hlt, HN, HBu⟩, by simp [intOf]; omega⟩
              | false =>
                rw [hq] at hA HPk
                have HR := Lib.hid (show prgOk p = false by rw [HW.out, ← hA]; rfl)
                clear hA hq z0 z1 z2
                go_wp2_with (go_at_call 43; (with_reducible refine (HPk.out _).mono ?_); rintro e w3 ⟨rfl, hb3⟩)
                go_ret
                exact ⟨ret_bool HR.out.symm, bel_trans HBv.out hb3⟩
            · have HR := Lib.hid (show prgOk p = true by rw [HW.out, ← HA.out, List.drop_of_length_le (by omega)]; rfl)
              go_wp2
              go_ret
              exact ⟨ret_bool HR.out.symm, HBv.out⟩
    · have e6 : decide ((6 : Int) < (p.pl.length : Int)) = true := decide_eq_true (by omega)
      have HV := Lib.hid (show prgOk p = false by rw [hV, decide_eq_false h6, Bool.and_false]; rfl)
      clear hV
      go_enter Tryz.func14, Tryz.ntmps14
      go_wp2
      go_ret
      exact ⟨ret_bool HV.out.symm, H0.out _⟩
  · have e12 : decide ((12 : Int) < (p.cl.length : Int)) = true := decide_eq_true (by omega)
    have HV := Lib.hid (show prgOk p = false by rw [hV, decide_eq_false h12]; rfl)
    clear hV
    go_enter Tryz.func14, Tryz.ntmps14
    go_wp2
    go_ret
    exact ⟨ret_bool HV.out.symm, H0.out _⟩
end Go.Proofs.YtdoggcfdfkkedaaGreatDoor
namespace Go.Proofs.YtdoggcfdfkkedaaGreatDoor
open Go.RowKit
set_option linter.unusedVariables false
def BelC (w W : World) : Prop := Below w.heap.size w W
theorem BelC.bel {w W : World} (h : BelC w W) : Below w.heap.size w W := h
theorem BelC.cell {w W : World} (h : BelC w W) {a : Addr} {v : Value} (hc : w.cell? a = some v) : W.cell? a = some v := cell_keep h hc
theorem BelC.step {w W W' : World} (h : BelC w W) (k : Below W.heap.size W W') : BelC w W' := bel_trans h k
theorem wp_region_below {P : Program} {id : Nat} {Q : Exit → Act → World → Prop} {a : Act} {w : World} {l : List Oper} (hm : P.follows .mixedOrders = true) (hB : Region.lexB .any l.toArray = true)
    (h : wpQuiet P l.toArray (BelC w) (fun a' => ∀ w', BelC w w' → Q .normal a' w') l a) : (Code.region id l.toArray true).wp P Q a w := wp_region_class (C := BelC w) hm hB (bel_drew (Below.refl _ _)) h
theorem sliced_zero (A : Option Addr) (k c s : Nat) : sliced A 0 k c s = .slice A k c := by
  unfold sliced
  split
  · rfl
  · cases A with
    | none => rfl
    | some ad => simp [add_zero']
theorem S_take {α : Type} {d : Kd α} {e : Nat} {w : World} {A : Option Addr} {n c : Nat} {xs : List α} (h : d.S e w (.slice A n c) xs) {k : Nat} (hk : k ≤ xs.length) : d.S e w (.slice A k c) (xs.take k) := by
  obtain ⟨A', c', ev, h1, h2, hC⟩ := h
  injection ev with e1 e2 e3
  subst e1; subst e2; subst e3
  have := Kd.S_sliced (d := d) (k := k) (l := 0) ⟨A, c, rfl, h1, h2, hC⟩ (Nat.zero_le _) hk
  rwa [List.drop_zero, Nat.sub_zero, sliced_zero] at this
theorem quiet_sub_h {α : Type} {P : Program} {C : World → Prop} {K : Act → Prop} {a : Act} {o : Oper} {d : Kd α} {t e : TypeId} (I : AppI P t e d) {x hi : Operand} (ho : o.op = .slice t x none (some hi) none)
    {A : Option Addr} {n c : Nat} (hx : a.eval x = .slice A n c) {k : Int} (hk : a.eval hi = .int .i64 k) (h1 : 0 ≤ k) (h2 : k ≤ c) (h : K (a.put o.dst (.slice A k.toNat c))) : o.quiet P a C K := by
  refine ⟨.slice A k.toNat c, fun W hW => by
    have ht : P.underlying t = some (.slice (P.elem t)) := by rw [I.elem]; exact I.und
    have hr := run_slice_h (w := W) t A n c ht .i64 k h1 h2
    rw [I.size] at hr
    rw [← sliced_zero A k.toNat c d.sz]
    unfold Oper.quietAt execOp
    simp only [ho, Option.map_some, Option.map_none, hk, hx, Sem.run_bind, Sem.run_pure, run_sliceAt_slice (h := ht), hr, Result.andThen_ok]
    exact ⟨rfl, rfl⟩, h⟩
end Go.Proofs.YtdoggcfdfkkedaaGreatDoor
