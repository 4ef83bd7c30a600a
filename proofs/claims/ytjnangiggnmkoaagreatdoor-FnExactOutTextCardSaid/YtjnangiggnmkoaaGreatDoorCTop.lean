/- Contract: what the reference takes for a question. -/
import Derived.Test.YtjnangiggnmkoaaGreatDoorCSame
import Derived.Test.YtjnangiggnmkoaaGreatDoorOut
namespace Go.Proofs.YtjnangiggnmkoaaGreatDoor
open Go.RowKit
set_option maxRecDepth 100000
set_option maxHeartbeats 1000000
set_option linter.unusedVariables false
theorem calls_c (t : Trm) (A : Option Addr) (c : Nat) (w : World) (h : Kd.cell.C 47 w A t) :
    Calls Tryz.prog 50 #[.slice A t.length c] w fun e w' => e = .returned (.bool (calls t)) ∧ w = w' := by
  match t, h with
  | [], h =>
    go_enter Tryz.func50, Tryz.ntmps50
    go_wp2
    go_ret
    exact ⟨rfl, rfl⟩
  | x :: r, h =>
    obtain ⟨ad, rfl, a1, -, -⟩ := cell_at (i := 0) h rfl
    rw [Nat.zero_mul] at a1
    have a1 : w.cell? ad = some (.int .i64 x.k) := by
      rw [show ad.add 0 = ad from by unfold Addr.add; rw [if_pos rfl]] at a1; exact a1
    clear h
    have hl : (0 : Int) < ((x :: r).length : Int) := by rw [List.length_cons]; omega
    generalize (x :: r).length = n at hl ⊢
    by_cases h3 : x.k = 3
    · have e1 : (x.k == 3) = true := beq_iff_eq.2 h3
      have HV := Lib.hid (show calls (x :: r) = true from decide_eq_true h3)
      clear h3
      go_enter Tryz.func50, Tryz.ntmps50
      go_wp2
      go_ret
      exact ⟨ret_bool HV.out.symm, rfl⟩
    · have e1 : (x.k == 3) = false := beq_eq_false_iff_ne.2 h3
      have HV := Lib.hid (show calls (x :: r) = false from decide_eq_false h3)
      clear h3
      go_enter Tryz.func50, Tryz.ntmps50
      go_wp2
      go_ret
      exact ⟨ret_bool HV.out.symm, rfl⟩
theorem top_c (t : Trm) (A : Option Addr) (c : Nat) (w : World) (h : Kd.cell.C 47 w A t) (hl : t.length ≤ 1000000000) :
    Calls Tryz.prog 24 #[.slice A t.length c] w fun e w' => e = .returned (.bool (isQ t)) ∧ Below w.heap.size w w' := by
  have H := Lib.hid h
  have HT := Lib.hid (trmOk_c t A c w h hl)
  have HC := Lib.hid (fun W hb => calls_c t A c W (Kd.C_ext (w' := W) hb H.out))
  have HN := Lib.hid (fun W hb => canon_c t A c W (Kd.C_ext (w' := W) hb H.out) hl)
  clear h
  cases h1 : trmOk t with
  | false =>
    have HV := Lib.hid (show isQ t = false by unfold isQ; rw [h1]; rfl)
    rw [h1] at HT
    clear h1
    go_enter Tryz.func24, Tryz.ntmps24
    go_wp2_with (go_at_call 26; refine HT.out.mono ?_; rintro e w1 ⟨rfl, hb⟩)
    go_ret
    exact ⟨ret_bool HV.out.symm, hb⟩
  | true =>
    rw [h1] at HT
    cases h2 : calls t with
    | false =>
      have HV := Lib.hid (show isQ t = false by unfold isQ; rw [h1, h2]; rfl)
      rw [h2] at HC
      clear h1 h2
      go_enter Tryz.func24, Tryz.ntmps24
      go_wp2_with (first | (go_at_call 26; refine HT.out.mono ?_; rintro e w1 ⟨rfl, hb⟩) | (go_at_call 50; refine (HC.out _ hb).mono ?_; rintro e w2 ⟨rfl, rfl⟩))
      go_ret
      exact ⟨ret_bool HV.out.symm, hb⟩
    | true =>
      have HV := Lib.hid (show isQ t = decide (canon t = t) by unfold isQ; rw [h1, h2]; rfl)
      rw [h2] at HC
      clear h1 h2
      go_enter Tryz.func24, Tryz.ntmps24
      go_wp2_with (first | (go_at_call 26; refine HT.out.mono ?_; rintro e w1 ⟨rfl, hb⟩) | (go_at_call 50; refine (HC.out _ hb).mono ?_; rintro e w2 ⟨rfl, rfl⟩) | (go_at_call 28; refine (HN.out _ hb).mono ?_; rintro e w3 ⟨v, rfl, ⟨B, cB, rfl, q1, q2, hB⟩, hb3⟩; have HB3 := Lib.hid (bel_trans hb hb3); have HB := Lib.hid hB; clear hb3 hB) | (go_at_call 27; refine (same_c (canon t) t _ _ _ _ _ HB.out (Kd.C_ext HB3.out H.out) (by rw [canon_len]; exact hl) hl).mono ?_; rintro e w4 ⟨rfl, hb4⟩))
      go_ret
      exact ⟨ret_bool HV.out.symm, bel_trans HB3.out hb4⟩
end Go.Proofs.YtjnangiggnmkoaaGreatDoor
