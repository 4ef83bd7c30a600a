/- Contract: the program's TrmOk. -/
import Derived.Test.YtjnangiggnmkoaaGreatDoorCImpT
namespace Go.Proofs.YtjnangiggnmkoaaGreatDoor
open Go.RowKit
set_option maxRecDepth 100000
set_option maxHeartbeats 1000000
set_option linter.unusedVariables false
/-- Names as long as a string may be. -/
def sized (t : Trm) : Prop := ∀ c ∈ t, c.s.size ≤ 9223372036854775807
theorem wrong_c (c : Cell) (w : World) (hs : c.s.size ≤ 9223372036854775807) : Calls Tryz.prog 58 #[.agg #[.int .i64 c.k, .int .i64 c.n, .string c.s]] w fun e w' => e = .returned (.bool (!cellOk c)) ∧ Below w.heap.size w w' := by
  have HO := Lib.hid (fun W => ok_c c W hs)
  go_enter Tryz.func58, Tryz.ntmps58
  go_wp2_with (go_at_call 59; refine (HO.out _).mono ?_; rintro e w1 ⟨rfl, hb⟩)
  go_ret
  exact ⟨rfl, bel_trans (bel_alloc (Below.refl _ _) _) hb⟩
theorem ixf_c (t : Trm) (A : Option Addr) (c : Nat) (w : World) (h : Kd.cell.C 47 w A t) (hl : t.length ≤ 1000000000) (hz : sized t) :
    Calls Tryz.prog 87 #[.slice A t.length c, .func (.func 58) #[] #[]] w fun e w' => ∃ z : Int, e = .returned (.int .i64 z) ∧ (0 ≤ z ↔ t.all cellOk = false) ∧ Below w.heap.size w w' := by
  have H := Lib.hid h
  have HZ := Lib.hid hz
  clear h hz
  go_enter Tryz.func87, Tryz.ntmps87
  go_wp2
  go_loopw [8] (fun v8 wr => ∃ k : Nat, v8 = .int .i64 k ∧ k ≤ t.length ∧ Hid (∀ j c, j < k → t[j]? = some c → cellOk c = true) ∧ Hid (Below w.heap.size w wr)) (fun v8 _ => t.length - (intOf v8).toNat)
  case atStart => exact ⟨0, rfl, Nat.zero_le _, Lib.hid (fun j c h => by omega), Lib.hid (Below.refl _ _)⟩
  case round =>
    obtain ⟨k, rfl, hk, HJ, HB⟩ := hrel
    by_cases hlt : k < t.length
    · obtain ⟨cc, hc⟩ : ∃ cc, t[k]? = some cc := ⟨_, List.getElem?_eq_getElem hlt⟩
      obtain ⟨ad, rfl, a1, a2, a3⟩ := cell_at (Kd.C_ext HB.out H.out) hc
      have HA := Lib.hid (fun W => wrong_c cc W (HZ.out cc (List.mem_of_getElem? hc)))
      cases hq : cellOk cc with
      | false =>
        have HV := Lib.hid (show t.all cellOk = false by
          rw [Bool.eq_false_iff]; intro ha
          have := List.all_eq_true.1 ha cc (List.mem_of_getElem? hc)
          rw [hq] at this; cases this)
        rw [hq] at HA
        have HA : Hid (∀ W, Calls Tryz.prog 58 #[.agg #[.int .i64 cc.k, .int .i64 cc.n, .string cc.s]] W fun e w' => e = .returned (.bool true) ∧ Below W.heap.size W w') := HA
        clear hq hc
        go_wp2_with (go_at_call 58; refine (HA.out _).mono ?_; rintro e w1 ⟨rfl, hb⟩)
        go_ret
        exact ⟨_, rfl, ⟨fun _ => HV.out, fun _ => by omega⟩, bel_trans HB.out hb⟩
      | true =>
        have HN := Lib.hid (show ∀ j c, j < k + 1 → t[j]? = some c → cellOk c = true from fun j c' hj hc' => by
          rcases Nat.lt_or_ge j k with h' | h'
          · exact HJ.out j c' h' hc'
          · obtain rfl : j = k := by omega
            rw [hc] at hc'; obtain rfl := Option.some.inj hc'; exact hq)
        rw [hq] at HA
        have HA : Hid (∀ W, Calls Tryz.prog 58 #[.agg #[.int .i64 cc.k, .int .i64 cc.n, .string cc.s]] W fun e w' => e = .returned (.bool false) ∧ Below W.heap.size W w') := HA
        clear hq hc
        go_wp2_with (go_at_call 58; refine (HA.out _).mono ?_; rintro e w1 ⟨rfl, hb⟩)
        exact ⟨⟨k + 1, by go_num, by omega, HN, Lib.hid (bel_trans HB.out hb)⟩, by simp [intOf]; omega⟩
    · have HV := Lib.hid (show t.all cellOk = true from List.all_eq_true.2 (fun c hc => by
        obtain ⟨j, hj, rfl⟩ := List.mem_iff_getElem.1 hc
        exact HJ.out j _ (by omega) (List.getElem?_eq_getElem hj)))
      go_wp2
      go_ret
      exact ⟨-1, rfl, ⟨fun h => by omega, fun h => by rw [HV.out] at h; cases h⟩, HB.out⟩
theorem contains_c (t : Trm) (A : Option Addr) (c : Nat) (w : World) (h : Kd.cell.C 47 w A t) (hl : t.length ≤ 1000000000) (hz : sized t) :
    Calls Tryz.prog 60 #[.slice A t.length c, .func (.func 58) #[] #[]] w fun e w' => e = .returned (.bool (!t.all cellOk)) ∧ Below w.heap.size w w' := by
  have HX := Lib.hid (ixf_c t A c w h hl hz)
  clear h hz
  go_enter Tryz.func60, Tryz.ntmps60
  go_wp2_with (go_at_call 87; refine HX.out.mono ?_; rintro e w1 ⟨z, rfl, hzz, hb⟩; have HZ := Lib.hid hzz; clear hzz)
  go_ret
  refine ⟨ret_bool ?_, hb⟩
  cases hq : t.all cellOk with
  | true => exact decide_eq_false (fun h => by have := HZ.out.1 h; rw [hq] at this; cases this)
  | false => exact decide_eq_true (HZ.out.2 hq)
theorem imOk_c (t : Trm) (A : Option Addr) (c : Nat) (w : World) (h : Kd.cell.C 47 w A t) (hl : t.length ≤ 1000000000) (hz : sized t) :
    Calls Tryz.prog 31 #[.slice A t.length c] w fun e w' => e = .returned (.bool (trmOk t)) ∧ Below w.heap.size w w' := by
  have H := Lib.hid h
  have HX := Lib.hid (contains_c t A c w h hl hz)
  have HI := Lib.hid (fun W => imIn_c (t.length : Int) 1 40 W)
  have hI : (decide ((1 : Int) ≤ t.length) && decide ((t.length : Int) ≤ 40)) = (decide (1 ≤ t.length) && decide (t.length ≤ 40)) := by
    congr 1 <;> exact decide_eq_decide.2 (by omega)
  rw [hI] at HI
  clear h hz hI
  cases h1 : (decide (1 ≤ t.length) && decide (t.length ≤ 40)) with
  | false =>
    have HV := Lib.hid (show trmOk t = false by unfold trmOk; rw [h1]; rfl)
    rw [h1] at HI
    clear h1 HX
    go_enter Tryz.func31, Tryz.ntmps31
    go_wp2_with (go_at_call 37; refine (HI.out _).mono ?_; rintro e w1 ⟨rfl, rfl⟩)
    go_ret
    exact ⟨ret_bool HV.out.symm, Below.refl _ _⟩
  | true =>
    rw [h1] at HI
    have h40 : t.length ≤ 40 := by simp only [Bool.and_eq_true, decide_eq_true_eq] at h1; exact h1.2
    cases h2 : t.all cellOk with
    | false =>
      have HV := Lib.hid (show trmOk t = false by unfold trmOk; rw [h1, h2]; rfl)
      rw [h2] at HX
      have HX : Hid (Calls Tryz.prog 60 #[.slice A t.length c, .func (.func 58) #[] #[]] w fun e w' => e = .returned (.bool true) ∧ Below w.heap.size w w') := HX
      clear h1 h2
      go_enter Tryz.func31, Tryz.ntmps31
      go_wp2_with (first | (go_at_call 37; refine (HI.out _).mono ?_; rintro e w1 ⟨rfl, rfl⟩) | (go_at_call 60; refine HX.out.mono ?_; rintro e w2 ⟨rfl, hb⟩))
      go_ret
      exact ⟨ret_bool HV.out.symm, hb⟩
    | true =>
      have HV := Lib.hid (show trmOk t = decide (skip 1 t = some t.length) by unfold trmOk; rw [h1, h2]; rfl)
      rw [h2] at HX
      have HX : Hid (Calls Tryz.prog 60 #[.slice A t.length c, .func (.func 58) #[] #[]] w fun e w' => e = .returned (.bool false) ∧ Below w.heap.size w w') := HX
      have HS := Lib.hid (fun W hb => size_c t A c W (Kd.C_ext (w' := W) hb H.out) h2 h40)
      have hsz : (sizeOf' t = t.length) ↔ skip 1 t = some t.length := by
        unfold sizeOf'
        cases hk : skip 1 t with
        | none => constructor
                  · intro e; have e : t.length + 1 = t.length := e; omega
                  · intro e; cases e
        | some n => constructor
                    · intro e; have e : n = t.length := e; rw [e]
                    · intro e; exact Option.some.inj e
      by_cases hs : skip 1 t = some t.length
      · have hV2 : trmOk t = true := by rw [HV.out, decide_eq_true hs]
        have HV := Lib.hid hV2
        rw [hsz.2 hs] at HS
        clear h1 h2 hs hsz hV2
        go_enter Tryz.func31, Tryz.ntmps31
        go_wp2_with (first | (go_at_call 37; refine (HI.out _).mono ?_; rintro e w1 ⟨rfl, rfl⟩) | (go_at_call 60; refine HX.out.mono ?_; rintro e w2 ⟨rfl, hb⟩; have HB := Lib.hid hb; clear hb) | (go_at_call 61; refine (HS.out _ HB.out).mono ?_; rintro e w3 ⟨rfl, hb3⟩))
        go_ret
        exact ⟨ret_bool (by rw [HV.out]), bel_trans HB.out hb3⟩
      · have hV2 : trmOk t = false := by rw [HV.out, decide_eq_false hs]
        have HV := Lib.hid hV2
        obtain ⟨z, hz⟩ : ∃ z, sizeOf' t = z := ⟨_, rfl⟩
        have hne : ((z : Int) == (t.length : Int)) = false := beq_eq_false_iff_ne.2 (fun e => hs (hsz.1 (by rw [hz]; omega)))
        rw [hz] at HS
        clear h1 h2 hs hsz hV2 hz
        go_enter Tryz.func31, Tryz.ntmps31
        go_wp2_with (first | (go_at_call 37; refine (HI.out _).mono ?_; rintro e w1 ⟨rfl, rfl⟩) | (go_at_call 60; refine HX.out.mono ?_; rintro e w2 ⟨rfl, hb⟩; have HB := Lib.hid hb; clear hb) | (go_at_call 61; refine (HS.out _ HB.out).mono ?_; rintro e w3 ⟨rfl, hb3⟩))
        go_ret
        exact ⟨ret_bool (by rw [HV.out]), bel_trans HB.out hb3⟩
end Go.Proofs.YtjnangiggnmkoaaGreatDoor
