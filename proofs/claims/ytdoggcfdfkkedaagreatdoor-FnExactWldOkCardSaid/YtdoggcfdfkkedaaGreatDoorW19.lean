/- Lemmas and contracts for FnExactWldOk, part 19. -/
import Derived.Test.YtdoggcfdfkkedaaGreatDoorW15
import Derived.Test.YtdoggcfdfkkedaaGreatDoorW16
import Derived.Test.YtdoggcfdfkkedaaGreatDoorW08
namespace Go.Proofs.YtdoggcfdfkkedaaGreatDoor
open Go.RowKit
set_option maxRecDepth 100000
set_option maxHeartbeats 2000000
set_option linter.unusedVariables false
theorem bl_ixf (f : Cell → Bool) (t : List Cell) (A : Option Addr) (c : Nat) (pb : Addr) (w : World) (h : Kd.cell.C 112 w A t) (hl : t.length ≤ 1000000000) (hA0 : ∀ (W : World) (x : Cell), x ∈ t → Below w.heap.size w W → Calls Tryz.prog 168 #[.agg #[.int .i64 x.k, .int .i64 x.n, .string x.s], .pointer (some pb)] W fun e w' => e = .returned (.bool (f x)) ∧ Below W.heap.size W w') :
    Calls Tryz.prog 169 #[.slice A t.length c, .func (.func 168) #[] #[.pointer (some pb)]] w fun e w' => ∃ z : Int, e = .returned (.int .i64 z) ∧ (0 ≤ z ↔ t.any f = true) ∧ Below w.heap.size w w' := by
  have H := Lib.hid h
  have HA0 := Lib.hid hA0
  clear h hA0
  go_enter Tryz.func169, Tryz.ntmps169
  go_wp2
  go_loopw [8] (fun v8 wr => ∃ k : Nat, v8 = .int .i64 k ∧ k ≤ t.length ∧ Hid ((t.drop k).any f = t.any f) ∧ Hid (Below w.heap.size w wr)) (fun v8 _ => t.length - (intOf v8).toNat)
  case atStart => exact ⟨0, rfl, Nat.zero_le _, Lib.hid (by rw [List.drop_zero]), Lib.hid (Below.refl _ _)⟩
  case round =>
    obtain ⟨k, rfl, hk, HJ, HB⟩ := hrel
    by_cases hlt : k < t.length
    · obtain ⟨x, hc⟩ : ∃ x, t[k]? = some x := ⟨_, List.getElem?_eq_getElem hlt⟩
      have hC := H.out
      obtain ⟨ad, hA, x0, x1, x2⟩ := cell_at hC hc
      subst hA
      have y_0 := cell_keep HB.out x0
      have y_1 := cell_keep HB.out x1
      have y_2 := cell_keep HB.out x2
      have hA0 := HA0.out
      have HK : Hid (∀ W, Below w.heap.size w W → Calls Tryz.prog 168 #[.agg #[.int .i64 x.k, .int .i64 x.n, .string x.s], .pointer (some pb)] W fun e w' => e = .returned (.bool (f x)) ∧ Below W.heap.size W w') := Lib.hid (fun W hb => hA0 W x (List.mem_of_getElem? hc) hb)
      have hJ := HJ.out
      rw [List.drop_eq_getElem_cons hlt, (List.getElem?_eq_some_iff.1 hc).2, List.any_cons] at hJ
      obtain ⟨q, hq⟩ : ∃ q, f x = q := ⟨_, rfl⟩
      rw [hq] at hJ HK
      clear hq hC hc hA0 x0 x1 x2
      cases q with
      | true =>
        have HV := Lib.hid (show t.any f = true by rw [← hJ]; rfl)
        clear hJ
        go_wp2_with (go_at_call 168; (with_reducible refine (HK.out _ HB.out).mono ?_); rintro e w1 ⟨rfl, hb⟩)
        go_ret
        exact ⟨_, rfl, ⟨fun _ => HV.out, fun _ => by omega⟩, bel_trans HB.out hb⟩
      | false =>
        have HN := Lib.hid (show (t.drop (k + 1)).any f = t.any f by rw [← hJ]; rfl)
        clear hJ
        go_wp2_with (go_at_call 168; (with_reducible refine (HK.out _ HB.out).mono ?_); rintro e w1 ⟨rfl, hb⟩)
        exact ⟨⟨k + 1, by go_num, hlt, HN, Lib.hid (bel_trans HB.out hb)⟩, by simp [intOf]; omega⟩
    · have HV := Lib.hid (show t.any f = false by rw [← HJ.out, List.drop_of_length_le (by omega)]; rfl)
      go_wp2
      go_ret
      exact ⟨-1, rfl, ⟨fun h => by omega, fun h => by rw [HV.out] at h; cases h⟩, HB.out⟩
theorem bl_con (f : Cell → Bool) (t : List Cell) (A : Option Addr) (c : Nat) (pb : Addr) (w : World) (h : Kd.cell.C 112 w A t) (hl : t.length ≤ 1000000000) (hA0 : ∀ (W : World) (x : Cell), x ∈ t → Below w.heap.size w W → Calls Tryz.prog 168 #[.agg #[.int .i64 x.k, .int .i64 x.n, .string x.s], .pointer (some pb)] W fun e w' => e = .returned (.bool (f x)) ∧ Below W.heap.size W w') :
    Calls Tryz.prog 140 #[.slice A t.length c, .func (.func 168) #[] #[.pointer (some pb)]] w fun e w' => e = .returned (.bool (t.any f)) ∧ Below w.heap.size w w' := by
  have HX := Lib.hid (bl_ixf f t A c pb w h hl hA0)
  clear h hA0
  go_enter Tryz.func140, Tryz.ntmps140
  go_wp2_with (go_at_call 169; refine HX.out.mono ?_; rintro e w1 ⟨z, rfl, hzz, hb⟩; have HZ := Lib.hid hzz; clear hzz)
  go_ret
  refine ⟨ret_bool ?_, hb⟩
  cases hq : t.any f with
  | false => exact decide_eq_false (fun h => by have := HZ.out.1 h; rw [hq] at this; cases this)
  | true => exact decide_eq_true (HZ.out.2 hq)
theorem bb_ixf (f : (Int × Trm) → Bool) (t : List (Int × Trm)) (A : Option Addr) (c : Nat) (pb : Addr) (w : World) (h : Kd.bind.C 216 w A t) (hl : t.length ≤ 1000000000) (hA0 : ∀ (W : World) (x : (Int × Trm)), x ∈ t → Below w.heap.size w W → ∀ (tv : Value), T0 W tv x.2 → Calls Tryz.prog 176 #[.agg #[.int .i64 x.1, tv], .pointer (some pb)] W fun e w' => e = .returned (.bool (f x)) ∧ Below W.heap.size W w') :
    Calls Tryz.prog 194 #[.slice A t.length c, .func (.func 176) #[] #[.pointer (some pb)]] w fun e w' => ∃ z : Int, e = .returned (.int .i64 z) ∧ (0 ≤ z ↔ t.any f = true) ∧ Below w.heap.size w w' := by
  have H := Lib.hid h
  have HA0 := Lib.hid hA0
  clear h hA0
  go_enter Tryz.func194, Tryz.ntmps194
  go_wp2
  go_loopw [8] (fun v8 wr => ∃ k : Nat, v8 = .int .i64 k ∧ k ≤ t.length ∧ Hid ((t.drop k).any f = t.any f) ∧ Hid (Below w.heap.size w wr)) (fun v8 _ => t.length - (intOf v8).toNat)
  case atStart => exact ⟨0, rfl, Nat.zero_le _, Lib.hid (by rw [List.drop_zero]), Lib.hid (Below.refl _ _)⟩
  case round =>
    obtain ⟨k, rfl, hk, HJ, HB⟩ := hrel
    by_cases hlt : k < t.length
    · obtain ⟨x, hc⟩ : ∃ x, t[k]? = some x := ⟨_, List.getElem?_eq_getElem hlt⟩
      have hC := H.out
      obtain ⟨ad, B, cb, hA, x0, x1, y3, y4, y5⟩ := bind_at hC hc
      subst hA
      have y_0 := cell_keep HB.out x0
      have y_1 := cell_keep HB.out x1
      have hA0 := HA0.out
      have HK : Hid (∀ W, Below w.heap.size w W → Calls Tryz.prog 176 #[.agg #[.int .i64 x.1, .slice B x.2.length cb], .pointer (some pb)] W fun e w' => e = .returned (.bool (f x)) ∧ Below W.heap.size W w') := Lib.hid (fun W hb => hA0 W x (List.mem_of_getElem? hc) hb (.slice B x.2.length cb) (Kd.S_ext hb ⟨B, cb, rfl, y3, y4, y5⟩))
      have hJ := HJ.out
      rw [List.drop_eq_getElem_cons hlt, (List.getElem?_eq_some_iff.1 hc).2, List.any_cons] at hJ
      obtain ⟨q, hq⟩ : ∃ q, f x = q := ⟨_, rfl⟩
      rw [hq] at hJ HK
      clear hq hC hc hA0 x0 x1
      cases q with
      | true =>
        have HV := Lib.hid (show t.any f = true by rw [← hJ]; rfl)
        clear hJ
        go_wp2_with (go_at_call 176; (with_reducible refine (HK.out _ HB.out).mono ?_); rintro e w1 ⟨rfl, hb⟩)
        go_ret
        exact ⟨_, rfl, ⟨fun _ => HV.out, fun _ => by omega⟩, bel_trans HB.out hb⟩
      | false =>
        have HN := Lib.hid (show (t.drop (k + 1)).any f = t.any f by rw [← hJ]; rfl)
        clear hJ
        go_wp2_with (go_at_call 176; (with_reducible refine (HK.out _ HB.out).mono ?_); rintro e w1 ⟨rfl, hb⟩)
        exact ⟨⟨k + 1, by go_num, hlt, HN, Lib.hid (bel_trans HB.out hb)⟩, by simp [intOf]; omega⟩
    · have HV := Lib.hid (show t.any f = false by rw [← HJ.out, List.drop_of_length_le (by omega)]; rfl)
      go_wp2
      go_ret
      exact ⟨-1, rfl, ⟨fun h => by omega, fun h => by rw [HV.out] at h; cases h⟩, HB.out⟩
theorem bb_con (f : (Int × Trm) → Bool) (t : List (Int × Trm)) (A : Option Addr) (c : Nat) (pb : Addr) (w : World) (h : Kd.bind.C 216 w A t) (hl : t.length ≤ 1000000000) (hA0 : ∀ (W : World) (x : (Int × Trm)), x ∈ t → Below w.heap.size w W → ∀ (tv : Value), T0 W tv x.2 → Calls Tryz.prog 176 #[.agg #[.int .i64 x.1, tv], .pointer (some pb)] W fun e w' => e = .returned (.bool (f x)) ∧ Below W.heap.size W w') :
    Calls Tryz.prog 173 #[.slice A t.length c, .func (.func 176) #[] #[.pointer (some pb)]] w fun e w' => e = .returned (.bool (t.any f)) ∧ Below w.heap.size w w' := by
  have HX := Lib.hid (bb_ixf f t A c pb w h hl hA0)
  clear h hA0
  go_enter Tryz.func173, Tryz.ntmps173
  go_wp2_with (go_at_call 194; refine HX.out.mono ?_; rintro e w1 ⟨z, rfl, hzz, hb⟩; have HZ := Lib.hid hzz; clear hzz)
  go_ret
  refine ⟨ret_bool ?_, hb⟩
  cases hq : t.any f with
  | false => exact decide_eq_false (fun h => by have := HZ.out.1 h; rw [hq] at this; cases this)
  | true => exact decide_eq_true (HZ.out.2 hq)
theorem cg_ixf (f : Goal → Bool) (t : List Goal) (A : Option Addr) (c : Nat) (w : World) (h : Kd.goal.C 137 w A t) (hl : t.length ≤ 1000000000) (hA0 : ∀ (W : World) (x : Goal), x ∈ t → Below w.heap.size w W → ∀ (av : Value) (bv : Value) (cv : Value), T0 W av x.a → T0 W bv x.b → T0 W cv x.c → Calls Tryz.prog 96 #[.agg #[.int .i64 x.k, av, bv, cv]] W fun e w' => e = .returned (.bool (f x)) ∧ Below W.heap.size W w') :
    Calls Tryz.prog 137 #[.slice A t.length c, .func (.func 96) #[] #[]] w fun e w' => ∃ z : Int, e = .returned (.int .i64 z) ∧ (0 ≤ z ↔ t.any f = true) ∧ Below w.heap.size w w' := by
  have H := Lib.hid h
  have HA0 := Lib.hid hA0
  clear h hA0
  go_enter Tryz.func137, Tryz.ntmps137
  go_wp2
  go_loopw [8] (fun v8 wr => ∃ k : Nat, v8 = .int .i64 k ∧ k ≤ t.length ∧ Hid ((t.drop k).any f = t.any f) ∧ Hid (Below w.heap.size w wr)) (fun v8 _ => t.length - (intOf v8).toNat)
  case atStart => exact ⟨0, rfl, Nat.zero_le _, Lib.hid (by rw [List.drop_zero]), Lib.hid (Below.refl _ _)⟩
  case round =>
    obtain ⟨k, rfl, hk, HJ, HB⟩ := hrel
    by_cases hlt : k < t.length
    · obtain ⟨x, hc⟩ : ∃ x, t[k]? = some x := ⟨_, List.getElem?_eq_getElem hlt⟩
      have hC := H.out
      obtain ⟨ad, av, bv, cv, hA, x0, x1, x2, x3, t1, t2, t3⟩ := goal_at hC hc
      subst hA
      have y_0 := cell_keep HB.out x0
      have y_1 := cell_keep HB.out x1
      have y_2 := cell_keep HB.out x2
      have y_3 := cell_keep HB.out x3
      have hA0 := HA0.out
      have HK : Hid (∀ W, Below w.heap.size w W → Calls Tryz.prog 96 #[.agg #[.int .i64 x.k, av, bv, cv]] W fun e w' => e = .returned (.bool (f x)) ∧ Below W.heap.size W w') := Lib.hid (fun W hb => hA0 W x (List.mem_of_getElem? hc) hb av bv cv (Kd.S_ext hb t1) (Kd.S_ext hb t2) (Kd.S_ext hb t3))
      have hJ := HJ.out
      rw [List.drop_eq_getElem_cons hlt, (List.getElem?_eq_some_iff.1 hc).2, List.any_cons] at hJ
      obtain ⟨q, hq⟩ : ∃ q, f x = q := ⟨_, rfl⟩
      rw [hq] at hJ HK
      clear hq hC hc hA0 x0 x1 x2 x3
      cases q with
      | true =>
        have HV := Lib.hid (show t.any f = true by rw [← hJ]; rfl)
        clear hJ
        go_wp2_with (go_at_call 96; (with_reducible refine (HK.out _ HB.out).mono ?_); rintro e w1 ⟨rfl, hb⟩)
        go_ret
        exact ⟨_, rfl, ⟨fun _ => HV.out, fun _ => by omega⟩, bel_trans HB.out hb⟩
      | false =>
        have HN := Lib.hid (show (t.drop (k + 1)).any f = t.any f by rw [← hJ]; rfl)
        clear hJ
        go_wp2_with (go_at_call 96; (with_reducible refine (HK.out _ HB.out).mono ?_); rintro e w1 ⟨rfl, hb⟩)
        exact ⟨⟨k + 1, by go_num, hlt, HN, Lib.hid (bel_trans HB.out hb)⟩, by simp [intOf]; omega⟩
    · have HV := Lib.hid (show t.any f = false by rw [← HJ.out, List.drop_of_length_le (by omega)]; rfl)
      go_wp2
      go_ret
      exact ⟨-1, rfl, ⟨fun h => by omega, fun h => by rw [HV.out] at h; cases h⟩, HB.out⟩
theorem cg_con (f : Goal → Bool) (t : List Goal) (A : Option Addr) (c : Nat) (w : World) (h : Kd.goal.C 137 w A t) (hl : t.length ≤ 1000000000) (hA0 : ∀ (W : World) (x : Goal), x ∈ t → Below w.heap.size w W → ∀ (av : Value) (bv : Value) (cv : Value), T0 W av x.a → T0 W bv x.b → T0 W cv x.c → Calls Tryz.prog 96 #[.agg #[.int .i64 x.k, av, bv, cv]] W fun e w' => e = .returned (.bool (f x)) ∧ Below W.heap.size W w') :
    Calls Tryz.prog 99 #[.slice A t.length c, .func (.func 96) #[] #[]] w fun e w' => e = .returned (.bool (t.any f)) ∧ Below w.heap.size w w' := by
  have HX := Lib.hid (cg_ixf f t A c w h hl hA0)
  clear h hA0
  go_enter Tryz.func99, Tryz.ntmps99
  go_wp2_with (go_at_call 137; refine HX.out.mono ?_; rintro e w1 ⟨z, rfl, hzz, hb⟩; have HZ := Lib.hid hzz; clear hzz)
  go_ret
  refine ⟨ret_bool ?_, hb⟩
  cases hq : t.any f with
  | false => exact decide_eq_false (fun h => by have := HZ.out.1 h; rw [hq] at this; cases this)
  | true => exact decide_eq_true (HZ.out.2 hq)
theorem cc_ixf (f : Clause → Bool) (t : List Clause) (A : Option Addr) (c : Nat) (w : World) (h : Kd.clause.C 92 w A t) (hl : t.length ≤ 1000000000) (hA0 : ∀ (W : World) (x : Clause), x ∈ t → Below w.heap.size w W → ∀ (hv : Value) (bv : Value), T0 W hv x.head → Kd.goal.S 137 W bv x.body → Calls Tryz.prog 58 #[.agg #[hv, bv]] W fun e w' => e = .returned (.bool (f x)) ∧ Below W.heap.size W w') :
    Calls Tryz.prog 100 #[.slice A t.length c, .func (.func 58) #[] #[]] w fun e w' => ∃ z : Int, e = .returned (.int .i64 z) ∧ (0 ≤ z ↔ t.any f = true) ∧ Below w.heap.size w w' := by
  have H := Lib.hid h
  have HA0 := Lib.hid hA0
  clear h hA0
  go_enter Tryz.func100, Tryz.ntmps100
  go_wp2
  go_loopw [8] (fun v8 wr => ∃ k : Nat, v8 = .int .i64 k ∧ k ≤ t.length ∧ Hid ((t.drop k).any f = t.any f) ∧ Hid (Below w.heap.size w wr)) (fun v8 _ => t.length - (intOf v8).toNat)
  case atStart => exact ⟨0, rfl, Nat.zero_le _, Lib.hid (by rw [List.drop_zero]), Lib.hid (Below.refl _ _)⟩
  case round =>
    obtain ⟨k, rfl, hk, HJ, HB⟩ := hrel
    by_cases hlt : k < t.length
    · obtain ⟨x, hc⟩ : ∃ x, t[k]? = some x := ⟨_, List.getElem?_eq_getElem hlt⟩
      have hC := H.out
      obtain ⟨ad, hv, bv, hA, x0, x1, t1, t2⟩ := clause_at hC hc
      subst hA
      have y_0 := cell_keep HB.out x0
      have y_1 := cell_keep HB.out x1
      have hA0 := HA0.out
      have HK : Hid (∀ W, Below w.heap.size w W → Calls Tryz.prog 58 #[.agg #[hv, bv]] W fun e w' => e = .returned (.bool (f x)) ∧ Below W.heap.size W w') := Lib.hid (fun W hb => hA0 W x (List.mem_of_getElem? hc) hb hv bv (Kd.S_ext hb t1) (Kd.S_ext hb t2))
      have hJ := HJ.out
      rw [List.drop_eq_getElem_cons hlt, (List.getElem?_eq_some_iff.1 hc).2, List.any_cons] at hJ
      obtain ⟨q, hq⟩ : ∃ q, f x = q := ⟨_, rfl⟩
      rw [hq] at hJ HK
      clear hq hC hc hA0 x0 x1
      cases q with
      | true =>
        have HV := Lib.hid (show t.any f = true by rw [← hJ]; rfl)
        clear hJ
        go_wp2_with (go_at_call 58; (with_reducible refine (HK.out _ HB.out).mono ?_); rintro e w1 ⟨rfl, hb⟩)
        go_ret
        exact ⟨_, rfl, ⟨fun _ => HV.out, fun _ => by omega⟩, bel_trans HB.out hb⟩
      | false =>
        have HN := Lib.hid (show (t.drop (k + 1)).any f = t.any f by rw [← hJ]; rfl)
        clear hJ
        go_wp2_with (go_at_call 58; (with_reducible refine (HK.out _ HB.out).mono ?_); rintro e w1 ⟨rfl, hb⟩)
        exact ⟨⟨k + 1, by go_num, hlt, HN, Lib.hid (bel_trans HB.out hb)⟩, by simp [intOf]; omega⟩
    · have HV := Lib.hid (show t.any f = false by rw [← HJ.out, List.drop_of_length_le (by omega)]; rfl)
      go_wp2
      go_ret
      exact ⟨-1, rfl, ⟨fun h => by omega, fun h => by rw [HV.out] at h; cases h⟩, HB.out⟩
theorem cc_con (f : Clause → Bool) (t : List Clause) (A : Option Addr) (c : Nat) (w : World) (h : Kd.clause.C 92 w A t) (hl : t.length ≤ 1000000000) (hA0 : ∀ (W : World) (x : Clause), x ∈ t → Below w.heap.size w W → ∀ (hv : Value) (bv : Value), T0 W hv x.head → Kd.goal.S 137 W bv x.body → Calls Tryz.prog 58 #[.agg #[hv, bv]] W fun e w' => e = .returned (.bool (f x)) ∧ Below W.heap.size W w') :
    Calls Tryz.prog 60 #[.slice A t.length c, .func (.func 58) #[] #[]] w fun e w' => e = .returned (.bool (t.any f)) ∧ Below w.heap.size w w' := by
  have HX := Lib.hid (cc_ixf f t A c w h hl hA0)
  clear h hA0
  go_enter Tryz.func60, Tryz.ntmps60
  go_wp2_with (go_at_call 100; refine HX.out.mono ?_; rintro e w1 ⟨z, rfl, hzz, hb⟩; have HZ := Lib.hid hzz; clear hzz)
  go_ret
  refine ⟨ret_bool ?_, hb⟩
  cases hq : t.any f with
  | false => exact decide_eq_false (fun h => by have := HZ.out.1 h; rw [hq] at this; cases this)
  | true => exact decide_eq_true (HZ.out.2 hq)
theorem cs_ixf (f : SGoal → Bool) (t : List SGoal) (A : Option Addr) (c : Nat) (pm : Addr) (pc : Addr) (w : World) (h : Kd.sgoal.C 219 w A t) (hl : t.length ≤ 1000000000) (hA0 : ∀ (W : World) (x : SGoal), x ∈ t → Below w.heap.size w W → ∀ (av : Value) (bv : Value) (cv : Value), T0 W av x.g.a → T0 W bv x.g.b → T0 W cv x.g.c → Calls Tryz.prog 178 #[.agg #[.int .i64 x.g.k, av, bv, cv, .int .i64 x.cut], .pointer (some pm), .pointer (some pc)] W fun e w' => e = .returned (.bool (f x)) ∧ Below W.heap.size W w') :
    Calls Tryz.prog 195 #[.slice A t.length c, .func (.func 178) #[] #[.pointer (some pm), .pointer (some pc)]] w fun e w' => ∃ z : Int, e = .returned (.int .i64 z) ∧ (0 ≤ z ↔ t.any f = true) ∧ Below w.heap.size w w' := by
  have H := Lib.hid h
  have HA0 := Lib.hid hA0
  clear h hA0
  go_enter Tryz.func195, Tryz.ntmps195
  go_wp2
  go_loopw [8] (fun v8 wr => ∃ k : Nat, v8 = .int .i64 k ∧ k ≤ t.length ∧ Hid ((t.drop k).any f = t.any f) ∧ Hid (Below w.heap.size w wr)) (fun v8 _ => t.length - (intOf v8).toNat)
  case atStart => exact ⟨0, rfl, Nat.zero_le _, Lib.hid (by rw [List.drop_zero]), Lib.hid (Below.refl _ _)⟩
  case round =>
    obtain ⟨k, rfl, hk, HJ, HB⟩ := hrel
    by_cases hlt : k < t.length
    · obtain ⟨x, hc⟩ : ∃ x, t[k]? = some x := ⟨_, List.getElem?_eq_getElem hlt⟩
      have hC := H.out
      obtain ⟨ad, av, bv, cv, hA, x0, x1, x2, x3, x4, t1, t2, t3⟩ := sgoal_at hC hc
      subst hA
      have y_0 := cell_keep HB.out x0
      have y_1 := cell_keep HB.out x1
      have y_2 := cell_keep HB.out x2
      have y_3 := cell_keep HB.out x3
      have y_4 := cell_keep HB.out x4
      have hA0 := HA0.out
      have HK : Hid (∀ W, Below w.heap.size w W → Calls Tryz.prog 178 #[.agg #[.int .i64 x.g.k, av, bv, cv, .int .i64 x.cut], .pointer (some pm), .pointer (some pc)] W fun e w' => e = .returned (.bool (f x)) ∧ Below W.heap.size W w') := Lib.hid (fun W hb => hA0 W x (List.mem_of_getElem? hc) hb av bv cv (Kd.S_ext hb t1) (Kd.S_ext hb t2) (Kd.S_ext hb t3))
      have hJ := HJ.out
      rw [List.drop_eq_getElem_cons hlt, (List.getElem?_eq_some_iff.1 hc).2, List.any_cons] at hJ
      obtain ⟨q, hq⟩ : ∃ q, f x = q := ⟨_, rfl⟩
      rw [hq] at hJ HK
      clear hq hC hc hA0 x0 x1 x2 x3 x4
      cases q with
      | true =>
        have HV := Lib.hid (show t.any f = true by rw [← hJ]; rfl)
        clear hJ
        go_wp2_with (go_at_call 178; (with_reducible refine (HK.out _ HB.out).mono ?_); rintro e w1 ⟨rfl, hb⟩)
        go_ret
        exact ⟨_, rfl, ⟨fun _ => HV.out, fun _ => by omega⟩, bel_trans HB.out hb⟩
      | false =>
        have HN := Lib.hid (show (t.drop (k + 1)).any f = t.any f by rw [← hJ]; rfl)
        clear hJ
        go_wp2_with (go_at_call 178; (with_reducible refine (HK.out _ HB.out).mono ?_); rintro e w1 ⟨rfl, hb⟩)
        exact ⟨⟨k + 1, by go_num, hlt, HN, Lib.hid (bel_trans HB.out hb)⟩, by simp [intOf]; omega⟩
    · have HV := Lib.hid (show t.any f = false by rw [← HJ.out, List.drop_of_length_le (by omega)]; rfl)
      go_wp2
      go_ret
      exact ⟨-1, rfl, ⟨fun h => by omega, fun h => by rw [HV.out] at h; cases h⟩, HB.out⟩
theorem cs_con (f : SGoal → Bool) (t : List SGoal) (A : Option Addr) (c : Nat) (pm : Addr) (pc : Addr) (w : World) (h : Kd.sgoal.C 219 w A t) (hl : t.length ≤ 1000000000) (hA0 : ∀ (W : World) (x : SGoal), x ∈ t → Below w.heap.size w W → ∀ (av : Value) (bv : Value) (cv : Value), T0 W av x.g.a → T0 W bv x.g.b → T0 W cv x.g.c → Calls Tryz.prog 178 #[.agg #[.int .i64 x.g.k, av, bv, cv, .int .i64 x.cut], .pointer (some pm), .pointer (some pc)] W fun e w' => e = .returned (.bool (f x)) ∧ Below W.heap.size W w') :
    Calls Tryz.prog 179 #[.slice A t.length c, .func (.func 178) #[] #[.pointer (some pm), .pointer (some pc)]] w fun e w' => e = .returned (.bool (t.any f)) ∧ Below w.heap.size w w' := by
  have HX := Lib.hid (cs_ixf f t A c pm pc w h hl hA0)
  clear h hA0
  go_enter Tryz.func179, Tryz.ntmps179
  go_wp2_with (go_at_call 195; refine HX.out.mono ?_; rintro e w1 ⟨z, rfl, hzz, hb⟩; have HZ := Lib.hid hzz; clear hzz)
  go_ret
  refine ⟨ret_bool ?_, hb⟩
  cases hq : t.any f with
  | false => exact decide_eq_false (fun h => by have := HZ.out.1 h; rw [hq] at this; cases this)
  | true => exact decide_eq_true (HZ.out.2 hq)
end Go.Proofs.YtdoggcfdfkkedaaGreatDoor
namespace Go.Proofs.YtdoggcfdfkkedaaGreatDoor
open Go.RowKit
set_option maxRecDepth 100000
set_option maxHeartbeats 4000000
set_option linter.unusedVariables false
theorem any_below (n : Int) (t : Trm) : t.any (fun c => c.k == 1 && decide (n ≤ c.n)) = !(belowV n t) := by
  unfold belowV
  rw [List.not_all_eq_any_not]
  congr 1
  funext c
  rw [Bool.not_not]
theorem below1_c (x : Cell) (n : Int) (pb : Addr) (W : World) (h : W.cell? pb = some (.int .i64 n)) :
    Calls Tryz.prog 168 #[.agg #[.int .i64 x.k, .int .i64 x.n, .string x.s], .pointer (some pb)] W fun e w' => e = .returned (.bool (x.k == 1 && decide (n ≤ x.n))) ∧ Below W.heap.size W w' := by
  have H := fun o => cell_keep (bel_alloc (Below.refl _ W) o) h
  obtain ⟨q1, e1⟩ : ∃ q, (x.k == 1) = q := ⟨_, rfl⟩
  rw [e1]
  clear h
  cases q1
  all_goals
    go_enter Tryz.func168, Tryz.ntmps168
    go_wp2
    go_ret
    exact ⟨rfl, bel_alloc (Below.refl _ _) _⟩
theorem belowI_c (t : Trm) (n : Int) (tv : Value) (w : World) (h : T0 w tv t) (hl : t.length ≤ 1000000000) :
    Calls Tryz.prog 136 #[tv, .int .i64 n] w fun e w' => e = .returned (.bool (belowV n t)) ∧ Below w.heap.size w w' := by
  have HV := Lib.hid (any_below n t)
  have H0 := Lib.hid (fun o => bel_alloc (Below.refl _ w) o)
  obtain ⟨A, c, rfl, a1, a2, hC⟩ := h
  have HK := Lib.hid (fun o (hp : (w.alloc o).cell? ⟨w.heap.size, 0, none⟩ = some (.int .i64 n)) => bl_con (fun c => c.k == 1 && decide (n ≤ c.n)) t A c ⟨w.heap.size, 0, none⟩ (w.alloc o) (Kd.C_ext (bel_alloc (Below.refl _ w) o) hC) hl (fun W x _ hb => below1_c x n _ W (cell_keep hb hp)))
  clear hC
  obtain ⟨q, hq⟩ : ∃ q, t.any (fun c => c.k == 1 && decide (n ≤ c.n)) = q := ⟨_, rfl⟩
  rw [hq] at HK HV
  clear hq
  have HV := Lib.hid (show belowV n t = !q by rw [HV.out, Bool.not_not])
  go_enter Tryz.func136, Tryz.ntmps136
  go_wp2_with (go_at_call 140; (with_reducible refine (HK.out _ (box_cell _ _ _ _)).mono ?_); rintro e w1 ⟨rfl, hb⟩)
  all_goals
    go_ret
    exact ⟨ret_bool (by rw [HV.out]), bel_trans (H0.out _) hb⟩
def mayCl (t : Trm) : Bool := decide (t.length ≤ 12) && belowV 8 t
theorem inCl_may (t : Trm) : (trmOk t && mayCl t) = inCl t := by unfold inCl mayCl; rw [Bool.and_assoc]; rfl
theorem inClI_c (t : Trm) (tv : Value) (w : World) (h : T0 w tv t) (hl : t.length ≤ 1000000000) :
    Calls Tryz.prog 98 #[tv] w fun e w' => e = .returned (.bool (mayCl t)) ∧ Below w.heap.size w w' := by
  have HB := Lib.hid (fun w' (hb : Below w.heap.size w w') => belowI_c t 8 tv w' (Kd.S_ext hb h) hl)
  obtain ⟨A, c, rfl, a1, a2, -⟩ := h
  by_cases h12 : t.length ≤ 12
  · have e0 : decide ((t.length : Int) ≤ 12) = true := decide_eq_true (by omega)
    have HV := Lib.hid (show mayCl t = belowV 8 t by unfold mayCl; rw [decide_eq_true h12]; rfl)
    go_enter Tryz.func98, Tryz.ntmps98
    go_wp2_with (go_at_call 136; (with_reducible refine (HB.out _ (Below.refl _ _)).mono ?_); rintro e w1 ⟨rfl, hb⟩)
    all_goals
      go_ret
      exact ⟨ret_bool (by rw [HV.out]), hb⟩
  · have e0 : decide ((t.length : Int) ≤ 12) = false := decide_eq_false (by omega)
    have HV := Lib.hid (show mayCl t = false by unfold mayCl; rw [decide_eq_false h12]; rfl)
    go_enter Tryz.func98, Tryz.ntmps98
    go_wp2
    go_ret
    exact ⟨ret_bool HV.out.symm, Below.refl _ _⟩
end Go.Proofs.YtdoggcfdfkkedaaGreatDoor
namespace Go.Proofs.YtdoggcfdfkkedaaGreatDoor
open Go.RowKit
set_option maxRecDepth 100000
set_option maxHeartbeats 2000000
set_option linter.unusedVariables false
theorem cell_put {base : Nat} {w : World} {v : Value} {D : Trm} (h : Kd.cell.O 112 w base v D) {k : Nat} {c : Cell} (hk : D[k]? = some c) :
    ∃ ad cap, v = .slice (some ad) D.length cap ∧ base ≤ ad.block ∧ w.cell? (ad.add (k * 3)) = some (.int .i64 c.k) ∧ w.cell? ⟨(ad.add (k * 3)).block, (ad.add (k * 3)).off + 1, none⟩ = some (.int .i64 c.n) ∧ w.frozen? ⟨(ad.add (k * 3)).block, (ad.add (k * 3)).off + 1, none⟩ = false ∧
      ∀ q, Hid (Kd.cell.O 112 (w.setCell ⟨(ad.add (k * 3)).block, (ad.add (k * 3)).off + 1, none⟩ (.int .i64 q)) base v (D.set k { c with n := q }) ∧ Wrote base 112 w (w.setCell ⟨(ad.add (k * 3)).block, (ad.add (k * 3)).off + 1, none⟩ (.int .i64 q))) := by
  have hS := Kd.O_read h
  obtain ⟨ad, cap, hv, hb, hf, hp⟩ := Kd.O_put h (fun q hq => by simp [Kd.cell] at hq) hk
  obtain ⟨A, c', ev, _, _, hC⟩ := hS
  obtain ⟨ad', ea, h1, h2, _⟩ := cell_at hC hk
  rw [hv] at ev
  injection ev with e1 _ _
  rw [← e1] at ea
  injection ea with ea
  subst ea
  refine ⟨ad, cap, hv, hb, h1, h2, hf 1 (by decide), fun q => Lib.hid ?_⟩
  obtain ⟨p1, p2⟩ := hp 1 (by decide) (.int .i64 q) { c with n := q } rfl (fun cs hcs => by obtain rfl : cs = [.int .i64 c.k, .int .i64 c.n, .string c.s] := hcs; rfl)
  exact ⟨p1, p2.below_put (by show base ≤ (ad.add (k * 3)).block; rw [add_block]; exact hb) (by
    have := World.block_lt_of_cell? w _ h1
    rw [add_block] at this
    omega)⟩
theorem map_step {f : Cell → Cell} {t D : Trm} {k : Nat} {c : Cell} (hD : D = (t.take k).map f ++ t.drop k) (hc : t[k]? = some c) : D[k]? = some c ∧ D.set k (f c) = (t.take (k + 1)).map f ++ t.drop (k + 1) := by
  obtain ⟨hl, e⟩ := List.getElem?_eq_some_iff.1 hc
  have hlen : ((t.take k).map f).length = k := by rw [List.length_map, List.length_take]; omega
  subst hD
  constructor
  · rw [List.getElem?_append_right (by omega), hlen, Nat.sub_self, List.getElem?_drop, Nat.add_zero, hc]
  · rw [List.set_append, if_neg (by omega), hlen, Nat.sub_self, List.drop_eq_getElem_cons hl, List.set_cons_zero, List.take_succ_eq_append_getElem hl, List.map_append, e]; simp
theorem map_step_id {f : Cell → Cell} {t D : Trm} {k : Nat} {c : Cell} (hD : D = (t.take k).map f ++ t.drop k) (hc : t[k]? = some c) (hf : f c = c) : D = (t.take (k + 1)).map f ++ t.drop (k + 1) := by
  obtain ⟨h1, h2⟩ := map_step hD hc
  rw [← h2, hf]
  obtain ⟨hl, e⟩ := List.getElem?_eq_some_iff.1 h1
  rw [← e, List.set_getElem_self]
theorem shiftedI_c (t : Trm) (tv : Value) (n : Int) (w : World) (h : Kd.cell.S 112 w tv t) (hl : t.length ≤ 1000000000) (hn0 : -1000000000 ≤ n) (hn1 : n ≤ 1000000000) (hc0 : ∀ x ∈ t, -1000000000 ≤ x.n ∧ x.n ≤ 1000000000) :
    Calls Tryz.prog 107 #[tv, .int .i64 n] w fun e w' => ∃ v, e = .returned v ∧ Kd.cell.O 112 w' w.heap.size v (shift t n) ∧ Below w.heap.size w w' := by
  have H0 := Lib.hid h
  obtain ⟨A, c, rfl, a1, a2, -⟩ := h
  have HC := Lib.hid (cloneS_c t A c w H0.out hl)
  have Hc0 := Lib.hid hc0
  clear H0 hc0
  go_enter Tryz.func107, Tryz.ntmps107
  go_wp2_with (go_at_call 104; (with_reducible refine HC.out.mono ?_); rintro e w1 ⟨cv, rfl, hO, hb⟩; have HO := Lib.hid hO; have HB := Lib.hid hb; obtain ⟨CB, cC, rfl, c1, c2, -⟩ := Kd.O_read hO; clear hO hb)
  go_loopw [11] (fun v11 wr => ∃ (k : Nat) (D : Trm), v11 = .int .i64 k ∧ k ≤ t.length ∧ D.length = t.length ∧ Hid (D = (t.take k).map (shiftCell n) ++ t.drop k) ∧ Hid (Kd.cell.O 112 wr w.heap.size (.slice CB t.length cC) D) ∧ Hid (Below w.heap.size w wr)) (fun v11 _ => t.length - (intOf v11).toNat)
  case atStart => exact ⟨0, t, rfl, Nat.zero_le _, rfl, Lib.hid (by simp), HO, HB⟩
  case round =>
    obtain ⟨k, D, rfl, hk, hD, HD, HOr, HBr⟩ := hrel
    have HDl := Lib.hid hD
    clear hD
    by_cases hlt : k < t.length
    · obtain ⟨cc, hc⟩ : ∃ cc, t[k]? = some cc := ⟨_, List.getElem?_eq_getElem hlt⟩
      have hcn := Hc0.out cc (List.mem_of_getElem? hc)
      obtain ⟨hDk, hst⟩ := map_step HD.out hc
      obtain ⟨ad, cap, ev, hb, x1, x2, x3, hput⟩ := cell_put HOr.out hDk
      have HP := Lib.hid hput
      have Hb := Lib.hid hb
      injection ev with e1 e2 e3
      have HId := Lib.hid (map_step_id HD.out hc)
      have hst' := Lib.hid hst
      clear hc hDk hst hput hb e2 e3
      subst e1
      by_cases h1 : cc.k = 1
      · have e1 : (cc.k == 1) = true := beq_iff_eq.2 h1
        have HN := Lib.hid (show D.set k { cc with n := cc.n + n } = (t.take (k + 1)).map (shiftCell n) ++ t.drop (k + 1) by
          rw [← hst'.out]; unfold shiftCell; rw [if_pos h1])
        clear h1
        go_wp2
        exact ⟨⟨k + 1, D.set k { cc with n := cc.n + n }, by go_num, by omega, by rw [List.length_set]; exact HDl.out, HN, Lib.hid (HP.out (cc.n + n)).out.1, Lib.hid (HBr.out.trans (HP.out (cc.n + n)).out.2.bel)⟩, by simp [intOf]; omega⟩
      · have e1 : (cc.k == 1) = false := beq_eq_false_iff_ne.2 h1
        have HN := Lib.hid (HId.out (by unfold shiftCell; rw [if_neg h1]))
        clear h1
        go_wp2
        exact ⟨⟨k + 1, D, by go_num, by omega, HDl.out, HN, HOr, HBr⟩, by simp [intOf]; omega⟩
    · have HV := Lib.hid (show shift t n = D by have := HD.out; rw [List.take_of_length_le (by omega), List.drop_of_length_le (by omega), List.append_nil] at this; exact this.symm)
      go_wp2
      go_ret
      exact ⟨_, rfl, by rw [HV.out]; have := HOr.out; exact this, HBr.out⟩
theorem idxI_c (xs : List Int) (A : Option Addr) (c : Nat) (n : Int) (w : World) (h : (Kd.int .i64).C 3 w A xs) (hl : xs.length ≤ 1000000000) :
    Calls Tryz.prog 105 #[.slice A xs.length c, .int .i64 n] w fun e w' => e = .returned (.int .i64 (place xs n)) ∧ w = w' := by
  have H := Lib.hid h
  clear h
  go_enter Tryz.func105, Tryz.ntmps105
  go_wp2
  go_loop [8] (fun v8 => ∃ k : Nat, v8 = .int .i64 k ∧ k ≤ xs.length ∧ Hid (∀ j, j < k → xs[j]? ≠ some n)) (fun v8 => xs.length - (intOf v8).toNat)
  case atStart => exact ⟨0, rfl, Nat.zero_le _, Lib.hid (fun j h => by omega)⟩
  case round =>
    obtain ⟨k, rfl, hk, HJ⟩ := hrel
    by_cases hlt : k < xs.length
    · obtain ⟨x, hx⟩ : ∃ x, xs[k]? = some x := ⟨_, List.getElem?_eq_getElem hlt⟩
      obtain ⟨ad, rfl, hc⟩ := int_at H.out hx
      by_cases he : n = x
      · have e1 : (n == x) = true := beq_iff_eq.2 he
        have HV := Lib.hid (place_hit (by rw [he]; exact hx) HJ.out)
        clear he hx
        go_wp2
        go_ret
        exact ⟨ret_int HV.out.symm, rfl⟩
      · have e1 : (n == x) = false := beq_eq_false_iff_ne.2 he
        have HN := Lib.hid (show ∀ j, j < k + 1 → xs[j]? ≠ some n from fun j hj => by
          rcases Nat.lt_or_ge j k with h' | h'
          · exact HJ.out j h'
          · obtain rfl : j = k := by omega
            rw [hx]; exact fun e => he (Option.some.inj e).symm)
        clear he hx
        go_wp2
        exact ⟨⟨k + 1, by go_num, by omega, HN⟩, by simp [intOf]; omega⟩
    · have HV := Lib.hid (place_miss (xs := xs) (n := n) (fun hm => by
        obtain ⟨j, hj, e⟩ := List.mem_iff_getElem.1 hm
        exact HJ.out j (by omega) (by rw [List.getElem?_eq_getElem hj, e])))
      go_wp2
      go_ret
      exact ⟨ret_int HV.out.symm, rfl⟩
theorem canonI_c (t : Trm) (tv : Value) (w : World) (h : Kd.cell.S 112 w tv t) (hl : t.length ≤ 1000000000) :
    Calls Tryz.prog 63 #[tv] w fun e w' => ∃ v, e = .returned v ∧ Kd.cell.O 112 w' w.heap.size v (canon t) ∧ Below w.heap.size w w' := by
  have H0 := Lib.hid h
  obtain ⟨A, c, rfl, a1, a2, hC⟩ := h
  have HF := Lib.hid (imFree_c t A c w hC hl)
  have HC := Lib.hid (fun W hb => cloneS_c t A c W (Kd.S_ext (w' := W) hb H0.out) hl)
  clear hC H0
  go_enter Tryz.func63, Tryz.ntmps63
  go_wp2_with (first | (go_at_call 103; (with_reducible refine HF.out.mono ?_); rintro e w1 ⟨fv, rfl, hO, hb⟩; have HFr := Lib.hid (Kd.O_read hO); have HB1 := Lib.hid hb; obtain ⟨FB, cF, rfl, f1, f2, -⟩ := Kd.O_read hO; clear hO hb)
                     | (go_at_call 104; (with_reducible refine (HC.out _ HB1.out).mono ?_); rintro e w2 ⟨cv, rfl, hO, hb⟩; have HO := Lib.hid (Kd.O_base hO HB1.out.size); have HB := Lib.hid (bel_trans HB1.out hb); have HF2 := Lib.hid (Kd.S_ext hb HFr.out); obtain ⟨CB, cC, rfl, c1, c2, -⟩ := Kd.O_read hO; clear hO hb))
  have hfl := free_len t
  obtain ⟨F, hF⟩ : ∃ F, free t = F := ⟨_, rfl⟩
  have HFe := Lib.hid hF
  rw [hF] at HF2 hfl f1 ⊢
  clear hF HFr HF HC
  have intE : ∀ q ∈ 3 :: (Kd.int .i64).E, q ≠ 112 := by
    intro q hq
    simp [Kd.int] at hq
    subst hq; decide
  have HintE := Lib.hid intE
  clear intE
  go_loopw [12] (fun v11 wr => ∃ (k : Nat) (D : Trm), v11 = .int .i64 k ∧ k ≤ t.length ∧ D.length = t.length ∧ Hid (D = (t.take k).map (canonCell F) ++ t.drop k) ∧ Hid (Kd.cell.O 112 wr w.heap.size (.slice CB t.length cC) D) ∧ Hid ((Kd.int .i64).S 3 wr (.slice FB F.length cF) F) ∧ Hid (Below w.heap.size w wr)) (fun v11 _ => t.length - (intOf v11).toNat)
  case atStart => exact ⟨0, t, rfl, Nat.zero_le _, rfl, Lib.hid (by simp), HO, HF2, HB⟩
  case round =>
    obtain ⟨k, D, rfl, hk, hD, HD, HOr, HFw, HBr⟩ := hrel
    have HDl := Lib.hid hD
    clear hD
    by_cases hlt : k < t.length
    · obtain ⟨cc, hc⟩ : ∃ cc, t[k]? = some cc := ⟨_, List.getElem?_eq_getElem hlt⟩
      obtain ⟨hDk, hst⟩ := map_step HD.out hc
      obtain ⟨ad, cap, ev, hb, x1, x2, x3, hput⟩ := cell_put HOr.out hDk
      have HP := Lib.hid hput
      injection ev with e1 e2 e3
      have HId := Lib.hid (map_step_id HD.out hc)
      have hst' := Lib.hid hst
      have HIx := Lib.hid (by
        obtain ⟨A', c', ev, _, _, hC'⟩ := HFw.out
        injection ev with u1 _ _
        subst u1
        exact idxI_c F FB cF cc.n wr hC' (by omega) : Calls Tryz.prog 105 #[.slice FB F.length cF, .int .i64 cc.n] wr fun e w' => e = .returned (.int .i64 (place F cc.n)) ∧ wr = w')
      clear hc hDk hst hput hb e2 e3
      subst e1
      by_cases h1 : cc.k = 1
      · have e1 : (cc.k == 1) = true := beq_iff_eq.2 h1
        obtain ⟨q, hq⟩ : ∃ q, place F cc.n = q := ⟨_, rfl⟩
        have HN := Lib.hid (show D.set k { cc with n := q } = (t.take (k + 1)).map (canonCell F) ++ t.drop (k + 1) by
          rw [← hst'.out]; unfold canonCell; rw [if_pos h1, hq])
        rw [hq] at HIx
        clear h1 hq
        go_wp2_with (go_at_call 105; (with_reducible refine HIx.out.mono ?_); rintro e w3 ⟨rfl, rfl⟩)
        exact ⟨⟨k + 1, D.set k { cc with n := q }, by go_num, by omega, by rw [List.length_set]; exact HDl.out, HN, Lib.hid (HP.out q).out.1, Lib.hid ((HP.out q).out.2.S HFw.out HintE.out), Lib.hid (HBr.out.trans (HP.out q).out.2.bel)⟩, by simp [intOf]; omega⟩
      · have e1 : (cc.k == 1) = false := beq_eq_false_iff_ne.2 h1
        have HN := Lib.hid (HId.out (by unfold canonCell; rw [if_neg h1]))
        clear h1
        go_wp2
        exact ⟨⟨k + 1, D, by go_num, by omega, HDl.out, HN, HOr, HFw, HBr⟩, by simp [intOf]; omega⟩
    · have HV := Lib.hid (show canon t = D by
        have := HD.out; rw [List.take_of_length_le (by omega), List.drop_of_length_le (by omega), List.append_nil] at this
        rw [this, ← HFe.out]; rfl)
      go_wp2
      go_ret
      exact ⟨_, rfl, by rw [HV.out]; exact HOr.out, HBr.out⟩
end Go.Proofs.YtdoggcfdfkkedaaGreatDoor
namespace Go.Proofs.YtdoggcfdfkkedaaGreatDoor
open Go.RowKit
set_option maxRecDepth 100000
set_option maxHeartbeats 2000000
set_option linter.unusedVariables false
theorem equalI_c (t u : Trm) (A B : Option Addr) (c d : Nat) (w : World) (h : Kd.cell.C 112 w A t) (h' : Kd.cell.C 112 w B u) (hl : t.length ≤ 1000000000) (hl' : u.length ≤ 1000000000) :
    Calls Tryz.prog 102 #[.slice A t.length c, .slice B u.length d] w fun e w' => e = .returned (.bool (decide (t = u))) ∧ Below w.heap.size w w' := by
  by_cases hlen : t.length = u.length
  · have H := Lib.hid h
    have H' := Lib.hid h'
    have HL := Lib.hid hlen
    clear h h'
    rw [← hlen]
    clear hlen hl'
    go_enter Tryz.func102, Tryz.ntmps102
    go_wp2
    go_loopw [13] (fun v5 wr => ∃ k : Nat, v5 = .int .i64 k ∧ k ≤ t.length ∧ Hid (t.take k = u.take k) ∧ Hid (Below w.heap.size w wr)) (fun v5 _ => t.length - (intOf v5).toNat)
    case atStart => exact ⟨0, rfl, Nat.zero_le _, Lib.hid rfl, Lib.hid (Below.refl _ _)⟩
    case round =>
      obtain ⟨k, rfl, hk, HS, HB⟩ := hrel
      by_cases hlt : k < t.length
      · obtain ⟨x, hx⟩ : ∃ x, t[k]? = some x := ⟨_, List.getElem?_eq_getElem hlt⟩
        obtain ⟨y, hy⟩ : ∃ y, u[k]? = some y := ⟨_, List.getElem?_eq_getElem (show k < u.length by rw [← HL.out]; exact hlt)⟩
        obtain ⟨ad, rfl, a1, a2, a3⟩ := cell_at (Kd.C_ext HB.out H.out) hx
        obtain ⟨ad', rfl, b1, b2, b3⟩ := cell_at (Kd.C_ext HB.out H'.out) hy
        by_cases hxy : x = y
        · subst hxy
          have HN := Lib.hid (show t.take (k + 1) = u.take (k + 1) by
            rw [List.take_add_one, List.take_add_one, HS.out, hx, hy])
          clear hx hy
          go_upto_region 6 with fail
          go_quiet (fail)
          go_wp2
          exact ⟨⟨k + 1, by go_num, by omega, HN, Lib.hid (bel_drewN HB.out _)⟩, by simp [intOf]; omega⟩
        · have HV := Lib.hid (show decide (t = u) = false from decide_eq_false (fun e => hxy (by rw [e, hy] at hx; exact (Option.some.inj hx).symm)))
          have hcc := cell_neb hxy
          clear hx hy hxy
          rcases hcc with e2 | ⟨e2, e3⟩ | ⟨e2, e3, e4⟩
          all_goals
            go_upto_region 6 with fail
            go_quiet (fail)
            go_wp2
            go_ret
            exact ⟨ret_bool HV.out.symm, bel_drewN HB.out _⟩
      · have HV := Lib.hid (show decide (t = u) = true from decide_eq_true (by
          have e := HS.out
          rwa [List.take_of_length_le (by omega), List.take_of_length_le (by rw [← HL.out]; omega)] at e))
        go_wp2
        go_ret
        exact ⟨ret_bool HV.out.symm, HB.out⟩
  · have hne : ((t.length : Int) != (u.length : Int)) = true := bne_iff_ne.2 (by omega)
    have HV := Lib.hid (show decide (t = u) = false from decide_eq_false (fun e => hlen (by rw [e])))
    go_enter Tryz.func102, Tryz.ntmps102
    go_wp2
    go_ret
    exact ⟨ret_bool HV.out.symm, Below.refl _ _⟩
theorem sameI_c (t u : Trm) (tv uv : Value) (w : World) (h : Kd.cell.S 112 w tv t) (h' : Kd.cell.S 112 w uv u) (hl : t.length ≤ 1000000000) (hl' : u.length ≤ 1000000000) :
    Calls Tryz.prog 62 #[tv, uv] w fun e w' => e = .returned (.bool (decide (t = u))) ∧ Below w.heap.size w w' := by
  obtain ⟨A, c, rfl, _, _, hC⟩ := h
  obtain ⟨B, d, rfl, _, _, hC'⟩ := h'
  have HE := Lib.hid (equalI_c t u A B c d w hC hC' hl hl')
  obtain ⟨q, hq⟩ : ∃ q, decide (t = u) = q := ⟨_, rfl⟩
  rw [hq] at HE ⊢
  clear hC hC' hq
  go_enter Tryz.func62, Tryz.ntmps62
  go_wp2_with (go_at_call 102; (with_reducible refine HE.out.mono ?_); rintro e w1 ⟨rfl, hb⟩)
  go_ret
  exact ⟨rfl, hb⟩
theorem imOkS_c (t : Trm) (tv : Value) (w : World) (h : Kd.cell.S 112 w tv t) (hl : t.length ≤ 1000000000) (hz : sized t) :
    Calls Tryz.prog 101 #[tv] w fun e w' => e = .returned (.bool (trmOk t)) ∧ Below w.heap.size w w' := by
  obtain ⟨A, c, rfl, _, _, hC⟩ := h
  exact imOk_c t A c w hC hl hz
theorem calledI_c (t : Trm) (tv : Value) (w : World) (h : Kd.cell.S 112 w tv t) (hl : t.length ≤ 1000000000) (hz : sized t) :
    Calls Tryz.prog 61 #[tv] w fun e w' => e = .returned (.bool (trmOk t && calls t)) ∧ Below w.heap.size w w' := by
  have HT := Lib.hid (imOkS_c t tv w h hl hz)
  have H := Lib.hid h
  cases hq : trmOk t with
  | false =>
    rw [hq] at HT
    clear h hq
    go_enter Tryz.func61, Tryz.ntmps61
    go_wp2_with (go_at_call 101; (with_reducible refine HT.out.mono ?_); rintro e w1 ⟨rfl, hb⟩)
    go_ret
    exact ⟨rfl, hb⟩
  | true =>
    rw [hq] at HT
    obtain ⟨x, r, rfl⟩ : ∃ x r, t = x :: r := by
      cases t with
      | nil => simp [trmOk] at hq
      | cons x r => exact ⟨x, r, rfl⟩
    obtain ⟨ad, n, k, rfl, h1, h2, h3, h4⟩ := S_open h
    have HC := Lib.hid (fun W (hb : Below w.heap.size w W) => S_cells (Kd.S_ext hb H.out))
    clear h hq
    by_cases h3 : x.k = 3
    · have e1 : (x.k == 3) = true := beq_iff_eq.2 h3
      have HV := Lib.hid (show calls (x :: r) = true from decide_eq_true h3)
      clear h3
      go_enter Tryz.func61, Tryz.ntmps61
      go_wp2_with (go_at_call 101; (with_reducible refine HT.out.mono ?_); rintro e w1 ⟨rfl, hb⟩; obtain ⟨c1, -, -⟩ := HC.out _ hb)
      go_ret
      exact ⟨ret_bool (by rw [HV.out]; rfl), hb⟩
    · have e1 : (x.k == 3) = false := beq_eq_false_iff_ne.2 h3
      have HV := Lib.hid (show calls (x :: r) = false from decide_eq_false h3)
      clear h3
      go_enter Tryz.func61, Tryz.ntmps61
      go_wp2_with (go_at_call 101; (with_reducible refine HT.out.mono ?_); rintro e w1 ⟨rfl, hb⟩; obtain ⟨c1, -, -⟩ := HC.out _ hb)
      go_ret
      exact ⟨ret_bool (by rw [HV.out]; rfl), hb⟩
theorem isQI_c (t : Trm) (tv : Value) (w : World) (h : Kd.cell.S 112 w tv t) (hl : t.length ≤ 1000000000) (hz : sized t) :
    Calls Tryz.prog 25 #[tv] w fun e w' => e = .returned (.bool (isQ t)) ∧ Below w.heap.size w w' := by
  have HT := Lib.hid (calledI_c t tv w h hl hz)
  have HC := Lib.hid (fun W hb => canonI_c t tv W (Kd.S_ext (w' := W) hb h) hl)
  have HS := Lib.hid (fun W v hb hv => sameI_c t (canon t) tv v W (Kd.S_ext hb h) hv hl (by rw [canon_len]; exact hl))
  cases hq : (trmOk t && calls t) with
  | false =>
    rw [hq] at HT
    have HV := Lib.hid (show isQ t = false by unfold isQ; rw [hq]; rfl)
    clear h hq
    go_enter Tryz.func25, Tryz.ntmps25
    go_wp2_with (go_at_call 61; (with_reducible refine HT.out.mono ?_); rintro e w1 ⟨rfl, hb⟩)
    go_ret
    exact ⟨ret_bool HV.out.symm, hb⟩
  | true =>
    rw [hq] at HT
    have HV := Lib.hid (show isQ t = decide (t = canon t) by unfold isQ; rw [hq, Bool.true_and]; exact decide_eq_decide.2 ⟨Eq.symm, Eq.symm⟩)
    obtain ⟨q, hq2⟩ : ∃ q, decide (t = canon t) = q := ⟨_, rfl⟩
    rw [hq2] at HS HV
    clear h hq hq2
    go_enter Tryz.func25, Tryz.ntmps25
    go_wp2_with (first | (go_at_call 61; (with_reducible refine HT.out.mono ?_); rintro e w1 ⟨rfl, hb⟩; have HB := Lib.hid hb; clear hb) | (go_at_call 63; (with_reducible refine (HC.out _ HB.out).mono ?_); rintro e w2 ⟨v, rfl, ho, hb2⟩; have HO := Lib.hid (Kd.O_read ho); have HB2 := Lib.hid (bel_trans HB.out hb2); clear ho hb2) | (go_at_call 62; (with_reducible refine (HS.out _ _ HB2.out HO.out).mono ?_); rintro e w3 ⟨rfl, hb3⟩))
    go_ret
    exact ⟨ret_bool HV.out.symm, bel_trans HB2.out hb3⟩
end Go.Proofs.YtdoggcfdfkkedaaGreatDoor
