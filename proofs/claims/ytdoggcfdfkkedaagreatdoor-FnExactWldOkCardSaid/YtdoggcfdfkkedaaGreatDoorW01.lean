/- Lemmas and contracts for FnExactWldOk, part 1. -/
import Derived.Outline
import Derived.Laws.BytesArg
import Derived.Test.YtdoggcfdfkkedaaGreatDoorW00
namespace Go.Proofs.YtdoggcfdfkkedaaGreatDoor
open Go.RowKit
set_option maxRecDepth 100000
set_option maxHeartbeats 4000000
set_option linter.unusedVariables false
theorem byte_at (s : ByteArray) (k : Nat) (h : k < s.size) : (L s)[k]? = some s[k] := by
  have : k < s.data.toList.length := by rw [Array.length_toList]; exact h
  show s.data.toList[k]? = some s[k]
  rw [List.getElem?_eq_getElem this]; rfl
def byt (s : ByteArray) (k : Nat) : Int := if h : k < s.size then (s[k].toNat : Int) else 0
theorem byt_at (s : ByteArray) (k : Nat) : ∀ h : k < s.size, ((s[k]'h).toNat : Int) = byt s k := fun h => by simp [byt, h]
end Go.Proofs.YtdoggcfdfkkedaaGreatDoor
namespace Go.Proofs.YtdoggcfdfkkedaaGreatDoor
open Go.RowKit
set_option maxRecDepth 100000
set_option maxHeartbeats 4000000
set_option linter.unusedVariables false
theorem lIn_c (a lo hi : Int) (w : World) : Calls Tryz.prog 18 #[.int .i64 a, .int .i64 lo, .int .i64 hi] w fun e w' => e = .returned (.bool (decide (lo ≤ a) && decide (a ≤ hi))) ∧ w = w' := by
  by_cases h1 : lo ≤ a
  · by_cases h2 : a ≤ hi
    · have hb := Lib.hid (show (decide (lo ≤ a) && decide (a ≤ hi)) = true by rw [decide_eq_true h1, decide_eq_true h2]; rfl)
      rw [hb.out]
      go_enter Tryz.func18, Tryz.ntmps18
      go_wp2
      go_ret
      exact ⟨rfl, rfl⟩
    · have hb := Lib.hid (show (decide (lo ≤ a) && decide (a ≤ hi)) = false by rw [decide_eq_true h1, decide_eq_false h2]; rfl)
      rw [hb.out]
      go_enter Tryz.func18, Tryz.ntmps18
      go_wp2
      go_ret
      exact ⟨rfl, rfl⟩
  · have hb := Lib.hid (show (decide (lo ≤ a) && decide (a ≤ hi)) = false by rw [decide_eq_false h1]; rfl)
    rw [hb.out]
    go_enter Tryz.func18, Tryz.ntmps18
    go_wp2
    go_ret
    exact ⟨rfl, rfl⟩
theorem lower_byt {s : ByteArray} {i : Nat} (h : i < s.size) : lower s[i] = (decide (97 ≤ byt s i) && decide (byt s i ≤ 122)) := by
  rw [← byt_at s i h, lower]
  congr 1 <;> exact decide_eq_decide.2 (by omega)
theorem nameOk_all {s : ByteArray} (h1 : 1 ≤ s.size) (h2 : s.size ≤ 8) (h3 : (s.data.toList == [97, 110, 100]) = false) (h : ∀ i (hi : i < s.size), lower s[i] = true) : nameOk s = true := by
  unfold nameOk
  rw [decide_eq_true h1, decide_eq_true h2, h3]
  have : s.data.toList.all lower = true := List.all_eq_true.2 (fun b hb => by
    obtain ⟨i, hi, rfl⟩ := List.mem_iff_getElem.1 hb
    rw [Array.length_toList] at hi
    have := h i hi
    rwa [Array.getElem_toList])
  rw [this]; rfl
theorem nameOk_not {s : ByteArray} {i : Nat} (hi : i < s.size) (h : lower s[i] = false) : nameOk s = false := by
  unfold nameOk
  have : s.data.toList.all lower = false := by
    rw [Bool.eq_false_iff]
    intro ha
    have := List.all_eq_true.1 ha s[i] (List.mem_of_getElem? (byte_at s i hi))
    rw [h] at this; cases this
  rw [this]; simp
theorem name_c (s : ByteArray) (w : World) : Calls Tryz.prog 81 #[.string s] w fun e w' => e = .returned (.bool (nameOk s)) ∧ w = w' := by
  by_cases h0 : s.size = 0
  · have HV := Lib.hid (show nameOk s = false by unfold nameOk; rw [decide_eq_false (by omega)]; rfl)
    have e0 : ((s.size : Int) == 0) = true := beq_iff_eq.2 (by omega)
    go_enter Tryz.func81, Tryz.ntmps81
    go_wp2
    go_ret
    exact ⟨ret_bool HV.out.symm, rfl⟩
  have e0 : ((s.size : Int) == 0) = false := beq_eq_false_iff_ne.2 (by omega)
  by_cases h8 : 8 < s.size
  · have HV := Lib.hid (show nameOk s = false by unfold nameOk; rw [decide_eq_false (show ¬ s.size ≤ 8 by omega)]; simp)
    have e8 : decide ((8 : Int) < s.size) = true := decide_eq_true (by omega)
    go_enter Tryz.func81, Tryz.ntmps81
    go_wp2
    go_ret
    exact ⟨ret_bool HV.out.symm, rfl⟩
  have e8 : decide ((8 : Int) < s.size) = false := decide_eq_false (by omega)
  by_cases ha : s = ⟨#[97, 110, 100]⟩
  · subst ha
    have HV := Lib.hid (show nameOk ⟨#[97, 110, 100]⟩ = false by decide +kernel)
    go_enter Tryz.func81, Tryz.ntmps81
    go_wp2
    go_ret
    exact ⟨ret_bool HV.out.symm, rfl⟩
  have hne : (s.toList == [97, 110, 100]) = false := by
    rw [Lib.toList_data]
    exact beq_eq_false_iff_ne.2 (fun e => ha (ByteArray.ext (Array.toList_inj.1 e)))
  have HA := Lib.hid (show (s.data.toList == [97, 110, 100]) = false from beq_eq_false_iff_ne.2 (fun e => ha (ByteArray.ext (Array.toList_inj.1 e))))
  clear ha
  go_enter Tryz.func81, Tryz.ntmps81
  go_wp2
  go_loop [3] (fun v3 => ∃ i : Nat, v3 = .int .i64 i ∧ i ≤ s.size ∧ Hid (∀ j (hj : j < s.size), j < i → lower s[j] = true)) (fun v3 => s.size - (intOf v3).toNat)
  case atStart => exact ⟨0, rfl, by omega, Lib.hid (fun j _ h => by omega)⟩
  case round =>
    obtain ⟨i, rfl, hi, HJ⟩ := hrel
    by_cases hlt : i < s.size
    · have hx := byt_at s i
      by_cases h97 : byt s i < 97
      · have HV := Lib.hid (nameOk_not hlt (by rw [lower_byt hlt, decide_eq_false (by omega)]; rfl))
        go_wp2
        go_ret
        exact ⟨ret_bool HV.out.symm, rfl⟩
      · by_cases h122 : 122 < byt s i
        · have HV := Lib.hid (nameOk_not hlt (by rw [lower_byt hlt, decide_eq_false (show ¬ byt s i ≤ 122 by omega)]; simp))
          go_wp2
          go_ret
          exact ⟨ret_bool HV.out.symm, rfl⟩
        · have HN := Lib.hid (show ∀ j (hj : j < s.size), j < i + 1 → lower s[j] = true from fun j hj h => by
            rcases Nat.lt_or_ge j i with h' | h'
            · exact HJ.out j hj h'
            · obtain rfl : j = i := by omega
              rw [lower_byt hlt, decide_eq_true (by omega), decide_eq_true (by omega)]; rfl)
          go_wp2
          exact ⟨⟨i + 1, by go_num, by omega, HN⟩, by simp [intOf]; omega⟩
    · have HV := Lib.hid (nameOk_all (by omega) (by omega) HA.out (fun j hj => HJ.out j hj (by omega)))
      go_wp2
      go_ret
      exact ⟨ret_bool HV.out.symm, rfl⟩
theorem cellOk_c (c : Cell) (w : World) : Calls Tryz.prog 82 #[.agg #[.int .i64 c.k, .int .i64 c.n, .string c.s]] w fun e w' => e = .returned (.bool (cellOk c)) ∧ Below w.heap.size w w' := by
  have HN := Lib.hid (fun W => name_c c.s W)
  by_cases h1 : c.k = 1
  · have e1 : (c.k == 1) = true := beq_iff_eq.2 h1
    have HV := Lib.hid (show cellOk c = ((decide (0 ≤ c.n) && decide (c.n ≤ 99999)) && c.s.toList.isEmpty) by unfold cellOk; rw [if_pos h1, Lib.toList_data])
    obtain ⟨q, hq⟩ : ∃ q, (decide (0 ≤ c.n) && decide (c.n ≤ 99999)) = q := ⟨_, rfl⟩
    have HI2 := Lib.hid (fun W => lIn_c c.n (0) 99999 W)
    rw [hq] at HI2 HV
    clear HN hq
    cases q
    all_goals
      go_enter Tryz.func82, Tryz.ntmps82
      go_wp2_with (go_at_call 18; refine (HI2.out _).mono ?_; rintro e w1 ⟨rfl, rfl⟩)
      go_ret
      exact ⟨ret_bool (by rw [HV.out]; simp), bel_alloc (Below.refl _ _) _⟩
  by_cases h2 : c.k = 2
  · have e2 : (c.k == 2) = true := beq_iff_eq.2 h2
    have n1 : (c.k == 1) = false := beq_eq_false_iff_ne.2 (by omega)
    have HV := Lib.hid (show cellOk c = ((decide (-9999 ≤ c.n) && decide (c.n ≤ 9999)) && c.s.toList.isEmpty) by unfold cellOk; rw [if_neg (by omega)]; rw [if_pos h2, Lib.toList_data])
    obtain ⟨q, hq⟩ : ∃ q, (decide (-9999 ≤ c.n) && decide (c.n ≤ 9999)) = q := ⟨_, rfl⟩
    have HI2 := Lib.hid (fun W => lIn_c c.n (-9999) 9999 W)
    rw [hq] at HI2 HV
    clear HN hq
    cases q
    all_goals
      go_enter Tryz.func82, Tryz.ntmps82
      go_wp2_with (go_at_call 18; refine (HI2.out _).mono ?_; rintro e w1 ⟨rfl, rfl⟩)
      go_ret
      exact ⟨ret_bool (by rw [HV.out]; simp), bel_alloc (Below.refl _ _) _⟩
  by_cases h3 : c.k = 3
  · have e3 : (c.k == 3) = true := beq_iff_eq.2 h3
    have n1 : (c.k == 1) = false := beq_eq_false_iff_ne.2 (by omega)
    have n2 : (c.k == 2) = false := beq_eq_false_iff_ne.2 (by omega)
    have HV := Lib.hid (show cellOk c = ((decide (0 ≤ c.n) && decide (c.n ≤ 3)) && nameOk c.s) by unfold cellOk; rw [if_neg h1, if_neg h2, if_pos h3])
    obtain ⟨q, hq⟩ : ∃ q, (decide (0 ≤ c.n) && decide (c.n ≤ 3)) = q := ⟨_, rfl⟩
    have HI2 := Lib.hid (fun W => lIn_c c.n 0 3 W)
    rw [hq] at HI2 HV
    clear hq
    cases q
    all_goals
      go_enter Tryz.func82, Tryz.ntmps82
      go_wp2_with (first | (go_at_call 18; refine (HI2.out _).mono ?_; rintro e w1 ⟨rfl, rfl⟩) | (go_at_call 81; refine (HN.out _).mono ?_; rintro e w1 ⟨rfl, rfl⟩))
      go_ret
      exact ⟨ret_bool (by rw [HV.out]; simp), bel_alloc (Below.refl _ _) _⟩
  · have n1 : (c.k == 1) = false := beq_eq_false_iff_ne.2 h1
    have n2 : (c.k == 2) = false := beq_eq_false_iff_ne.2 h2
    have n3 : (c.k == 3) = false := beq_eq_false_iff_ne.2 h3
    have HV := Lib.hid (show cellOk c = false by unfold cellOk; rw [if_neg h1, if_neg h2, if_neg h3])
    go_enter Tryz.func82, Tryz.ntmps82
    go_wp2
    go_ret
    exact ⟨ret_bool HV.out.symm, bel_alloc (Below.refl _ _) _⟩
theorem skip_step {t : Trm} {k open' : Nat} {R : Option Nat} {at0 : Nat} {c : Cell} (h : R = (skip open' (t.drop k)).map (k - at0 + ·)) (hk : at0 ≤ k) (ho : 0 < open') (hc : t[k]? = some c) :
    R = (skip (open' - 1 + (ar c).toNat) (t.drop (k + 1))).map (k + 1 - at0 + ·) := by
  have hl := (List.getElem?_eq_some_iff.1 hc).1
  rw [h, List.drop_eq_getElem_cons hl, (List.getElem?_eq_some_iff.1 hc).2]
  obtain ⟨m, rfl⟩ : ∃ m, open' = m + 1 := ⟨open' - 1, by omega⟩
  rw [skip, Option.map_map]
  have e : m + 1 - 1 + (ar c).toNat = m + (ar c).toNat := by omega
  rw [e]; congr 1; funext x; simp; omega
def endAt (t : Trm) (k : Nat) : Int := match skip 1 (t.drop k) with
  | some n => (k + n : Nat)
  | none => -1
theorem end_c (t : Trm) (A : Option Addr) (c at0 : Nat) (w : World) (h : Kd.cell.C 112 w A t) (ht : t.all cellOk = true) (hl : t.length ≤ 1000) (ha : at0 ≤ t.length) :
    Calls Tryz.prog 83 #[.slice A t.length c, .int .i64 at0] w fun e w' => e = .returned (.int .i64 (endAt t at0)) ∧ w = w' := by
  have H := Lib.hid h
  have HT := Lib.hid ht
  clear h ht
  go_enter Tryz.func83, Tryz.ntmps83
  go_wp2
  go_loop [5, 6] (fun v5 v6 => ∃ o k : Nat, v5 = .int .i64 o ∧ v6 = .int .i64 k ∧ at0 ≤ k ∧ k ≤ t.length ∧ o ≤ 3 * k + 1 ∧ Hid (skip 1 (t.drop at0) = (skip o (t.drop k)).map (k - at0 + ·))) (fun _ v6 => t.length + 1 - (intOf v6).toNat)
  case atStart => exact ⟨1, at0, rfl, rfl, Nat.le_refl _, ha, by omega, Lib.hid (by simp)⟩
  case round =>
    obtain ⟨o, k, rfl, rfl, hk1, hk2, ho, HS⟩ := hrel
    by_cases h0 : 0 < o
    · by_cases hlt : k < t.length
      · obtain ⟨cc, hc⟩ : ∃ cc, t[k]? = some cc := ⟨_, List.getElem?_eq_getElem hlt⟩
        obtain ⟨ad, rfl, a1, a2, -⟩ := cell_at H.out hc
        have hr := ar_of_ok (List.all_eq_true.1 HT.out cc (List.mem_of_getElem? hc))
        have HN := Lib.hid (skip_step HS.out hk1 h0 hc)
        obtain ⟨a, hav⟩ := Int.eq_ofNat_of_zero_le hr.1
        rw [hav] at HN hr
        by_cases h3 : cc.k = 3
        · have e3 : (cc.k == 3) = true := beq_iff_eq.2 h3
          have en : cc.n = a := by rw [← hav]; unfold ar; rw [if_pos h3]
          rw [en] at a2
          clear hc hav h3 en
          go_wp2
          exact ⟨⟨o - 1 + a, k + 1, by go_num, by go_num, by omega, by omega, by omega, HN⟩, by simp [intOf]; omega⟩
        · have e3 : (cc.k == 3) = false := beq_eq_false_iff_ne.2 h3
          have en : a = 0 := by have : (a : Int) = 0 := by rw [← hav]; unfold ar; rw [if_neg h3]
                                omega
          subst en
          clear hc hav h3
          go_wp2
          exact ⟨⟨o - 1, k + 1, by go_num, by go_num, by omega, by omega, by omega, HN⟩, by simp [intOf]; omega⟩
      · have HV := Lib.hid (show endAt t at0 = -1 by
          unfold endAt; rw [HS.out, show k = t.length by omega, List.drop_length]
          obtain ⟨m, rfl⟩ : ∃ m, o = m + 1 := ⟨o - 1, by omega⟩
          rfl)
        go_wp2
        go_ret
        exact ⟨ret_int HV.out.symm, rfl⟩
    · have HV := Lib.hid (show endAt t at0 = (k : Int) by
        obtain rfl : o = 0 := by omega
        unfold endAt; rw [HS.out, show skip 0 (t.drop k) = some 0 by simp [skip]]
        show ((at0 + (k - at0 + 0) : Nat) : Int) = k
        omega)
      go_wp2
      go_ret
      exact ⟨ret_int HV.out.symm, rfl⟩
theorem endAt_all (t : Trm) : (endAt t 0 = t.length) ↔ skip 1 t = some t.length := by
  unfold endAt
  rw [List.drop_zero]
  cases h : skip 1 t with
  | none =>
    constructor
    · intro e; have e : (-1 : Int) = t.length := e; omega
    · intro e; cases e
  | some n =>
    constructor
    · intro e; have e : ((0 + n : Nat) : Int) = t.length := e; congr 1; omega
    · intro e; obtain rfl := Option.some.inj e; show ((0 + t.length : Nat) : Int) = t.length; omega
theorem trmOk_c (t : Trm) (A : Option Addr) (c : Nat) (w : World) (h : Kd.cell.C 112 w A t) (hl : t.length ≤ 1000000000) :
    Calls Tryz.prog 44 #[.slice A t.length c] w fun e w' => e = .returned (.bool (trmOk t)) ∧ Below w.heap.size w w' := by
  by_cases h0 : t.length = 0
  · have e0 : ((t.length : Int) == 0) = true := beq_iff_eq.2 (by omega)
    have HV := Lib.hid (show trmOk t = false by unfold trmOk; rw [decide_eq_false (by omega)]; rfl)
    go_enter Tryz.func44, Tryz.ntmps44
    go_wp2
    go_ret
    exact ⟨ret_bool HV.out.symm, Below.refl _ _⟩
  have e0 : ((t.length : Int) == 0) = false := beq_eq_false_iff_ne.2 (by omega)
  by_cases h40 : 40 < t.length
  · have e40 : decide ((40 : Int) < t.length) = true := decide_eq_true (by omega)
    have HV := Lib.hid (show trmOk t = false by unfold trmOk; rw [decide_eq_false (show ¬ t.length ≤ 40 by omega)]; simp)
    go_enter Tryz.func44, Tryz.ntmps44
    go_wp2
    go_ret
    exact ⟨ret_bool HV.out.symm, Below.refl _ _⟩
  have e40 : decide ((40 : Int) < t.length) = false := decide_eq_false (by omega)
  have H := Lib.hid h
  clear h
  go_enter Tryz.func44, Tryz.ntmps44
  go_wp2
  go_loopw [3] (fun v3 wr => ∃ k : Nat, v3 = .int .i64 k ∧ k ≤ t.length ∧ Hid (∀ j c, j < k → t[j]? = some c → cellOk c = true) ∧ Hid (Below w.heap.size w wr)) (fun v3 _ => t.length - (intOf v3).toNat)
  case atStart => exact ⟨0, rfl, Nat.zero_le _, Lib.hid (fun j c h => by omega), Lib.hid (Below.refl _ _)⟩
  case round =>
    obtain ⟨k, rfl, hk, HJ, HB⟩ := hrel
    by_cases hlt : k < t.length
    · obtain ⟨cc, hc⟩ : ∃ cc, t[k]? = some cc := ⟨_, List.getElem?_eq_getElem hlt⟩
      obtain ⟨ad, rfl, a1, a2, a3⟩ := cell_at (Kd.C_ext HB.out H.out) hc
      have HA := Lib.hid (fun W => cellOk_c cc W)
      cases hq : cellOk cc with
      | false =>
        have HV := Lib.hid (show trmOk t = false by
          unfold trmOk
          have : t.all cellOk = false := by
            rw [Bool.eq_false_iff]; intro ha
            have := List.all_eq_true.1 ha cc (List.mem_of_getElem? hc)
            rw [hq] at this; cases this
          rw [this]; simp)
        rw [hq] at HA
        clear hq hc
        go_wp2_with (go_at_call 82; refine (HA.out _).mono ?_; rintro e w1 ⟨rfl, hb⟩)
        go_ret
        exact ⟨ret_bool HV.out.symm, bel_trans HB.out hb⟩
      | true =>
        have HN := Lib.hid (show ∀ j c, j < k + 1 → t[j]? = some c → cellOk c = true from fun j c' hj hc' => by
          rcases Nat.lt_or_ge j k with h' | h'
          · exact HJ.out j c' h' hc'
          · obtain rfl : j = k := by omega
            rw [hc] at hc'; obtain rfl := Option.some.inj hc'; exact hq)
        rw [hq] at HA
        clear hq hc
        go_wp2_with (go_at_call 82; refine (HA.out _).mono ?_; rintro e w1 ⟨rfl, hb⟩)
        exact ⟨⟨k + 1, by go_num, by omega, HN, Lib.hid (bel_trans HB.out hb)⟩, by simp [intOf]; omega⟩
    · have hall : t.all cellOk = true := List.all_eq_true.2 (fun c hc => by
        obtain ⟨j, hj, rfl⟩ := List.mem_iff_getElem.1 hc
        exact HJ.out j _ (by omega) (List.getElem?_eq_getElem hj))
      have HE := Lib.hid (end_c t A c 0 wr (Kd.C_ext HB.out H.out) hall (by omega) (Nat.zero_le _))
      by_cases hs : skip 1 t = some t.length
      · have HV := Lib.hid (show trmOk t = true by unfold trmOk; rw [decide_eq_true (by omega), decide_eq_true (by omega), hall, decide_eq_true hs]; rfl)
        rw [(endAt_all t).2 hs] at HE
        clear hs hall
        go_wp2_with (go_at_call 83; refine HE.out.mono ?_; rintro e w1 ⟨rfl, rfl⟩)
        go_ret
        exact ⟨ret_bool (by rw [HV.out]), HB.out⟩
      · have HV := Lib.hid (show trmOk t = false by unfold trmOk; rw [decide_eq_false hs]; simp)
        have hne : (endAt t 0 == (t.length : Int)) = false := beq_eq_false_iff_ne.2 (fun e => hs ((endAt_all t).1 e))
        obtain ⟨z, hz⟩ : ∃ z, endAt t 0 = z := ⟨_, rfl⟩
        rw [hz] at HE hne
        clear hs hall hz
        go_wp2_with (go_at_call 83; refine HE.out.mono ?_; rintro e w1 ⟨rfl, rfl⟩)
        go_ret
        exact ⟨ret_bool (by rw [HV.out]), HB.out⟩
end Go.Proofs.YtdoggcfdfkkedaaGreatDoor
namespace Go.Proofs.YtdoggcfdfkkedaaGreatDoor
set_option linter.unusedVariables false
def place (xs : List Int) (n : Int) : Int := match xs with
  | [] => -1
  | x :: xs => if x = n then 0 else if place xs n < 0 then -1 else place xs n + 1
def freeStep (out : List Int) (c : Cell) : List Int := if c.k = 1 ∧ c.n ∉ out then out ++ [c.n] else out
def free (t : Trm) : List Int := t.foldl freeStep []
def canon (t : Trm) : Trm := t.map fun c => if c.k = 1 then { c with n := place (free t) c.n } else c
def shift (t : Trm) (n : Int) : Trm := t.map fun c => if c.k = 1 then { c with n := c.n + n } else c
theorem place_ge (xs : List Int) (n : Int) : -1 ≤ place xs n ∧ place xs n < xs.length := by
  induction xs with
  | nil => simp [place]
  | cons x xs ih =>
    unfold place
    split
    · exact ⟨by omega, by simp only [List.length_cons]; omega⟩
    · split
      · exact ⟨by omega, by simp only [List.length_cons]; omega⟩
      · exact ⟨by omega, by simp only [List.length_cons]; omega⟩
theorem place_hit : ∀ {xs : List Int} {n : Int} {k : Nat}, xs[k]? = some n → (∀ j, j < k → xs[j]? ≠ some n) → place xs n = k
  | [], n, k, h, _ => by simp at h
  | x :: xs, n, 0, h, _ => by
    obtain rfl : x = n := by simpa using h
    simp [place]
  | x :: xs, n, k + 1, h, hj => by
    have hx : x ≠ n := fun e => hj 0 (by omega) (by simp [e])
    have ih := place_hit (xs := xs) (n := n) (k := k) (by simpa using h) (fun j h' => by have := hj (j + 1) (by omega); simpa using this)
    unfold place
    rw [if_neg hx, ih, if_neg (by omega)]; omega
theorem place_miss {xs : List Int} {n : Int} (h : n ∉ xs) : place xs n = -1 := by
  induction xs with
  | nil => rfl
  | cons x xs ih =>
    rw [List.mem_cons, not_or] at h
    unfold place
    rw [if_neg (fun e => h.1 e.symm), ih h.2]; rfl
theorem free_len (t : Trm) : (free t).length ≤ t.length := by
  have : ∀ (t : Trm) (out : List Int), (t.foldl freeStep out).length ≤ out.length + t.length := fun t => by
    induction t with
    | nil => intro out; simp
    | cons c t ih =>
      intro out
      have := ih (freeStep out c)
      have h2 : (freeStep out c).length ≤ out.length + 1 := by unfold freeStep; split <;> simp
      simp only [List.foldl_cons, List.length_cons]; omega
  simpa [free] using this t []
theorem free_take {t : Trm} {k : Nat} {c : Cell} (h : t[k]? = some c) : (t.take (k + 1)).foldl freeStep [] = freeStep ((t.take k).foldl freeStep []) c := by
  have hl := (List.getElem?_eq_some_iff.1 h).1
  rw [List.take_succ_eq_append_getElem hl, (List.getElem?_eq_some_iff.1 h).2, List.foldl_append]; rfl
end Go.Proofs.YtdoggcfdfkkedaaGreatDoor
namespace Go.Proofs.YtdoggcfdfkkedaaGreatDoor
open Go.RowKit
set_option maxRecDepth 100000
set_option maxHeartbeats 4000000
set_option linter.unusedVariables false
theorem int_at {e : Nat} {w : World} {A : Option Addr} {xs : List Int} (h : (Kd.int .i64).C e w A xs) {i : Nat} {x : Int} (hi : xs[i]? = some x) : ∃ ad, A = some ad ∧ w.cell? (ad.add i) = some (.int .i64 x) := by
  obtain ⟨ad, cs, _, _, ea, _, hk, hc⟩ := h i x hi
  obtain rfl : cs = [.int .i64 x] := hk
  have := hc 0 _ rfl
  rw [show i * (Kd.int .i64).sz + 0 = i from by show i * 1 + 0 = i; omega] at this
  exact ⟨ad, ea, this⟩
theorem has_c (xs : List Int) (A : Option Addr) (c : Nat) (n : Int) (w : World) (h : (Kd.int .i64).C 3 w A xs) (hl : xs.length ≤ 1000000000) :
    Calls Tryz.prog 118 #[.slice A xs.length c, .int .i64 n] w fun e w' => e = .returned (.bool (decide (n ∈ xs))) ∧ w = w' := by
  have H := Lib.hid h
  clear h
  go_enter Tryz.func118, Tryz.ntmps118
  go_wp2
  go_loop [5] (fun v5 => ∃ k : Nat, v5 = .int .i64 k ∧ k ≤ xs.length ∧ Hid (∀ j, j < k → xs[j]? ≠ some n)) (fun v5 => xs.length - (intOf v5).toNat)
  case atStart => exact ⟨0, rfl, Nat.zero_le _, Lib.hid (fun j h => by omega)⟩
  case round =>
    obtain ⟨k, rfl, hk, HJ⟩ := hrel
    by_cases hlt : k < xs.length
    · obtain ⟨x, hx⟩ : ∃ x, xs[k]? = some x := ⟨_, List.getElem?_eq_getElem hlt⟩
      obtain ⟨ad, rfl, hc⟩ := int_at H.out hx
      by_cases he : x = n
      · have e1 : (x == n) = true := beq_iff_eq.2 he
        have HV := Lib.hid (show decide (n ∈ xs) = true from decide_eq_true (by rw [← he]; exact List.mem_of_getElem? hx))
        clear he hx
        go_wp2
        go_ret
        exact ⟨ret_bool HV.out.symm, rfl⟩
      · have e1 : (x == n) = false := beq_eq_false_iff_ne.2 he
        have HN := Lib.hid (show ∀ j, j < k + 1 → xs[j]? ≠ some n from fun j hj => by
          rcases Nat.lt_or_ge j k with h' | h'
          · exact HJ.out j h'
          · obtain rfl : j = k := by omega
            rw [hx]; exact fun e => he (Option.some.inj e))
        clear he hx
        go_wp2
        exact ⟨⟨k + 1, by go_num, by omega, HN⟩, by simp [intOf]; omega⟩
    · have HV := Lib.hid (show decide (n ∈ xs) = false from decide_eq_false (fun hm => by
        obtain ⟨j, hj, e⟩ := List.mem_iff_getElem.1 hm
        exact HJ.out j (by omega) (by rw [List.getElem?_eq_getElem hj, e])))
      go_wp2
      go_ret
      exact ⟨ret_bool HV.out.symm, rfl⟩
theorem place_c (xs : List Int) (A : Option Addr) (c : Nat) (n : Int) (w : World) (h : (Kd.int .i64).C 3 w A xs) (hl : xs.length ≤ 1000000000) :
    Calls Tryz.prog 85 #[.slice A xs.length c, .int .i64 n] w fun e w' => e = .returned (.int .i64 (place xs n)) ∧ w = w' := by
  have H := Lib.hid h
  clear h
  go_enter Tryz.func85, Tryz.ntmps85
  go_wp2
  go_loop [5] (fun v5 => ∃ k : Nat, v5 = .int .i64 k ∧ k ≤ xs.length ∧ Hid (∀ j, j < k → xs[j]? ≠ some n)) (fun v5 => xs.length - (intOf v5).toNat)
  case atStart => exact ⟨0, rfl, Nat.zero_le _, Lib.hid (fun j h => by omega)⟩
  case round =>
    obtain ⟨k, rfl, hk, HJ⟩ := hrel
    by_cases hlt : k < xs.length
    · obtain ⟨x, hx⟩ : ∃ x, xs[k]? = some x := ⟨_, List.getElem?_eq_getElem hlt⟩
      obtain ⟨ad, rfl, hc⟩ := int_at H.out hx
      by_cases he : x = n
      · have e1 : (x == n) = true := beq_iff_eq.2 he
        have HV := Lib.hid (place_hit (by rw [← he]; exact hx) HJ.out)
        clear he hx
        go_wp2
        go_ret
        exact ⟨ret_int HV.out.symm, rfl⟩
      · have e1 : (x == n) = false := beq_eq_false_iff_ne.2 he
        have HN := Lib.hid (show ∀ j, j < k + 1 → xs[j]? ≠ some n from fun j hj => by
          rcases Nat.lt_or_ge j k with h' | h'
          · exact HJ.out j h'
          · obtain rfl : j = k := by omega
            rw [hx]; exact fun e => he (Option.some.inj e))
        clear he hx
        go_wp2
        exact ⟨⟨k + 1, by go_num, by omega, HN⟩, by simp [intOf]; omega⟩
    · have HV := Lib.hid (place_miss (xs := xs) (n := n) (fun hm => by
        obtain ⟨j, hj, e⟩ := List.mem_iff_getElem.1 hm
        exact HJ.out j (by omega) (by rw [List.getElem?_eq_getElem hj, e])))
      go_wp2
      go_ret
      exact ⟨ret_int HV.out.symm, rfl⟩
theorem infoInt : (Tryz.prog.info? 3).map (fun i => (i.zero, i.size, i.bytes)) = some (some (.int .i64 0), 1, 8) := by kernel_rfl
theorem free_c (t : Trm) (A : Option Addr) (c : Nat) (w : World) (h : Kd.cell.C 112 w A t) (hl : t.length ≤ 1000000000) :
    Calls Tryz.prog 84 #[.slice A t.length c] w fun e w' => ∃ v, e = .returned v ∧ (Kd.int .i64).O 3 w' w.heap.size v (free t) ∧ Below w.heap.size w w' := by
  have H := Lib.hid h
  clear h
  go_enter Tryz.func84, Tryz.ntmps84
  go_wp2
  go_loopw [3, 4] (fun v3 v4 wr => ∃ (k : Nat) (D : List Int), v4 = .int .i64 k ∧ k ≤ t.length ∧ D.length ≤ k ∧ Hid ((t.take k).foldl freeStep [] = D) ∧ Hid ((Kd.int .i64).O 3 wr w.heap.size v3 D) ∧ Hid (Below w.heap.size w wr)) (fun _ v4 _ => t.length - (intOf v4).toNat)
  case atStart => exact ⟨0, [], rfl, Nat.zero_le _, Nat.zero_le _, Lib.hid rfl, Lib.hid (Kd.O_empty (Kd.int .i64) _ w (Nat.le_refl _)), Lib.hid (bel_alloc (Below.refl _ _) _)⟩
  case round =>
    obtain ⟨k, D, rfl, hk, hD, HS, HO, HB⟩ := hrel
    by_cases hlt : k < t.length
    · obtain ⟨cc, hc⟩ : ∃ cc, t[k]? = some cc := ⟨_, List.getElem?_eq_getElem hlt⟩
      obtain ⟨ad, rfl, a1, a2, -⟩ := cell_at (Kd.C_ext HB.out H.out) hc
      have HT := Lib.hid (free_take hc)
      rw [HS.out] at HT
      obtain ⟨B, cB, rfl, hb1, hb2, hCB⟩ := Kd.O_read HO.out
      have HH := Lib.hid (has_c D B cB cc.n wr hCB (by omega))
      clear hc hCB
      by_cases h1 : cc.k = 1
      · have e1 : (cc.k == 1) = true := beq_iff_eq.2 h1
        by_cases hm : cc.n ∈ D
        · have HN := Lib.hid (show (t.take (k + 1)).foldl freeStep [] = D by rw [HT.out, freeStep, if_neg (fun h => h.2 hm)])
          rw [decide_eq_true hm] at HH
          clear hm h1
          go_wp2_with (go_at_call 118; refine HH.out.mono ?_; rintro e w1 ⟨rfl, rfl⟩)
          exact ⟨⟨k + 1, D, by go_num, by omega, by omega, HN, HO, HB⟩, by simp [intOf]; omega⟩
        · have HN := Lib.hid (show (t.take (k + 1)).foldl freeStep [] = D ++ [cc.n] by rw [HT.out, freeStep, if_pos ⟨h1, hm⟩])
          rw [decide_eq_false hm] at HH
          clear hm h1
          go_wp2_with (first | (go_at_call 118; refine HH.out.mono ?_; rintro e w1 ⟨rfl, rfl⟩) | (at_builtin; refine wp_append (d := Kd.int .i64) _ rfl (.tmp 28) (.tmp 34) 140 rfl w.heap.size 3 _ 8 Tryz.underlying140 infoInt rfl (by decide) _ D rfl (Kd.O_alloc _ HO.out) _ [cc.n] _ _ rfl rfl (Kd.C_lit (Kd.int .i64) _ (x := cc.n) (cs := [.int .i64 cc.n]) rfl) ?c1 ?c2 ?c3 (fun q hq => by simp [Kd.int] at hq) ?_; (case c1 => simp [maxLen]; omega); (case c2 => simp; omega); (case c3 => simp; have := HB.out.size; omega); intro v' w' ho hg hat; have hb := Lib.hid (bel_grown (bel_alloc HB.out _) (Kd.O_alloc _ HO.out) hg); have ho' := Lib.hid ho; clear ho hg hat))
          exact ⟨⟨k + 1, D ++ [cc.n], by go_num, by omega, by simp; omega, HN, ho', hb⟩, by simp [intOf]; omega⟩
      · have e1 : (cc.k == 1) = false := beq_eq_false_iff_ne.2 h1
        have HN := Lib.hid (show (t.take (k + 1)).foldl freeStep [] = D by rw [HT.out, freeStep, if_neg (fun h => h1 h.1)])
        clear h1
        go_wp2
        exact ⟨⟨k + 1, D, by go_num, by omega, by omega, HN, HO, HB⟩, by simp [intOf]; omega⟩
    · have HV := Lib.hid (show free t = D by rw [← HS.out, List.take_of_length_le (by omega)]; rfl)
      go_wp2
      go_ret
      exact ⟨_, rfl, by rw [HV.out]; exact HO.out, HB.out⟩
end Go.Proofs.YtdoggcfdfkkedaaGreatDoor
namespace Go.Proofs.YtdoggcfdfkkedaaGreatDoor
open Go.RowKit
set_option maxRecDepth 100000
set_option maxHeartbeats 4000000
set_option linter.unusedVariables false
theorem infoCell : (Tryz.prog.info? 112).map (fun i => (i.zero, i.size, i.bytes)) = some (some (.agg #[.int .i64 0, .int .i64 0, .string ⟨#[]⟩]), 3, 32) := by kernel_rfl
theorem lit2 (d : Kd Cell) (e : Nat) {w : World} {o : Obj} {x : Cell} {cs : List Value} (h : d.K (w.alloc o) x cs) : d.C e ((w.alloc o).alloc (.cells cs.toArray e)) (some ⟨w.heap.size + 1, 0, none⟩) [x] := by
  have := Kd.C_lit d e h
  rwa [show (w.alloc o).heap.size = w.heap.size + 1 from by show (w.heap.push o).size = _; rw [Array.size_push]] at this
def canonCell (xs : List Int) (c : Cell) : Cell := if c.k = 1 then { c with n := place xs c.n } else c
theorem canon_take {t : Trm} {k : Nat} {c : Cell} (f : Cell → Cell) (h : t[k]? = some c) : (t.take (k + 1)).map f = (t.take k).map f ++ [f c] := by
  have hl := (List.getElem?_eq_some_iff.1 h).1
  rw [List.take_succ_eq_append_getElem hl, (List.getElem?_eq_some_iff.1 h).2, List.map_append]; rfl
theorem canon_c (t : Trm) (A : Option Addr) (c : Nat) (w : World) (h : Kd.cell.C 112 w A t) (hl : t.length ≤ 1000000000) :
    Calls Tryz.prog 47 #[.slice A t.length c] w fun e w' => ∃ v, e = .returned v ∧ Kd.cell.S 112 w' v (canon t) ∧ Below w.heap.size w w' := by
  have H := Lib.hid h
  have HF := Lib.hid (free_c t A c w h hl)
  clear h
  go_enter Tryz.func47, Tryz.ntmps47
  go_wp2_with (go_at_call 84; refine HF.out.mono ?_; rintro e w1 ⟨v, rfl, hO, hb⟩; obtain ⟨F, cF, rfl, hf1, hf2, hCF⟩ := Kd.O_read hO; have HB1 := Lib.hid hb; have HFr := Lib.hid hCF; clear hO hb hCF)
  have hfl := free_len t
  go_loopw [4, 5] (fun v4 v5 wr => ∃ (k : Nat) (D : Trm), v5 = .int .i64 k ∧ k ≤ t.length ∧ D.length = k ∧ Hid ((t.take k).map (canonCell (free t)) = D) ∧ Hid (Kd.cell.O 112 wr w1.heap.size v4 D) ∧ Hid (Below w1.heap.size w1 wr)) (fun _ v5 _ => t.length - (intOf v5).toNat)
  case atStart => exact ⟨0, [], rfl, Nat.zero_le _, rfl, Lib.hid rfl, Lib.hid (Kd.O_empty Kd.cell _ w1 (Nat.le_refl _)), Lib.hid (bel_alloc (Below.refl _ _) _)⟩
  case round =>
    obtain ⟨k, D, rfl, hk, hD, HS, HO, HB⟩ := hrel
    by_cases hlt : k < t.length
    · obtain ⟨cc, hc⟩ : ∃ cc, t[k]? = some cc := ⟨_, List.getElem?_eq_getElem hlt⟩
      obtain ⟨ad, rfl, a1, a2, a3⟩ := cell_at (Kd.C_ext (bel_trans HB1.out HB.out) H.out) hc
      have HT := Lib.hid (canon_take (canonCell (free t)) hc)
      rw [HS.out] at HT
      clear hc
      by_cases h1 : cc.k = 1
      · have e1 : (cc.k == 1) = true := beq_iff_eq.2 h1
        have HP := Lib.hid (fun W (hb : Below w1.heap.size w1 W) => place_c (free t) F cF cc.n W (Kd.C_ext hb HFr.out) (by omega))
        obtain ⟨q, hq⟩ : ∃ q, place (free t) cc.n = q := ⟨_, rfl⟩
        have HC := Lib.hid (show canonCell (free t) cc = ⟨cc.k, q, cc.s⟩ by unfold canonCell; rw [if_pos h1, hq])
        rw [hq] at HP
        rw [HC.out] at HT
        clear h1 hq
        go_wp2_with (first | (go_at_call 85; refine (HP.out _ (bel_alloc HB.out _)).mono ?_; rintro e w2 ⟨rfl, rfl⟩) | (at_builtin; refine wp_append (d := Kd.cell) _ rfl (.tmp 28) (.tmp 30) 39 rfl w1.heap.size 112 _ 32 Tryz.underlying39 infoCell rfl (by decide) _ D rfl (Kd.O_alloc _ (Kd.O_alloc _ HO.out)) _ [(⟨cc.k, q, cc.s⟩ : Cell)] _ _ rfl rfl (lit2 Kd.cell _ (x := (⟨cc.k, q, cc.s⟩ : Cell)) (cs := [.int .i64 cc.k, .int .i64 q, .string cc.s]) rfl) ?c1 ?c2 ?c3 (fun q hq => by simp [Kd.cell] at hq) ?_; (case c1 => simp [maxLen]; omega); (case c2 => simp; omega); (case c3 => simp; have := HB.out.size; omega); intro v' w' ho hg hat; have hb := Lib.hid (bel_grown (bel_alloc (bel_alloc HB.out _) _) (Kd.O_alloc _ (Kd.O_alloc _ HO.out)) hg); have ho' := Lib.hid ho; clear ho hg hat))
        exact ⟨⟨k + 1, D ++ [⟨cc.k, q, cc.s⟩], by go_num, by omega, by simp; omega, HT, ho', hb⟩, by simp [intOf]; omega⟩
      · have e1 : (cc.k == 1) = false := beq_eq_false_iff_ne.2 h1
        have HC := Lib.hid (show canonCell (free t) cc = cc by unfold canonCell; rw [if_neg h1])
        rw [HC.out] at HT
        clear h1
        go_wp2_with (at_builtin; refine wp_append (d := Kd.cell) _ rfl (.tmp 28) (.tmp 30) 39 rfl w1.heap.size 112 _ 32 Tryz.underlying39 infoCell rfl (by decide) _ D rfl (Kd.O_alloc _ (Kd.O_alloc _ HO.out)) _ [cc] _ _ rfl rfl (lit2 Kd.cell _ (x := cc) (cs := [.int .i64 cc.k, .int .i64 cc.n, .string cc.s]) rfl) ?c1 ?c2 ?c3 (fun q hq => by simp [Kd.cell] at hq) ?_; (case c1 => simp [maxLen]; omega); (case c2 => simp; omega); (case c3 => simp; have := HB.out.size; omega); intro v' w' ho hg hat; have hb := Lib.hid (bel_grown (bel_alloc (bel_alloc HB.out _) _) (Kd.O_alloc _ (Kd.O_alloc _ HO.out)) hg); have ho' := Lib.hid ho; clear ho hg hat)
        exact ⟨⟨k + 1, D ++ [cc], by go_num, by omega, by simp; omega, HT, ho', hb⟩, by simp [intOf]; omega⟩
    · have HV := Lib.hid (show canon t = D by rw [← HS.out, List.take_of_length_le (by omega)]; rfl)
      go_wp2
      go_ret
      exact ⟨_, rfl, by rw [HV.out]; exact Kd.O_read HO.out, bel_trans HB1.out HB.out⟩
def shiftCell (n : Int) (c : Cell) : Cell := if c.k = 1 then { c with n := c.n + n } else c
theorem shift_c (t : Trm) (A : Option Addr) (c : Nat) (n : Int) (w : World) (h : Kd.cell.C 112 w A t) (hl : t.length ≤ 1000000000) (hn0 : -1000000000 ≤ n) (hn1 : n ≤ 1000000000) (hc0 : ∀ x ∈ t, -1000000000 ≤ x.n ∧ x.n ≤ 1000000000) :
    Calls Tryz.prog 87 #[.slice A t.length c, .int .i64 n] w fun e w' => ∃ v, e = .returned v ∧ Kd.cell.S 112 w' v (shift t n) ∧ Below w.heap.size w w' := by
  have H := Lib.hid h
  have HC0 := Lib.hid hc0
  clear h hc0
  go_enter Tryz.func87, Tryz.ntmps87
  go_wp2
  go_loopw [5, 6] (fun v4 v5 wr => ∃ (k : Nat) (D : Trm), v5 = .int .i64 k ∧ k ≤ t.length ∧ D.length = k ∧ Hid ((t.take k).map (shiftCell n) = D) ∧ Hid (Kd.cell.O 112 wr w.heap.size v4 D) ∧ Hid (Below w.heap.size w wr)) (fun _ v5 _ => t.length - (intOf v5).toNat)
  case atStart => exact ⟨0, [], rfl, Nat.zero_le _, rfl, Lib.hid rfl, Lib.hid (Kd.O_empty Kd.cell _ w (Nat.le_refl _)), Lib.hid (bel_alloc (Below.refl _ _) _)⟩
  case round =>
    obtain ⟨k, D, rfl, hk, hD, HS, HO, HB⟩ := hrel
    by_cases hlt : k < t.length
    · obtain ⟨cc, hc⟩ : ∃ cc, t[k]? = some cc := ⟨_, List.getElem?_eq_getElem hlt⟩
      obtain ⟨ad, rfl, a1, a2, a3⟩ := cell_at (Kd.C_ext HB.out H.out) hc
      have hcn := HC0.out cc (List.mem_of_getElem? hc)
      have HT := Lib.hid (canon_take (shiftCell n) hc)
      rw [HS.out] at HT
      clear hc
      by_cases h1 : cc.k = 1
      · have e1 : (cc.k == 1) = true := beq_iff_eq.2 h1
        obtain ⟨q, hq⟩ : ∃ q, cc.n + n = q := ⟨_, rfl⟩
        have HC := Lib.hid (show shiftCell n cc = ⟨cc.k, q, cc.s⟩ by unfold shiftCell; rw [if_pos h1, hq])
        rw [HC.out] at HT
        clear h1
        go_wp2_with ((at_builtin; refine wp_append (d := Kd.cell) _ rfl (.tmp 27) (.tmp 29) 39 rfl w.heap.size 112 _ 32 Tryz.underlying39 infoCell rfl (by decide) _ D rfl (Kd.O_alloc _ (Kd.O_alloc _ HO.out)) _ [(⟨cc.k, q, cc.s⟩ : Cell)] _ _ rfl rfl (lit2 Kd.cell _ (x := (⟨cc.k, q, cc.s⟩ : Cell)) (cs := [.int .i64 cc.k, .int .i64 q, .string cc.s]) rfl) ?c1 ?c2 ?c3 (fun q hq => by simp [Kd.cell] at hq) ?_; (case c1 => simp [maxLen]; omega); (case c2 => simp; omega); (case c3 => simp; have := HB.out.size; omega); intro v' w' ho hg hat; have hb := Lib.hid (bel_grown (bel_alloc (bel_alloc HB.out _) _) (Kd.O_alloc _ (Kd.O_alloc _ HO.out)) hg); have ho' := Lib.hid ho; clear ho hg hat))
        exact ⟨⟨k + 1, D ++ [⟨cc.k, q, cc.s⟩], by go_num, by omega, by simp; omega, HT, ho', hb⟩, by simp [intOf]; omega⟩
      · have e1 : (cc.k == 1) = false := beq_eq_false_iff_ne.2 h1
        have HC := Lib.hid (show shiftCell n cc = cc by unfold shiftCell; rw [if_neg h1])
        rw [HC.out] at HT
        clear h1
        go_wp2_with (at_builtin; refine wp_append (d := Kd.cell) _ rfl (.tmp 27) (.tmp 29) 39 rfl w.heap.size 112 _ 32 Tryz.underlying39 infoCell rfl (by decide) _ D rfl (Kd.O_alloc _ (Kd.O_alloc _ HO.out)) _ [cc] _ _ rfl rfl (lit2 Kd.cell _ (x := cc) (cs := [.int .i64 cc.k, .int .i64 cc.n, .string cc.s]) rfl) ?c1 ?c2 ?c3 (fun q hq => by simp [Kd.cell] at hq) ?_; (case c1 => simp [maxLen]; omega); (case c2 => simp; omega); (case c3 => simp; have := HB.out.size; omega); intro v' w' ho hg hat; have hb := Lib.hid (bel_grown (bel_alloc (bel_alloc HB.out _) _) (Kd.O_alloc _ (Kd.O_alloc _ HO.out)) hg); have ho' := Lib.hid ho; clear ho hg hat)
        exact ⟨⟨k + 1, D ++ [cc], by go_num, by omega, by simp; omega, HT, ho', hb⟩, by simp [intOf]; omega⟩
    · have HV := Lib.hid (show shift t n = D by rw [← HS.out, List.take_of_length_le (by omega)]; rfl)
      go_wp2
      go_ret
      exact ⟨_, rfl, by rw [HV.out]; exact Kd.O_read HO.out, HB.out⟩
end Go.Proofs.YtdoggcfdfkkedaaGreatDoor
namespace Go.Proofs.YtdoggcfdfkkedaaGreatDoor
open Go.RowKit
set_option maxRecDepth 100000
set_option maxHeartbeats 4000000
set_option linter.unusedVariables false
theorem same_c (t u : Trm) (A B : Option Addr) (c d : Nat) (w : World) (h : Kd.cell.C 112 w A t) (h' : Kd.cell.C 112 w B u) (hl : t.length ≤ 1000000000) (hl' : u.length ≤ 1000000000) :
    Calls Tryz.prog 46 #[.slice A t.length c, .slice B u.length d] w fun e w' => e = .returned (.bool (decide (t = u))) ∧ Below w.heap.size w w' := by
  by_cases hlen : t.length = u.length
  · have H := Lib.hid h
    have H' := Lib.hid h'
    have HL := Lib.hid hlen
    clear h h'
    rw [← hlen]
    clear hlen hl'
    go_enter Tryz.func46, Tryz.ntmps46
    go_wp2
    go_loopw [5] (fun v5 wr => ∃ k : Nat, v5 = .int .i64 k ∧ k ≤ t.length ∧ Hid (t.take k = u.take k) ∧ Hid (Below w.heap.size w wr)) (fun v5 _ => t.length - (intOf v5).toNat)
    case atStart => exact ⟨0, rfl, Nat.zero_le _, Lib.hid rfl, Lib.hid (Below.refl _ _)⟩
    case round =>
      obtain ⟨k, rfl, hk, HS, HB⟩ := hrel
      by_cases hlt : k < t.length
      · obtain ⟨x, hx⟩ : ∃ x, t[k]? = some x := ⟨_, List.getElem?_eq_getElem hlt⟩
        obtain ⟨y, hy⟩ : ∃ y, u[k]? = some y := ⟨_, List.getElem?_eq_getElem (show k < u.length by rw [← HL.out]; exact hlt)⟩
        obtain ⟨ad, rfl, a1, a2, a3⟩ := cell_at (Kd.C_ext HB.out H.out) hx
        obtain ⟨ad', rfl, b1, b2, b3⟩ := cell_at (Kd.C_ext HB.out H'.out) hy
        by_cases hxy : x = y
        · subst hxy
          have HN := Lib.hid (show t.take (k + 1) = u.take (k + 1) by
            rw [List.take_add_one, List.take_add_one, HS.out, hx, hy])
          clear hx hy
          go_upto_region 6 with fail
          go_quiet (fail)
          go_wp2
          exact ⟨⟨k + 1, by go_num, by omega, HN, Lib.hid (bel_drewN HB.out _)⟩, by simp [intOf]; omega⟩
        · have HV := Lib.hid (show decide (t = u) = false from decide_eq_false (fun e => hxy (by rw [e, hy] at hx; exact (Option.some.inj hx).symm)))
          clear hx hy
          by_cases hk1 : x.k = y.k
          · by_cases hn1 : x.n = y.n
            · have hs1 : (x.s.toList == y.s.toList) = false := by
                rw [Lib.toList_data, Lib.toList_data]
                exact beq_eq_false_iff_ne.2 (fun e => hxy (by
                  obtain ⟨k1, n1, s1⟩ := x
                  obtain ⟨k2, n2, s2⟩ := y
                  obtain rfl : k1 = k2 := hk1
                  obtain rfl : n1 = n2 := hn1
                  have e : s1 = s2 := ByteArray.ext (Array.toList_inj.1 e)
                  rw [e]))
              clear hxy
              go_upto_region 6 with fail
              go_quiet (fail)
              go_wp2
              go_ret
              exact ⟨ret_bool HV.out.symm, bel_drewN HB.out _⟩
            · have e1 : (x.n == y.n) = false := beq_eq_false_iff_ne.2 hn1
              clear hxy hn1
              go_upto_region 6 with fail
              go_quiet (fail)
              go_wp2
              go_ret
              exact ⟨ret_bool HV.out.symm, bel_drewN HB.out _⟩
          · have e1 : (x.k == y.k) = false := beq_eq_false_iff_ne.2 hk1
            clear hxy hk1
            go_upto_region 6 with fail
            go_quiet (fail)
            go_wp2
            go_ret
            exact ⟨ret_bool HV.out.symm, bel_drewN HB.out _⟩
      · have HV := Lib.hid (show decide (t = u) = true from decide_eq_true (by
          have e := HS.out
          rwa [List.take_of_length_le (by omega), List.take_of_length_le (by rw [← HL.out]; omega)] at e))
        go_wp2
        go_ret
        exact ⟨ret_bool HV.out.symm, HB.out⟩
  · have hne : ((t.length : Int) != (u.length : Int)) = true := bne_iff_ne.2 (by omega)
    have HV := Lib.hid (show decide (t = u) = false from decide_eq_false (fun e => hlen (by rw [e])))
    go_enter Tryz.func46, Tryz.ntmps46
    go_wp2
    go_ret
    exact ⟨ret_bool HV.out.symm, Below.refl _ _⟩
end Go.Proofs.YtdoggcfdfkkedaaGreatDoor
