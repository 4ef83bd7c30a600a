/- Contracts of the reference's functions over places and terms. -/
import Derived.Test.YtjnangiggnmkoaaGreatDoorCTerm
import Derived.Test.YtjnangiggnmkoaaGreatDoorCText
namespace Go.Proofs.YtjnangiggnmkoaaGreatDoor
open Go.RowKit
set_option maxRecDepth 100000
set_option maxHeartbeats 1000000
set_option linter.unusedVariables false
theorem lIn_c (a lo hi : Int) (w : World) : Calls Tryz.prog 25 #[.int .i64 a, .int .i64 lo, .int .i64 hi] w fun e w' => e = .returned (.bool (decide (lo ≤ a) && decide (a ≤ hi))) ∧ w = w' := by
  by_cases h1 : lo ≤ a
  · by_cases h2 : a ≤ hi
    · have hb := Lib.hid (show (decide (lo ≤ a) && decide (a ≤ hi)) = true by rw [decide_eq_true h1, decide_eq_true h2]; rfl)
      rw [hb.out]
      go_enter Tryz.func25, Tryz.ntmps25
      go_wp2
      go_ret
      exact ⟨rfl, rfl⟩
    · have hb := Lib.hid (show (decide (lo ≤ a) && decide (a ≤ hi)) = false by rw [decide_eq_true h1, decide_eq_false h2]; rfl)
      rw [hb.out]
      go_enter Tryz.func25, Tryz.ntmps25
      go_wp2
      go_ret
      exact ⟨rfl, rfl⟩
  · have hb := Lib.hid (show (decide (lo ≤ a) && decide (a ≤ hi)) = false by rw [decide_eq_false h1]; rfl)
    rw [hb.out]
    go_enter Tryz.func25, Tryz.ntmps25
    go_wp2
    go_ret
    exact ⟨rfl, rfl⟩
theorem lower_byt {s : ByteArray} {i : Nat} (h : i < s.size) : lower s[i] = (decide (97 ≤ byt s i) && decide (byt s i ≤ 122)) := by
  rw [← byt_at s i h, lower]
  congr 1 <;> exact decide_eq_decide.2 (by omega)
theorem nameOk_all {s : ByteArray} (h1 : 1 ≤ s.size) (h2 : s.size ≤ 8) (h3 : (s.data.toList == [97, 110, 100]) = false) (h : ∀ i (hi : i < s.size), lower s[i] = true) : nameOk s = true := by
  unfold nameOk
  rw [decide_eq_true h1, decide_eq_true h2, h3]
  have : s.data.toList.all lower = true := List.all_eq_true.2 (fun b hb => by
    obtain ⟨i, hi, rfl⟩ := List.mem_iff_getElem.1 hb
    rw [Array.length_toList] at hi
    have := h i hi
    rwa [Array.getElem_toList])
  rw [this]; rfl
theorem nameOk_not {s : ByteArray} {i : Nat} (hi : i < s.size) (h : lower s[i] = false) : nameOk s = false := by
  unfold nameOk
  have : s.data.toList.all lower = false := by
    rw [Bool.eq_false_iff]
    intro ha
    have := List.all_eq_true.1 ha s[i] (List.mem_of_getElem? (byte_at s i hi))
    rw [h] at this; cases this
  rw [this]; simp
theorem name_c (s : ByteArray) (w : World) : Calls Tryz.prog 82 #[.string s] w fun e w' => e = .returned (.bool (nameOk s)) ∧ w = w' := by
  by_cases h0 : s.size = 0
  · have HV := Lib.hid (show nameOk s = false by unfold nameOk; rw [decide_eq_false (by omega)]; rfl)
    have e0 : ((s.size : Int) == 0) = true := beq_iff_eq.2 (by omega)
    go_enter Tryz.func82, Tryz.ntmps82
    go_wp2
    go_ret
    exact ⟨ret_bool HV.out.symm, rfl⟩
  have e0 : ((s.size : Int) == 0) = false := beq_eq_false_iff_ne.2 (by omega)
  by_cases h8 : 8 < s.size
  · have HV := Lib.hid (show nameOk s = false by unfold nameOk; rw [decide_eq_false (show ¬ s.size ≤ 8 by omega)]; simp)
    have e8 : decide ((8 : Int) < s.size) = true := decide_eq_true (by omega)
    go_enter Tryz.func82, Tryz.ntmps82
    go_wp2
    go_ret
    exact ⟨ret_bool HV.out.symm, rfl⟩
  have e8 : decide ((8 : Int) < s.size) = false := decide_eq_false (by omega)
  by_cases ha : s = ⟨#[97, 110, 100]⟩
  · subst ha
    have HV := Lib.hid (show nameOk ⟨#[97, 110, 100]⟩ = false by decide +kernel)
    go_enter Tryz.func82, Tryz.ntmps82
    go_wp2
    go_ret
    exact ⟨ret_bool HV.out.symm, rfl⟩
  have hne : (s.toList == [97, 110, 100]) = false := by
    rw [Lib.toList_data]
    exact beq_eq_false_iff_ne.2 (fun e => ha (ByteArray.ext (Array.toList_inj.1 e)))
  have HA := Lib.hid (show (s.data.toList == [97, 110, 100]) = false from beq_eq_false_iff_ne.2 (fun e => ha (ByteArray.ext (Array.toList_inj.1 e))))
  clear ha
  go_enter Tryz.func82, Tryz.ntmps82
  go_wp2
  go_loop [3] (fun v3 => ∃ i : Nat, v3 = .int .i64 i ∧ i ≤ s.size ∧ Hid (∀ j (hj : j < s.size), j < i → lower s[j] = true)) (fun v3 => s.size - (intOf v3).toNat)
  case atStart => exact ⟨0, rfl, by omega, Lib.hid (fun j _ h => by omega)⟩
  case round =>
    obtain ⟨i, rfl, hi, HJ⟩ := hrel
    by_cases hlt : i < s.size
    · have hx := byt_at s i
      by_cases h97 : byt s i < 97
      · have HV := Lib.hid (nameOk_not hlt (by rw [lower_byt hlt, decide_eq_false (by omega)]; rfl))
        go_wp2
        go_ret
        exact ⟨ret_bool HV.out.symm, rfl⟩
      · by_cases h122 : 122 < byt s i
        · have HV := Lib.hid (nameOk_not hlt (by rw [lower_byt hlt, decide_eq_false (show ¬ byt s i ≤ 122 by omega)]; simp))
          go_wp2
          go_ret
          exact ⟨ret_bool HV.out.symm, rfl⟩
        · have HN := Lib.hid (show ∀ j (hj : j < s.size), j < i + 1 → lower s[j] = true from fun j hj h => by
            rcases Nat.lt_or_ge j i with h' | h'
            · exact HJ.out j hj h'
            · obtain rfl : j = i := by omega
              rw [lower_byt hlt, decide_eq_true (by omega), decide_eq_true (by omega)]; rfl)
          go_wp2
          exact ⟨⟨i + 1, by go_num, by omega, HN⟩, by simp [intOf]; omega⟩
    · have HV := Lib.hid (nameOk_all (by omega) (by omega) HA.out (fun j hj => HJ.out j hj (by omega)))
      go_wp2
      go_ret
      exact ⟨ret_bool HV.out.symm, rfl⟩
theorem cellOk_c (c : Cell) (w : World) : Calls Tryz.prog 51 #[.agg #[.int .i64 c.k, .int .i64 c.n, .string c.s]] w fun e w' => e = .returned (.bool (cellOk c)) ∧ Below w.heap.size w w' := by
  have HN := Lib.hid (fun W => name_c c.s W)
  by_cases h1 : c.k = 1
  · have e1 : (c.k == 1) = true := beq_iff_eq.2 h1
    have HV := Lib.hid (show cellOk c = ((decide (0 ≤ c.n) && decide (c.n ≤ 99999)) && c.s.toList.isEmpty) by unfold cellOk; rw [if_pos h1, Lib.toList_data])
    obtain ⟨q, hq⟩ : ∃ q, (decide (0 ≤ c.n) && decide (c.n ≤ 99999)) = q := ⟨_, rfl⟩
    have HI2 := Lib.hid (fun W => lIn_c c.n (0) 99999 W)
    rw [hq] at HI2 HV
    clear HN hq
    cases q
    all_goals
      go_enter Tryz.func51, Tryz.ntmps51
      go_wp2_with (go_at_call 25; refine (HI2.out _).mono ?_; rintro e w1 ⟨rfl, rfl⟩)
      go_ret
      exact ⟨ret_bool (by rw [HV.out]; simp), bel_alloc (Below.refl _ _) _⟩
  by_cases h2 : c.k = 2
  · have e2 : (c.k == 2) = true := beq_iff_eq.2 h2
    have n1 : (c.k == 1) = false := beq_eq_false_iff_ne.2 (by omega)
    have HV := Lib.hid (show cellOk c = ((decide (-9999 ≤ c.n) && decide (c.n ≤ 9999)) && c.s.toList.isEmpty) by unfold cellOk; rw [if_neg (by omega)]; rw [if_pos h2, Lib.toList_data])
    obtain ⟨q, hq⟩ : ∃ q, (decide (-9999 ≤ c.n) && decide (c.n ≤ 9999)) = q := ⟨_, rfl⟩
    have HI2 := Lib.hid (fun W => lIn_c c.n (-9999) 9999 W)
    rw [hq] at HI2 HV
    clear HN hq
    cases q
    all_goals
      go_enter Tryz.func51, Tryz.ntmps51
      go_wp2_with (go_at_call 25; refine (HI2.out _).mono ?_; rintro e w1 ⟨rfl, rfl⟩)
      go_ret
      exact ⟨ret_bool (by rw [HV.out]; simp), bel_alloc (Below.refl _ _) _⟩
  by_cases h3 : c.k = 3
  · have e3 : (c.k == 3) = true := beq_iff_eq.2 h3
    have n1 : (c.k == 1) = false := beq_eq_false_iff_ne.2 (by omega)
    have n2 : (c.k == 2) = false := beq_eq_false_iff_ne.2 (by omega)
    have HV := Lib.hid (show cellOk c = ((decide (0 ≤ c.n) && decide (c.n ≤ 3)) && nameOk c.s) by unfold cellOk; rw [if_neg h1, if_neg h2, if_pos h3])
    obtain ⟨q, hq⟩ : ∃ q, (decide (0 ≤ c.n) && decide (c.n ≤ 3)) = q := ⟨_, rfl⟩
    have HI2 := Lib.hid (fun W => lIn_c c.n 0 3 W)
    rw [hq] at HI2 HV
    clear hq
    cases q
    all_goals
      go_enter Tryz.func51, Tryz.ntmps51
      go_wp2_with (first | (go_at_call 25; refine (HI2.out _).mono ?_; rintro e w1 ⟨rfl, rfl⟩) | (go_at_call 82; refine (HN.out _).mono ?_; rintro e w1 ⟨rfl, rfl⟩))
      go_ret
      exact ⟨ret_bool (by rw [HV.out]; simp), bel_alloc (Below.refl _ _) _⟩
  · have n1 : (c.k == 1) = false := beq_eq_false_iff_ne.2 h1
    have n2 : (c.k == 2) = false := beq_eq_false_iff_ne.2 h2
    have n3 : (c.k == 3) = false := beq_eq_false_iff_ne.2 h3
    have HV := Lib.hid (show cellOk c = false by unfold cellOk; rw [if_neg h1, if_neg h2, if_neg h3])
    go_enter Tryz.func51, Tryz.ntmps51
    go_wp2
    go_ret
    exact ⟨ret_bool HV.out.symm, bel_alloc (Below.refl _ _) _⟩
theorem skip_step {t : Trm} {k open' : Nat} {R : Option Nat} {at0 : Nat} {c : Cell} (h : R = (skip open' (t.drop k)).map (k - at0 + ·)) (hk : at0 ≤ k) (ho : 0 < open') (hc : t[k]? = some c) :
    R = (skip (open' - 1 + (ar c).toNat) (t.drop (k + 1))).map (k + 1 - at0 + ·) := by
  have hl := (List.getElem?_eq_some_iff.1 hc).1
  rw [h, List.drop_eq_getElem_cons hl, (List.getElem?_eq_some_iff.1 hc).2]
  obtain ⟨m, rfl⟩ : ∃ m, open' = m + 1 := ⟨open' - 1, by omega⟩
  rw [skip, Option.map_map]
  have e : m + 1 - 1 + (ar c).toNat = m + (ar c).toNat := by omega
  rw [e]; congr 1; funext x; simp; omega
/-- Where a term ends: -1, if it does not. -/
def endAt (t : Trm) (k : Nat) : Int := match skip 1 (t.drop k) with
  | some n => (k + n : Nat)
  | none => -1
theorem end_c (t : Trm) (A : Option Addr) (c at0 : Nat) (w : World) (h : Kd.cell.C 47 w A t) (ht : t.all cellOk = true) (hl : t.length ≤ 1000) (ha : at0 ≤ t.length) :
    Calls Tryz.prog 52 #[.slice A t.length c, .int .i64 at0] w fun e w' => e = .returned (.int .i64 (endAt t at0)) ∧ w = w' := by
  have H := Lib.hid h
  have HT := Lib.hid ht
  clear h ht
  go_enter Tryz.func52, Tryz.ntmps52
  go_wp2
  go_loop [5, 6] (fun v5 v6 => ∃ o k : Nat, v5 = .int .i64 o ∧ v6 = .int .i64 k ∧ at0 ≤ k ∧ k ≤ t.length ∧ o ≤ 3 * k + 1 ∧ Hid (skip 1 (t.drop at0) = (skip o (t.drop k)).map (k - at0 + ·))) (fun _ v6 => t.length + 1 - (intOf v6).toNat)
  case atStart => exact ⟨1, at0, rfl, rfl, Nat.le_refl _, ha, by omega, Lib.hid (by simp)⟩
  case round =>
    obtain ⟨o, k, rfl, rfl, hk1, hk2, ho, HS⟩ := hrel
    by_cases h0 : 0 < o
    · by_cases hlt : k < t.length
      · obtain ⟨cc, hc⟩ : ∃ cc, t[k]? = some cc := ⟨_, List.getElem?_eq_getElem hlt⟩
        obtain ⟨ad, rfl, a1, a2, -⟩ := cell_at H.out hc
        have hr := ar_of_ok (List.all_eq_true.1 HT.out cc (List.mem_of_getElem? hc))
        have HN := Lib.hid (skip_step HS.out hk1 h0 hc)
        obtain ⟨a, hav⟩ := Int.eq_ofNat_of_zero_le hr.1
        rw [hav] at HN hr
        by_cases h3 : cc.k = 3
        · have e3 : (cc.k == 3) = true := beq_iff_eq.2 h3
          have en : cc.n = a := by rw [← hav]; unfold ar; rw [if_pos h3]
          rw [en] at a2
          clear hc hav h3 en
          go_wp2
          exact ⟨⟨o - 1 + a, k + 1, by go_num, by go_num, by omega, by omega, by omega, HN⟩, by simp [intOf]; omega⟩
        · have e3 : (cc.k == 3) = false := beq_eq_false_iff_ne.2 h3
          have en : a = 0 := by have : (a : Int) = 0 := by rw [← hav]; unfold ar; rw [if_neg h3]
                                omega
          subst en
          clear hc hav h3
          go_wp2
          exact ⟨⟨o - 1, k + 1, by go_num, by go_num, by omega, by omega, by omega, HN⟩, by simp [intOf]; omega⟩
      · have HV := Lib.hid (show endAt t at0 = -1 by
          unfold endAt; rw [HS.out, show k = t.length by omega, List.drop_length]
          obtain ⟨m, rfl⟩ : ∃ m, o = m + 1 := ⟨o - 1, by omega⟩
          rfl)
        go_wp2
        go_ret
        exact ⟨ret_int HV.out.symm, rfl⟩
    · have HV := Lib.hid (show endAt t at0 = (k : Int) by
        obtain rfl : o = 0 := by omega
        unfold endAt; rw [HS.out, show skip 0 (t.drop k) = some 0 by simp [skip]]
        show ((at0 + (k - at0 + 0) : Nat) : Int) = k
        omega)
      go_wp2
      go_ret
      exact ⟨ret_int HV.out.symm, rfl⟩
theorem endAt_all (t : Trm) : (endAt t 0 = t.length) ↔ skip 1 t = some t.length := by
  unfold endAt
  rw [List.drop_zero]
  cases h : skip 1 t with
  | none =>
    constructor
    · intro e; have e : (-1 : Int) = t.length := e; omega
    · intro e; cases e
  | some n =>
    constructor
    · intro e; have e : ((0 + n : Nat) : Int) = t.length := e; congr 1; omega
    · intro e; obtain rfl := Option.some.inj e; show ((0 + t.length : Nat) : Int) = t.length; omega
theorem trmOk_c (t : Trm) (A : Option Addr) (c : Nat) (w : World) (h : Kd.cell.C 47 w A t) (hl : t.length ≤ 1000000000) :
    Calls Tryz.prog 26 #[.slice A t.length c] w fun e w' => e = .returned (.bool (trmOk t)) ∧ Below w.heap.size w w' := by
  by_cases h0 : t.length = 0
  · have e0 : ((t.length : Int) == 0) = true := beq_iff_eq.2 (by omega)
    have HV := Lib.hid (show trmOk t = false by unfold trmOk; rw [decide_eq_false (by omega)]; rfl)
    go_enter Tryz.func26, Tryz.ntmps26
    go_wp2
    go_ret
    exact ⟨ret_bool HV.out.symm, Below.refl _ _⟩
  have e0 : ((t.length : Int) == 0) = false := beq_eq_false_iff_ne.2 (by omega)
  by_cases h40 : 40 < t.length
  · have e40 : decide ((40 : Int) < t.length) = true := decide_eq_true (by omega)
    have HV := Lib.hid (show trmOk t = false by unfold trmOk; rw [decide_eq_false (show ¬ t.length ≤ 40 by omega)]; simp)
    go_enter Tryz.func26, Tryz.ntmps26
    go_wp2
    go_ret
    exact ⟨ret_bool HV.out.symm, Below.refl _ _⟩
  have e40 : decide ((40 : Int) < t.length) = false := decide_eq_false (by omega)
  have H := Lib.hid h
  clear h
  go_enter Tryz.func26, Tryz.ntmps26
  go_wp2
  go_loopw [3] (fun v3 wr => ∃ k : Nat, v3 = .int .i64 k ∧ k ≤ t.length ∧ Hid (∀ j c, j < k → t[j]? = some c → cellOk c = true) ∧ Hid (Below w.heap.size w wr)) (fun v3 _ => t.length - (intOf v3).toNat)
  case atStart => exact ⟨0, rfl, Nat.zero_le _, Lib.hid (fun j c h => by omega), Lib.hid (Below.refl _ _)⟩
  case round =>
    obtain ⟨k, rfl, hk, HJ, HB⟩ := hrel
    by_cases hlt : k < t.length
    · obtain ⟨cc, hc⟩ : ∃ cc, t[k]? = some cc := ⟨_, List.getElem?_eq_getElem hlt⟩
      obtain ⟨ad, rfl, a1, a2, a3⟩ := cell_at (Kd.C_ext HB.out H.out) hc
      have HA := Lib.hid (fun W => cellOk_c cc W)
      cases hq : cellOk cc with
      | false =>
        have HV := Lib.hid (show trmOk t = false by
          unfold trmOk
          have : t.all cellOk = false := by
            rw [Bool.eq_false_iff]; intro ha
            have := List.all_eq_true.1 ha cc (List.mem_of_getElem? hc)
            rw [hq] at this; cases this
          rw [this]; simp)
        rw [hq] at HA
        clear hq hc
        go_wp2_with (go_at_call 51; refine (HA.out _).mono ?_; rintro e w1 ⟨rfl, hb⟩)
        go_ret
        exact ⟨ret_bool HV.out.symm, bel_trans HB.out hb⟩
      | true =>
        have HN := Lib.hid (show ∀ j c, j < k + 1 → t[j]? = some c → cellOk c = true from fun j c' hj hc' => by
          rcases Nat.lt_or_ge j k with h' | h'
          · exact HJ.out j c' h' hc'
          · obtain rfl : j = k := by omega
            rw [hc] at hc'; obtain rfl := Option.some.inj hc'; exact hq)
        rw [hq] at HA
        clear hq hc
        go_wp2_with (go_at_call 51; refine (HA.out _).mono ?_; rintro e w1 ⟨rfl, hb⟩)
        exact ⟨⟨k + 1, by go_num, by omega, HN, Lib.hid (bel_trans HB.out hb)⟩, by simp [intOf]; omega⟩
    · have hall : t.all cellOk = true := List.all_eq_true.2 (fun c hc => by
        obtain ⟨j, hj, rfl⟩ := List.mem_iff_getElem.1 hc
        exact HJ.out j _ (by omega) (List.getElem?_eq_getElem hj))
      have HE := Lib.hid (end_c t A c 0 wr (Kd.C_ext HB.out H.out) hall (by omega) (Nat.zero_le _))
      by_cases hs : skip 1 t = some t.length
      · have HV := Lib.hid (show trmOk t = true by unfold trmOk; rw [decide_eq_true (by omega), decide_eq_true (by omega), hall, decide_eq_true hs]; rfl)
        rw [(endAt_all t).2 hs] at HE
        clear hs hall
        go_wp2_with (go_at_call 52; refine HE.out.mono ?_; rintro e w1 ⟨rfl, rfl⟩)
        go_ret
        exact ⟨ret_bool (by rw [HV.out]), HB.out⟩
      · have HV := Lib.hid (show trmOk t = false by unfold trmOk; rw [decide_eq_false hs]; simp)
        have hne : (endAt t 0 == (t.length : Int)) = false := beq_eq_false_iff_ne.2 (fun e => hs ((endAt_all t).1 e))
        obtain ⟨z, hz⟩ : ∃ z, endAt t 0 = z := ⟨_, rfl⟩
        rw [hz] at HE hne
        clear hs hall hz
        go_wp2_with (go_at_call 52; refine HE.out.mono ?_; rintro e w1 ⟨rfl, rfl⟩)
        go_ret
        exact ⟨ret_bool (by rw [HV.out]), HB.out⟩
end Go.Proofs.YtjnangiggnmkoaaGreatDoor
