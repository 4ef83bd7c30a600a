/- What the reference's functions over lines give: contracts. -/
import Derived.Test.YtjnangiggnmkoaaDoorCText
import Derived.Test.YtjnangiggnmkoaaDoorModel3
import Derived.Deep.RegionWith
import Derived.Deep.RegionHeld3
import Derived.Deep.DeepCutAuto
import Derived.Deep.CutBlock
namespace Go.Proofs.YtjnangiggnmkoaaDoor
open Go.RowKit
set_option maxRecDepth 100000
set_option maxHeartbeats 1000000
set_option linter.unusedVariables false
theorem toList_L (s : ByteArray) : s.toList = L s := by
  have := Lib.toList_data s
  exact this
theorem str_ne {x y : ByteArray} (h : x ≠ y) : (x.toList == y.toList) = false := by
  rw [toList_L, toList_L]; exact beq_eq_false_iff_ne.2 (fun e => h (L_inj e))
theorem str_nb {x y : ByteArray} (h : x ≠ y) : (x.toList != y.toList) = true := by
  rw [toList_L, toList_L]; exact bne_iff_ne.2 (fun e => h (L_inj e))
/-- A row of texts, just laid. -/
theorem C_strs (e : Nat) (w : World) (xs : List ByteArray) : Kd.str.C e (w.alloc (.cells (xs.map Value.string).toArray e)) (some ⟨w.heap.size, 0, none⟩) xs := fun i x hx => by
  refine ⟨_, [.string x], (xs.map Value.string).toArray, (0, 0), rfl, heap_alloc_new w _, rfl, fun j u hu => ?_⟩
  obtain ⟨rfl, rfl⟩ : j = 0 ∧ u = .string x := by
    cases j with
    | zero => exact ⟨rfl, by simpa using hu.symm⟩
    | succ j => simp at hu
  have ha : (⟨w.heap.size, 0, none⟩ : Addr).add (i * Kd.str.sz + 0) = ⟨w.heap.size, i, none⟩ := by
    show (⟨w.heap.size, 0, none⟩ : Addr).add (i * 1 + 0) = _
    unfold Addr.add; split <;> simp_all
  rw [ha, cell_of_row _ w.heap.size i _ e (0, 0) (heap_alloc_new w _)]
  simp [hx]
def namesB : List ByteArray := names.map B
theorem names_c (w : World) : Calls Tryd.prog 24 #[] w fun e w' => ∃ A, e = .returned (.slice A 9 9) ∧ Kd.str.C 9 w' A namesB ∧ Below w.heap.size w w' := by
  have hC := Lib.hid (C_strs 9 w namesB)
  go_enter Tryd.func24, Tryd.ntmps24
  go_wp2
  go_ret
  exact ⟨_, rfl, hC.out, bel_alloc (Below.refl _ _) _⟩
theorem str_at {e : Nat} {w : World} {A : Option Addr} {xs : List ByteArray} (h : Kd.str.C e w A xs) {i : Nat} {x : ByteArray} (hi : xs[i]? = some x) : ∃ ad, A = some ad ∧ w.cell? (ad.add i) = some (.string x) := by
  obtain ⟨ad, cs, _, _, ea, _, hk, hc⟩ := h i x hi
  obtain rfl : cs = [.string x] := hk
  have := hc 0 _ rfl
  rw [show i * Kd.str.sz + 0 = i from by show i * 1 + 0 = i; omega] at this
  exact ⟨ad, ea, this⟩
theorem namesB_at {i : Nat} (h : i < 9) : namesB[i]? = some (B (names.getD i [])) := by
  unfold namesB
  rw [List.getElem?_map, List.getD_eq_getElem?_getD, List.getElem?_eq_getElem (show i < names.length from h)]
  rfl
theorem kind_hit {x : Bs} {i : Nat} (h9 : i < 9) (hx : names.getD i [] = x) : kindOf x = i := by rw [← hx]; exact kind_of_name h9
theorem kind_miss {x : Bs} (h : ∀ j, 1 ≤ j → j < 9 → names.getD j [] ≠ x) : kindOf x = 0 := by
  rcases Nat.eq_zero_or_pos (kindOf x) with h0 | h0
  · exact h0
  · exact absurd (kind_name rfl h0).2 (h _ h0 (kind_lt x))
theorem kind_c (s : ByteArray) (w : World) :
    Calls Tryd.prog 11 #[.string s] w fun e w' => e = .returned (.int .i64 (kindOf (L s))) ∧ Below w.heap.size w w' := by
  go_enter Tryd.func11, Tryd.ntmps11
  go_wp2_with (go_at_call 24; refine (names_c _).mono ?_; rintro e w1 ⟨A, rfl, hA, hb⟩)
  have HA := Lib.hid hA
  have HB := Lib.hid hb
  clear hA hb
  go_loop [4] (fun v4 => ∃ i : Nat, v4 = .int .i64 i ∧ 1 ≤ i ∧ i ≤ 9 ∧ Hid (∀ j, 1 ≤ j → j < i → names.getD j [] ≠ L s)) (fun v4 => 9 - (intOf v4).toNat)
  case atStart => exact ⟨1, rfl, by omega, by omega, Lib.hid (fun j h1 h2 => by omega)⟩
  case round =>
    obtain ⟨i, rfl, h1, h2, HN⟩ := hrel
    by_cases hlt : i < 9
    · obtain ⟨ad, rfl, hc⟩ := str_at HA.out (namesB_at hlt)
      obtain ⟨nm, hnm⟩ : ∃ nm, names.getD i [] = nm := ⟨_, rfl⟩
      rw [hnm] at hc
      by_cases he : nm = L s
      · have HK := Lib.hid (kind_hit hlt (hnm.trans he))
        rw [he, B_L] at hc
        clear he hnm
        go_wp2
        go_ret
        exact ⟨ret_int (by rw [HK.out]), HB.out⟩
      · have e1 := str_ne (x := B nm) (y := s) (fun e => he (by rw [← e, L_B]))
        have HN' := Lib.hid (show ∀ j, 1 ≤ j → j < i + 1 → names.getD j [] ≠ L s from fun j a b => by
          rcases Nat.lt_or_ge j i with hj | hj
          · exact HN.out j a hj
          · obtain rfl : j = i := by omega
            rw [hnm]; exact he)
        clear he hnm
        go_wp2
        exact ⟨⟨i + 1, by go_num, by omega, by omega, HN'⟩, by simp [intOf]; omega⟩
    · have HK := Lib.hid (kind_miss (x := L s) (fun j a b => HN.out j a (by omega)))
      go_wp2
      go_ret
      exact ⟨ret_int (by rw [HK.out]; rfl), HB.out⟩
theorem all_take {x : Bs} : (x.takeWhile isDig).length = x.length ↔ x.all isDig = true := by
  constructor
  · intro h
    have hp := List.takeWhile_append_dropWhile (p := isDig) (l := x)
    have : x.takeWhile isDig = x := by
      have hl := congrArg List.length hp
      rw [List.length_append, h] at hl
      have : x.dropWhile isDig = [] := List.eq_nil_of_length_eq_zero (by omega)
      rw [this, List.append_nil] at hp
      exact hp
    rw [← this]; exact List.all_takeWhile
  · intro h
    congr 1
    have : ∀ (l : Bs), l.all isDig = true → l.takeWhile isDig = l := fun l => by
      induction l with
      | nil => intro _; rfl
      | cons b l ih => intro hb; simp only [List.all_cons, Bool.and_eq_true] at hb; rw [List.takeWhile_cons, if_pos hb.1, ih hb.2]
    exact this x h
theorem num0_c (s : ByteArray) (w : World) (h : s.size = 0) :
    Calls Tryd.prog 26 #[.string s] w fun e w' => e = .returned (.int .i64 (-1)) ∧ w = w' := by
  have e0 : ((s.size : Int) == 0) = true := beq_iff_eq.2 (by omega)
  go_enter Tryd.func26, Tryd.ntmps26
  go_wp2
  go_ret
  exact ⟨rfl, rfl⟩
theorem num6_c (s : ByteArray) (w : World) (h : 5 < s.size) :
    Calls Tryd.prog 26 #[.string s] w fun e w' => e = .returned (.int .i64 (-1)) ∧ w = w' := by
  have e0 : ((s.size : Int) == 0) = false := beq_eq_false_iff_ne.2 (by omega)
  have e1 : decide ((5 : Int) < s.size) = true := decide_eq_true (by omega)
  go_enter Tryd.func26, Tryd.ntmps26
  go_wp2
  go_ret
  exact ⟨rfl, rfl⟩
theorem num9_c (s : ByteArray) (w : World) (hs : s.size ≤ 4294967296) :
    Calls Tryd.prog 12 #[.string s] w fun e w' => e = .returned (.int .i64 (num1 (L s))) ∧ w = w' := by
  have hd := digits_c s 0 w hs (Nat.zero_le _)
  rw [List.drop_zero, Nat.zero_add] at hd
  obtain ⟨n, hn⟩ : ∃ n, ((L s).takeWhile isDig).length = n := ⟨_, rfl⟩
  rw [hn] at hd
  by_cases ha : (L s).all isDig = true
  · have hns : n = s.size := by rw [← hn, all_take.2 ha, L_length]
    subst hns
    by_cases h15 : 1 ≤ s.size ∧ s.size ≤ 5
    · have HV := Lib.hid (show num1 (L s) = val (L s) by unfold num1; rw [if_pos ⟨ha, by rw [L_length]; exact h15.1, by rw [L_length]; exact h15.2⟩])
      have hc := Lib.hid (num_c s w h15.1 h15.2 ha)
      have hd' := Lib.hid hd
      clear hd hn ha
      obtain ⟨h1, h5⟩ := h15
      go_enter Tryd.func12, Tryd.ntmps12
      go_wp2_with (first | (go_at_call 25; refine hd'.out.mono ?_; rintro e w1 ⟨rfl, rfl⟩) | (go_at_call 26; refine hc.out.mono ?_; rintro e w1 ⟨rfl, rfl⟩))
      go_ret
      exact ⟨ret_int (by rw [HV.out]), rfl⟩
    · have HV := Lib.hid (show num1 (L s) = -1 by unfold num1; rw [if_neg (by rw [L_length]; omega)])
      have hd' := Lib.hid hd
      clear hd hn ha
      have hc : Hid (Calls Tryd.prog 26 #[.string s] w fun e w' => e = .returned (.int .i64 (-1)) ∧ w = w') := by
        by_cases h0 : s.size = 0
        · exact Lib.hid (num0_c s w h0)
        · exact Lib.hid (num6_c s w (by omega))
      go_enter Tryd.func12, Tryd.ntmps12
      go_wp2_with (first | (go_at_call 25; refine hd'.out.mono ?_; rintro e w1 ⟨rfl, rfl⟩) | (go_at_call 26; refine hc.out.mono ?_; rintro e w1 ⟨rfl, rfl⟩))
      go_ret
      exact ⟨ret_int HV.out.symm, rfl⟩
  · have HV := Lib.hid (show num1 (L s) = -1 by unfold num1; rw [if_neg (fun h => ha h.1)])
    have hne : ((n : Int) != (s.size : Int)) = true := by
      rw [bne_iff_ne]; intro e; exact ha (all_take.1 (by rw [hn, L_length]; omega))
    have hd' := Lib.hid hd
    clear hd hn ha
    go_enter Tryd.func12, Tryd.ntmps12
    go_wp2_with (go_at_call 25; refine hd'.out.mono ?_; rintro e w1 ⟨rfl, rfl⟩)
    go_ret
    exact ⟨ret_int (by rw [HV.out]), rfl⟩
theorem pick_name {e : Nat} {w : World} {A : Option Addr} (h : Kd.str.C e w A namesB) {k : Nat} (h9 : k < 9) : ∃ ad, A = some ad ∧ w.cell? (ad.add k) = some (.string (B (names.getD k []))) := str_at h (namesB_at h9)
theorem dec_len6 {a : Nat} (h : a ≤ 100000) : (B (Lib.decDigits a)).size ≤ 6 := by
  rw [size_B]
  rcases Nat.lt_or_ge a 100000 with h5 | h5
  · have := (dec_len5 a).2 h5; omega
  · obtain rfl : a = 100000 := by omega
    decide +kernel
theorem bel_drew' {w w1 w2 : World} (h : Below w.heap.size w w1) (k : Below w1.drew.heap.size w1.drew w2) : Below w.heap.size w w2 := bel_trans (bel_drew h) k
set_option maxHeartbeats 4000000 in
theorem text_c (k a p v : Nat) (w : World) (h1 : 1 ≤ k) (h9 : k < 9) (ha : a ≤ 100000) (hp : p ≤ 100000) (hv : v ≤ 100000) :
    Calls Tryd.prog 13 #[.agg #[.int .i64 k, .int .i64 a, .int .i64 p, .int .i64 v]] w fun e w' => e = .returned (.string (B (evText ⟨k, a, p, v⟩))) ∧ Below w.heap.size w w' := by
  obtain ⟨nm, hnm⟩ : ∃ nm, names.getD k [] = nm := ⟨_, rfl⟩
  have HT := Lib.hid (show evText ⟨k, a, p, v⟩ = (if k = 1 then nm else if k = 6 then nm ++ 32 :: (Lib.decDigits a ++ 32 :: (Lib.decDigits p ++ 32 :: Lib.decDigits v)) else nm ++ 32 :: Lib.decDigits a) by
    unfold evText
    by_cases e1 : k = 1
    · subst e1; simp [← hnm]
    · by_cases e6 : k = 6
      · subst e6; simp [← hnm]
      · simp [e1, e6, ← hnm])
  have hsz : (B nm).size ≤ 9 := by
    rw [size_B, ← hnm]
    exact (show ∀ k : Fin 9, (names.getD k.val []).length ≤ 9 by decide +kernel) ⟨k, h9⟩
  have HN := Lib.hid hnm
  clear hnm
  go_enter Tryd.func13, Tryd.ntmps13
  go_upto_region 1 with fail
  go_cut [3] (fun s3 wx => s3 = .string (B nm) ∧ Hid (Below w.heap.size w wx) ∧ wx.heap[w.heap.size]? = some (.cells #[.int .i64 k, .int .i64 a, .int .i64 p, .int .i64 v] 23 (0, 0)))
  case first =>
    go_region_with (go_at_call 24; refine (names_c _).mono ?_; rintro e w1 ⟨A, rfl, hA, hb⟩; obtain ⟨ad, rfl, hc⟩ := pick_name hA h9; rw [HN.out] at hc; have hk : w1.cell? ⟨w.heap.size, 0, none⟩ = some (.int .i64 k) := cell_keep hb (box_cell w _ _ 0); have HA := Lib.hid hA; have HB := Lib.hid hb; clear hA hb)
    all_goals
      go_wp2_with fail
      go_meet
      exact ⟨rfl, Lib.hid (bel_drew' (bel_alloc (Below.refl _ _) _) HB.out), box_keep (heap_alloc_new w _) (of_drew HB.out)⟩
  case rest =>
    obtain ⟨rfl, hb, hblk⟩ := hcut
    have c0 : wc.cell? ⟨w.heap.size, 0, none⟩ = some (.int .i64 k) := cell_of_row wc _ 0 _ _ _ hblk
    have c1 : wc.cell? ⟨w.heap.size, 1, none⟩ = some (.int .i64 a) := cell_of_row wc _ 1 _ _ _ hblk
    have c2 : wc.cell? ⟨w.heap.size, 2, none⟩ = some (.int .i64 p) := cell_of_row wc _ 2 _ _ _ hblk
    have c3 : wc.cell? ⟨w.heap.size, 3, none⟩ = some (.int .i64 v) := cell_of_row wc _ 3 _ _ _ hblk
    clear hblk
    by_cases e1 : k = 1
    · have HV := Lib.hid (show evText ⟨k, a, p, v⟩ = nm by rw [HT.out, if_pos e1])
      have e1' : ((k : Int) == 1) = true := beq_iff_eq.2 (by omega)
      clear e1
      go_wp2
      go_ret
      exact ⟨ret_str (by rw [HV.out]), hb.out⟩
    · have e1' : ((k : Int) == 1) = false := beq_eq_false_iff_ne.2 (by omega)
      have hda := dec_len6 ha
      have hdp := dec_len6 hp
      have hdv := dec_len6 hv
      by_cases e6 : k = 6
      · have HV := Lib.hid (show B (evText ⟨k, a, p, v⟩) = B nm ++ ⟨#[32]⟩ ++ B (Lib.decDigits a) ++ ⟨#[32]⟩ ++ B (Lib.decDigits p) ++ ⟨#[32]⟩ ++ B (Lib.decDigits v) by
          refine L_inj ?_
          rw [L_B, HT.out, if_neg e1, if_pos e6]
          simp only [L_append, L_B, List.append_assoc]; rfl)
        have e6' : ((k : Int) == 6) = true := beq_iff_eq.2 (by omega)
        clear e1 e6
        have hpa := Lib.hid (fun W => plain_c a W (by omega))
        have hpp := Lib.hid (fun W => plain_c p W (by omega))
        have hpv := Lib.hid (fun W => plain_c v W (by omega))
        generalize B (Lib.decDigits a) = da at HV hda hpa
        generalize B (Lib.decDigits p) = dp at HV hdp hpp
        generalize B (Lib.decDigits v) = dv at HV hdv hpv
        have hst : ∀ W W' : World, Below W.heap.size W W' → (W.cell? ⟨w.heap.size, 1, none⟩ = some (.int .i64 a) ∧ W.cell? ⟨w.heap.size, 2, none⟩ = some (.int .i64 p) ∧ W.cell? ⟨w.heap.size, 3, none⟩ = some (.int .i64 v) ∧ Hid (Below w.heap.size w W)) → (W'.cell? ⟨w.heap.size, 1, none⟩ = some (.int .i64 a) ∧ W'.cell? ⟨w.heap.size, 2, none⟩ = some (.int .i64 p) ∧ W'.cell? ⟨w.heap.size, 3, none⟩ = some (.int .i64 v) ∧ Hid (Below w.heap.size w W')) :=
          fun W W' hb h => ⟨cell_keep hb h.1, cell_keep hb h.2.1, cell_keep hb h.2.2.1, Lib.hid (bel_trans h.2.2.2.out hb)⟩
        have hS0 := hst wc wc.drew (bel_drew (Below.refl _ _)) ⟨c1, c2, c3, hb⟩
        have n1 : ¬ 9223372036854775807 < (B nm).size + 1 := by omega
        have n2 : ¬ 9223372036854775807 < (B nm).size + 1 + da.size := by omega
        have n3 : ¬ 9223372036854775807 < (B nm).size + 1 + da.size + 1 := by omega
        have n4 : ¬ 9223372036854775807 < (B nm).size + 1 + da.size + 1 + dp.size := by omega
        have n5 : ¬ 9223372036854775807 < (B nm).size + 1 + da.size + 1 + dp.size + 1 := by omega
        have n6 : ¬ 9223372036854775807 < (B nm).size + 1 + da.size + 1 + dp.size + 1 + dv.size := by omega
        go_upto_region 6 with fail
        go_region_held3 (fun W => W.cell? ⟨w.heap.size, 1, none⟩ = some (.int .i64 a) ∧ W.cell? ⟨w.heap.size, 2, none⟩ = some (.int .i64 p) ∧ W.cell? ⟨w.heap.size, 3, none⟩ = some (.int .i64 v) ∧ Hid (Below w.heap.size w W)) (assumption) (first | (go_at_call_of 27 (Value.int .i64 (a : Int)); refine (hpa.out _).mono ?_; rintro e w1 ⟨rfl, hb1⟩; have hS1 := hst _ _ hb1 (by assumption); clear hb1) | (go_at_call_of 27 (Value.int .i64 (p : Int)); refine (hpp.out _).mono ?_; rintro e w1 ⟨rfl, hb1⟩; have hS1 := hst _ _ hb1 (by assumption); clear hb1) | (go_at_call_of 27 (Value.int .i64 (v : Int)); refine (hpv.out _).mono ?_; rintro e w1 ⟨rfl, hb1⟩; have hS1 := hst _ _ hb1 (by assumption); clear hb1))
        all_goals
          rename_i hS
          have HB := hS.2.2.2
          clear hS hst hS0
          go_wp2_with fail
          go_ret
          exact ⟨ret_str HV.out.symm, HB.out⟩
      · have HV := Lib.hid (show B (evText ⟨k, a, p, v⟩) = B nm ++ ⟨#[32]⟩ ++ B (Lib.decDigits a) by
          refine L_inj ?_
          rw [L_B, HT.out, if_neg e1, if_neg e6]
          simp only [L_append, L_B, List.append_assoc]; rfl)
        have e6' : ((k : Int) == 6) = false := beq_eq_false_iff_ne.2 (by omega)
        clear e1 e6
        have hpa := Lib.hid (fun W => plain_c a W (by omega))
        generalize B (Lib.decDigits a) = da at HV hda hpa
        go_wp2_with (go_at_call 27; refine (hpa.out _).mono ?_; rintro e w1 ⟨rfl, hb1⟩)
        go_ret
        exact ⟨ret_str HV.out.symm, bel_trans hb.out hb1⟩
end Go.Proofs.YtjnangiggnmkoaaDoor
