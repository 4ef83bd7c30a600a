/- Contracts of the program's own tests of places and terms. -/
import Derived.Test.YtjnangiggnmkoaaGreatDoorCTop
import Derived.Test.YtjnangiggnmkoaaGreatDoorShelf
import Derived.Lib.SlTrimSet
import Derived.Shelf.Strings.SlTrimAscii
namespace Go.Proofs.YtjnangiggnmkoaaGreatDoor
open Go.RowKit
set_option maxRecDepth 100000
set_option maxHeartbeats 1000000
set_option linter.unusedVariables false
theorem imIn_c (a lo hi : Int) (w : World) : Calls Tryz.prog 37 #[.int .i64 a, .int .i64 lo, .int .i64 hi] w fun e w' => e = .returned (.bool (decide (lo ≤ a) && decide (a ≤ hi))) ∧ w = w' := by
  by_cases h1 : lo ≤ a
  · by_cases h2 : a ≤ hi
    · have hb := Lib.hid (show (decide (lo ≤ a) && decide (a ≤ hi)) = true by rw [decide_eq_true h1, decide_eq_true h2]; rfl)
      rw [hb.out]
      go_enter Tryz.func37, Tryz.ntmps37
      go_wp2
      go_ret
      exact ⟨rfl, rfl⟩
    · have hb := Lib.hid (show (decide (lo ≤ a) && decide (a ≤ hi)) = false by rw [decide_eq_true h1, decide_eq_false h2]; rfl)
      rw [hb.out]
      go_enter Tryz.func37, Tryz.ntmps37
      go_wp2
      go_ret
      exact ⟨rfl, rfl⟩
  · have hb := Lib.hid (show (decide (lo ≤ a) && decide (a ≤ hi)) = false by rw [decide_eq_false h1]; rfl)
    rw [hb.out]
    go_enter Tryz.func37, Tryz.ntmps37
    go_wp2
    go_ret
    exact ⟨rfl, rfl⟩
def abc : ByteArray := ⟨#[97, 98, 99, 100, 101, 102, 103, 104, 105, 106, 107, 108, 109, 110, 111, 112, 113, 114, 115, 116, 117, 118, 119, 120, 121, 122]⟩
theorem abc_lower (b : UInt8) : abc.data.toList.contains b = lower b := by
  have : ∀ n : Fin 256, abc.data.toList.contains (UInt8.ofNat n.val) = lower (UInt8.ofNat n.val) := by decide +kernel
  have h := this ⟨b.toNat, b.toNat_lt⟩
  simpa using h
theorem drop_idem {α : Type} (p : α → Bool) : ∀ l : List α, (l.dropWhile p).dropWhile p = l.dropWhile p
  | [] => rfl
  | x :: l => by
    cases h : p x with
    | true => rw [List.dropWhile_cons, if_pos h]; exact drop_idem p l
    | false => rw [List.dropWhile_cons, if_neg (by rw [h]; simp), List.dropWhile_cons, if_neg (by rw [h]; simp)]
theorem drop_nil {α : Type} (p : α → Bool) (l : List α) : l.dropWhile p = [] ↔ l.all p = true := by
  induction l with
  | nil => simp
  | cons x l ih =>
    cases h : p x with
    | true => rw [List.dropWhile_cons, if_pos h, ih]; simp [h]
    | false => rw [List.dropWhile_cons, if_neg (by rw [h]; simp)]; simp [h]
theorem trim_nil (l : List UInt8) : Lib.trimS l abc.data.toList = [] ↔ l.all lower = true := by
  have hp : (fun b => abc.data.toList.contains b) = lower := funext abc_lower
  unfold Lib.trimS Lib.trimLeftS Lib.trimRightS
  rw [hp, drop_nil, List.all_reverse, ← drop_nil, drop_idem, drop_nil, List.all_reverse]
theorem trimAbc_c (s : ByteArray) (w : World) (hs : s.size ≤ 9223372036854775807) : Calls Tryz.prog 105 #[.string s, .string abc] w fun e w' => e = .returned (.string (B (Lib.trimS (L s) abc.data.toList))) ∧ Below w.heap.size w w' :=
  Any.strings_Trim_laid Tryz.lays160 (by kernel_rfl) s abc w hs (by decide) (ascii_of_all (by decide))
theorem nameOk_c (s : ByteArray) (w : World) (hs : s.size ≤ 9223372036854775807) : Calls Tryz.prog 86 #[.string s] w fun e w' => e = .returned (.bool (nameOk s)) ∧ Below w.heap.size w w' := by
  have HI := Lib.hid (fun W => imIn_c (s.size : Int) 1 8 W)
  have HT := Lib.hid (fun W => trimAbc_c s W hs)
  have hI : (decide ((1 : Int) ≤ s.size) && decide ((s.size : Int) ≤ 8)) = (decide (1 ≤ s.size) && decide (s.size ≤ 8)) := by
    congr 1 <;> exact decide_eq_decide.2 (by omega)
  rw [hI] at HI
  cases h1 : (decide (1 ≤ s.size) && decide (s.size ≤ 8)) with
  | false =>
    have HV := Lib.hid (show nameOk s = false by unfold nameOk; rw [h1]; rfl)
    rw [h1] at HI
    clear hI h1 HT
    go_enter Tryz.func86, Tryz.ntmps86
    go_wp2_with (go_at_call 37; refine (HI.out _).mono ?_; rintro e w1 ⟨rfl, rfl⟩)
    go_ret
    exact ⟨ret_bool HV.out.symm, Below.refl _ _⟩
  | true =>
    rw [h1] at HI
    have hV : nameOk s = (s.data.toList.all lower && !(s.data.toList == [97, 110, 100])) := by unfold nameOk; rw [h1]; rfl
    obtain ⟨Z, hZ⟩ : ∃ Z, B (Lib.trimS (L s) abc.data.toList) = Z := ⟨_, rfl⟩
    have hz : Z.toList.isEmpty = s.data.toList.all lower := by
      rw [← hZ, Lib.toList_data]
      have := trim_nil s.data.toList
      show (Lib.trimS s.data.toList abc.data.toList).isEmpty = _
      cases h2 : s.data.toList.all lower with
      | true => rw [this.2 h2]; rfl
      | false =>
        cases h3 : Lib.trimS s.data.toList abc.data.toList with
        | nil => rw [this.1 h3] at h2; cases h2
        | cons b r => rfl
    rw [← hz] at hV
    have HV := Lib.hid (show nameOk s = (Z.toList.isEmpty && !(s.toList == [97, 110, 100])) by rw [hV, Lib.toList_data s])
    rw [hZ] at HT
    clear hI h1 hV hz hZ
    go_enter Tryz.func86, Tryz.ntmps86
    go_wp2_with (first | (go_at_call 37; refine (HI.out _).mono ?_; rintro e w1 ⟨rfl, rfl⟩) | (go_at_call 105; refine (HT.out _).mono ?_; rintro e w1 ⟨rfl, hb⟩))
    all_goals (go_ret; exact ⟨ret_bool (by rw [HV.out]; simp_all), hb⟩)
theorem ok_c (c : Cell) (w : World) (hs : c.s.size ≤ 9223372036854775807) : Calls Tryz.prog 59 #[.agg #[.int .i64 c.k, .int .i64 c.n, .string c.s]] w fun e w' => e = .returned (.bool (cellOk c)) ∧ Below w.heap.size w w' := by
  have HN := Lib.hid (fun W => nameOk_c c.s W hs)
  by_cases h1 : c.k = 1
  · have e1 : (c.k == 1) = true := beq_iff_eq.2 h1
    have HV := Lib.hid (show cellOk c = ((decide (0 ≤ c.n) && decide (c.n ≤ 99999)) && c.s.toList.isEmpty) by unfold cellOk; rw [if_pos h1, Lib.toList_data])
    obtain ⟨q, hq⟩ : ∃ q, (decide (0 ≤ c.n) && decide (c.n ≤ 99999)) = q := ⟨_, rfl⟩
    have HI2 := Lib.hid (fun W => imIn_c c.n (0) 99999 W)
    rw [hq] at HI2 HV
    clear HN hq
    cases q
    all_goals
      go_enter Tryz.func59, Tryz.ntmps59
      go_wp2_with (go_at_call 37; refine (HI2.out _).mono ?_; rintro e w1 ⟨rfl, rfl⟩)
      go_ret
      exact ⟨ret_bool (by rw [HV.out]; simp), bel_alloc (Below.refl _ _) _⟩
  by_cases h2 : c.k = 2
  · have e2 : (c.k == 2) = true := beq_iff_eq.2 h2
    have n1 : (c.k == 1) = false := beq_eq_false_iff_ne.2 (by omega)
    have HV := Lib.hid (show cellOk c = ((decide (-9999 ≤ c.n) && decide (c.n ≤ 9999)) && c.s.toList.isEmpty) by unfold cellOk; rw [if_neg (by omega)]; rw [if_pos h2, Lib.toList_data])
    obtain ⟨q, hq⟩ : ∃ q, (decide (-9999 ≤ c.n) && decide (c.n ≤ 9999)) = q := ⟨_, rfl⟩
    have HI2 := Lib.hid (fun W => imIn_c c.n (-9999) 9999 W)
    rw [hq] at HI2 HV
    clear HN hq
    cases q
    all_goals
      go_enter Tryz.func59, Tryz.ntmps59
      go_wp2_with (go_at_call 37; refine (HI2.out _).mono ?_; rintro e w1 ⟨rfl, rfl⟩)
      go_ret
      exact ⟨ret_bool (by rw [HV.out]; simp), bel_alloc (Below.refl _ _) _⟩
  by_cases h3 : c.k = 3
  · have e3 : (c.k == 3) = true := beq_iff_eq.2 h3
    have n1 : (c.k == 1) = false := beq_eq_false_iff_ne.2 (by omega)
    have n2 : (c.k == 2) = false := beq_eq_false_iff_ne.2 (by omega)
    have HV := Lib.hid (show cellOk c = ((decide (0 ≤ c.n) && decide (c.n ≤ 3)) && nameOk c.s) by unfold cellOk; rw [if_neg h1, if_neg h2, if_pos h3])
    obtain ⟨q, hq⟩ : ∃ q, (decide (0 ≤ c.n) && decide (c.n ≤ 3)) = q := ⟨_, rfl⟩
    have HI2 := Lib.hid (fun W => imIn_c c.n 0 3 W)
    rw [hq] at HI2 HV
    clear hq
    cases q
    all_goals
      go_enter Tryz.func59, Tryz.ntmps59
      go_wp2_with (first | (go_at_call 37; refine (HI2.out _).mono ?_; rintro e w1 ⟨rfl, rfl⟩) | (go_at_call 86; refine (HN.out _).mono ?_; rintro e w2 ⟨rfl, hb2⟩))
      go_ret
      exact ⟨ret_bool (by rw [HV.out]; simp), by first | exact bel_alloc (Below.refl _ _) _ | exact bel_trans (bel_alloc (Below.refl _ _) _) hb2⟩
  · have n1 : (c.k == 1) = false := beq_eq_false_iff_ne.2 h1
    have n2 : (c.k == 2) = false := beq_eq_false_iff_ne.2 h2
    have n3 : (c.k == 3) = false := beq_eq_false_iff_ne.2 h3
    have HV := Lib.hid (show cellOk c = false by unfold cellOk; rw [if_neg h1, if_neg h2, if_neg h3])
    go_enter Tryz.func59, Tryz.ntmps59
    go_wp2
    go_ret
    exact ⟨ret_bool HV.out.symm, bel_alloc (Below.refl _ _) _⟩
end Go.Proofs.YtjnangiggnmkoaaGreatDoor
