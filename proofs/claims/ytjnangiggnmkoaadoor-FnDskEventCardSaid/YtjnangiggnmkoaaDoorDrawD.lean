/- Draws of lines: any text may come. -/
import Derived.Test.YtjnangiggnmkoaaDoorDraw
import Derived.Test.YtjnangiggnmkoaaDoorCEv
namespace Go.Proofs.YtjnangiggnmkoaaDoor
open Go.RowKit
set_option maxRecDepth 100000
set_option maxHeartbeats 1000000
set_option linter.unusedVariables false
theorem in_c (a lo hi : Int) (w : World) : Calls Tryd.prog 32 #[.int .i64 a, .int .i64 lo, .int .i64 hi] w fun e w' => e = .returned (.bool (decide (lo ≤ a) && decide (a ≤ hi))) ∧ w = w' := by
  by_cases h1 : lo ≤ a
  · by_cases h2 : a ≤ hi
    · have e1 : decide (lo ≤ a) = true := decide_eq_true h1
      have e2 : decide (a ≤ hi) = true := decide_eq_true h2
      have hb := Lib.hid (show (decide (lo ≤ a) && decide (a ≤ hi)) = true by rw [e1, e2]; rfl)
      go_enter Tryd.func32, Tryd.ntmps32
      go_wp2
      go_ret
      exact ⟨ret_bool (by first | rw [hb.out] | rfl), rfl⟩
    · have e1 : decide (lo ≤ a) = true := decide_eq_true h1
      have e2 : decide (a ≤ hi) = false := decide_eq_false h2
      have hb := Lib.hid (show (decide (lo ≤ a) && decide (a ≤ hi)) = false by rw [e1, e2]; rfl)
      go_enter Tryd.func32, Tryd.ntmps32
      go_wp2
      go_ret
      exact ⟨ret_bool (by first | rw [hb.out] | rfl), rfl⟩
  · have e1 : decide (lo ≤ a) = false := decide_eq_false h1
    have hb := Lib.hid (show (decide (lo ≤ a) && decide (a ≤ hi)) = false by rw [e1]; rfl)
    go_enter Tryd.func32, Tryd.ntmps32
    go_wp2
    go_ret
    exact ⟨ret_bool (by first | rw [hb.out] | rfl), rfl⟩
theorem line_c (k a p v : Nat) (w : World) (h1 : 1 ≤ k) (h9 : k < 9) (ha : a ≤ 100000) (hp : p ≤ 100000) (hv : v ≤ 100000) :
    Calls Tryd.prog 20 #[.agg #[.int .i64 k, .int .i64 a, .int .i64 p, .int .i64 v]] w fun e w' => e = .returned (.string (B (evText ⟨k, a, p, v⟩))) ∧ Below w.heap.size w w' := by
  have HT := Lib.hid (fun W => text_c k a p v W h1 h9 ha hp hv)
  have HI := Lib.hid (fun W => in_c (k : Int) 1 8 W)
  have hd : (decide ((1 : Int) ≤ k) && decide ((k : Int) ≤ 8)) = true := by simp; omega
  rw [hd] at HI
  go_enter Tryd.func20, Tryd.ntmps20
  go_wp2_with (first | (go_at_call 32; refine (HI.out _).mono ?_; rintro e w1 ⟨rfl, rfl⟩) | (go_at_call 13; refine (HT.out _).mono ?_; rintro e w1 ⟨rfl, hb1⟩))
  go_ret
  exact ⟨rfl, bel_trans (bel_alloc (Below.refl _ _) _) hb1⟩
theorem evText_len (k a p v : Nat) (h1 : 1 ≤ k) (h9 : k < 9) (ha : a ≤ 100000) (hp : p ≤ 100000) (hv : v ≤ 100000) : (B (evText ⟨k, a, p, v⟩)).size ≤ 40 := by
  rw [size_B]
  have hn : (names.getD k []).length ≤ 5 := (show ∀ k : Fin 9, (names.getD k.val []).length ≤ 5 by decide +kernel) ⟨k, h9⟩
  have hda := dec_len6 ha
  have hdp := dec_len6 hp
  have hdv := dec_len6 hv
  rw [size_B] at hda hdp hdv
  unfold evText
  split
  · decide
  · split
    · have : (names.getD 6 []).length = 4 := by decide
      simp only [List.length_append, List.length_cons]; omega
    · simp only [List.length_append, List.length_cons]; omega
theorem RS.lt {w0 W : World} {g p : Nat} (h : RS w0 g p W) : g < W.heap.size := by
  obtain ⟨⟨bs, ⟨A, c, hb, _⟩, _, _⟩, _⟩ := h
  exact (Array.getElem?_eq_some_iff.1 hb).1
theorem ints11 (c : Int) : ∀ j : Nat, j < 11 → ∃ x : Int, (#[.int .i64 32, .int .i64 48, .int .i64 49, .int .i64 57, .int .i64 45, .int .i64 97, .int .i64 88, .int .i64 40, .int .i64 41, .int .i64 44, .int .i64 c] : Array Value)[j]? = some (.int .i64 x)
  | 0, _ => ⟨_, rfl⟩ | 1, _ => ⟨_, rfl⟩ | 2, _ => ⟨_, rfl⟩ | 3, _ => ⟨_, rfl⟩ | 4, _ => ⟨_, rfl⟩ | 5, _ => ⟨_, rfl⟩ | 6, _ => ⟨_, rfl⟩ | 7, _ => ⟨_, rfl⟩ | 8, _ => ⟨_, rfl⟩ | 9, _ => ⟨_, rfl⟩ | 10, _ => ⟨_, rfl⟩
  | j + 11, h => by omega
theorem bent_c (w0 W : World) (g p : Nat) (h : RS w0 g p W) (hp : p ≤ 1000000000) (s : ByteArray) (hs : s.size ≤ 1000000) :
    Calls Tryd.prog 22 #[.pointer (some ⟨g, 0, none⟩), .string s] W fun e w' => ∃ s' : ByteArray, e = .returned (.string s') ∧ s'.size ≤ s.size + 1 ∧ RS w0 g (p + 4) w' := by
  have H0 := Lib.hid h
  clear h
  have HP := Lib.hid (fun W q (hq : q ≤ 1099511627776) (h : RS w0 g q W) n (a : -9223372036854775808 ≤ n) (b : n ≤ 9223372036854775807) => rs_pick h hq n a b)
  go_enter Tryd.func22, Tryd.ntmps22
  go_upto_region 2 with (go_at_call 21; refine (HP.out _ p (by omega) H0.out _ (by omega) (by omega)).mono ?_; rintro e w1 ⟨k, rfl, hk, hR1, -⟩)
  obtain ⟨hk0, hk1, -⟩ := hk
  have hk2 := hk1 (by omega)
  have HR1 := Lib.hid hR1
  clear hk1 hR1
  obtain ⟨k, rfl⟩ : ∃ j : Nat, k = j := ⟨k.toNat, by omega⟩
  go_upto_region 3 with (first | (go_at_call_of 21 (Value.int .i64 256); refine (HP.out _ (p + 1) (by omega) HR1.out _ (by omega) (by omega)).mono ?_; rintro e w2 ⟨c1, rfl, -, hR2, -⟩; have HR2 := Lib.hid hR2; clear hR2) | (go_at_call_of 21 (Value.int .i64 11); refine (HP.out _ (p + 2) (by omega) (HR2.out.ext (bel_alloc (Below.refl _ _) _)) _ (by omega) (by omega)).mono ?_; rintro e w3 ⟨j, rfl, hj, hR3, hg3⟩; obtain ⟨hj0, hj1, -⟩ := hj; have hj2 := hj1 (by omega); obtain ⟨jn, rfl⟩ : ∃ i : Nat, j = i := ⟨j.toNat, by omega⟩; have hne := RS.lt HR2.out; obtain ⟨x, hx⟩ := ints11 c1 jn (by omega); have hc := (cell_of_row w3 _ jn _ _ _ (row_grown hg3 (heap_alloc_new w2 _) (by omega))).trans hx; have HR3 := Lib.hid hR3; clear hj1 hj0 hg3 hR3 hx; have hcv := conv1 w3 (x % 256); obtain ⟨Z, hZ⟩ : ∃ Z, B [UInt8.ofNat (x % 256).toNat] = Z := ⟨_, rfl⟩; have hz1 : Z.size = 1 := (by rw [← hZ, size_B]; rfl); rw [hZ] at hcv; clear hZ))
  go_upto_region 6 with (go_at_call 21; refine (HP.out _ (p + 3) (by omega) (HR3.out.ext (bel_alloc (Below.refl _ _) _)) _ (by omega) (by omega)).mono ?_; rintro e w4 ⟨v, rfl, hv, hR4, -⟩; obtain ⟨hv0, hv1, -⟩ := hv; have hv2 := hv1 (by omega); have HR4 := Lib.hid hR4; clear hv1 hR4)
  clear hcv hc hne hj2 HR1 HR2 HR3 HP H0
  have hkI : (k : Int) ≤ (s.size : Int) := by omega
  have hkN : k ≤ s.size := by omega
  by_cases v0 : v = 0
  · subst v0
    go_upto_region 7 with fail
    go_quiet (fail)
    go_wp2
    go_ret
    exact ⟨_, rfl, by simp only [ByteArray.size_append, ByteArray.size_extract]; omega, HR4.out.ext (bel_drewN (Below.refl _ _) _)⟩
  · have e0 : (v == 0) = false := beq_eq_false_iff_ne.2 v0
    by_cases hkl : k < s.size
    · have hkl' : (k : Int) < (s.size : Int) := by omega
      by_cases v1 : v = 1
      · subst v1
        go_upto_region 10 with fail
        go_quiet (fail)
        go_wp2
        go_ret
        exact ⟨_, rfl, by simp only [ByteArray.size_append, ByteArray.size_extract]; omega, HR4.out.ext (bel_drewN (Below.refl _ _) _)⟩
      · have e1 : (v == 1) = false := beq_eq_false_iff_ne.2 v1
        go_upto_region 5 with fail
        go_quiet (fail)
        go_wp2
        go_ret
        exact ⟨_, rfl, by simp only [ByteArray.size_append, ByteArray.size_extract]; omega, HR4.out.ext (bel_drewN (Below.refl _ _) _)⟩
    · have hkl' : (s.size : Int) ≤ (k : Int) := by omega
      by_cases v1 : v = 1
      · subst v1
        go_wp2
        go_ret
        exact ⟨_, rfl, by omega, HR4.out⟩
      · have e1 : (v == 1) = false := beq_eq_false_iff_ne.2 v1
        go_wp2
        go_ret
        exact ⟨_, rfl, by omega, HR4.out⟩
theorem ten9 : ∀ j : Nat, j < 9 → ∃ x : ByteArray, (#[.string ⟨#[]⟩, .string ⟨#[97, 115, 107, 32]⟩, .string ⟨#[97, 115, 107, 32, 49]⟩, .string ⟨#[114, 117, 110]⟩, .string ⟨#[114, 117, 110, 32, 48, 49]⟩, .string ⟨#[98, 101, 110, 100, 32, 49, 32, 50]⟩, .string ⟨#[104, 101, 97, 114, 32, 45, 49]⟩, .string ⟨#[104, 101, 97, 114, 32, 49, 48, 48, 48, 48, 48]⟩, .string ⟨#[110, 111, 110, 101]⟩] : Array Value)[j]? = some (.string x) ∧ x.size ≤ 41
  | 0, _ => ⟨_, rfl, by decide⟩ | 1, _ => ⟨_, rfl, by decide⟩ | 2, _ => ⟨_, rfl, by decide⟩ | 3, _ => ⟨_, rfl, by decide⟩ | 4, _ => ⟨_, rfl, by decide⟩ | 5, _ => ⟨_, rfl, by decide⟩ | 6, _ => ⟨_, rfl, by decide⟩ | 7, _ => ⟨_, rfl, by decide⟩ | 8, _ => ⟨_, rfl, by decide⟩
  | j + 9, h => by omega
theorem drawEv_c (w : World) (A : Option Addr) (n c : Nat) (bs : List Nat) (h : Bytes w A n c bs) :
    Calls Tryd.prog 8 #[.slice A n c] w fun e w' => ∃ s : ByteArray, e = .returned (.string s) ∧ s.size ≤ 41 ∧ Below w.heap.size w w' := by
  have HO := Lib.hid (open_c w A n c bs h)
  clear h
  go_enter Tryd.func8, Tryd.ntmps8
  go_upto_region 2 with (go_at_call 19; refine HO.out.mono ?_; rintro e w1 ⟨bs', rfl, hR, hb⟩; have H0 := Lib.hid (show RS w w.heap.size 0 w1 from ⟨⟨bs', hR⟩, hb, Nat.le_refl _⟩); clear hR hb)
  have HP := Lib.hid (fun W q (hq : q ≤ 1099511627776) (h : RS w w.heap.size q W) n (a : -9223372036854775808 ≤ n) (b : n ≤ 9223372036854775807) => rs_pick h hq n a b)
  have HB := Lib.hid (fun W q (hq : q ≤ 1000000000) (h : RS w w.heap.size q W) s (hs : s.size ≤ 1000000) => bent_c w W w.heap.size q h hq s hs)
  clear HO
  generalize w.heap.size = g at *
  go_upto_region 3 with (first | (go_at_call_of 21 (Value.int .i64 8); refine (HP.out _ 0 (by omega) H0.out _ (by omega) (by omega)).mono ?_; rintro e wx ⟨v, rfl, hv, hR, -⟩; obtain ⟨hv0, hv1, -⟩ := hv; have hv2 := hv1 (by omega); obtain ⟨k, rfl⟩ : ∃ i : Nat, v = i := ⟨v.toNat, by omega⟩; have hk : k < 8 := (by omega); have HR1 := Lib.hid hR; clear hv0 hv1 hv2 hR) | (go_at_call_of 21 (Value.int .i64 5); refine (HP.out _ 1 (by omega) HR1.out _ (by omega) (by omega)).mono ?_; rintro e wx ⟨v, rfl, hv, hR, -⟩; obtain ⟨hv0, hv1, -⟩ := hv; have hv2 := hv1 (by omega); obtain ⟨a, rfl⟩ : ∃ i : Nat, v = i := ⟨v.toNat, by omega⟩; have ha : a < 5 := (by omega); have HR2 := Lib.hid hR; clear hv0 hv1 hv2 hR) | (go_at_call_of 21 (Value.int .i64 300); refine (HP.out _ 2 (by omega) HR2.out _ (by omega) (by omega)).mono ?_; rintro e wx ⟨v, rfl, hv, hR, -⟩; obtain ⟨hv0, hv1, -⟩ := hv; have hv2 := hv1 (by omega); obtain ⟨b, rfl⟩ : ∃ i : Nat, v = i := ⟨v.toNat, by omega⟩; have hb : b < 300 := (by omega); have HR3 := Lib.hid hR; clear hv0 hv1 hv2 hR) | (go_at_call_of 21 (Value.int .i64 300); refine (HP.out _ 3 (by omega) HR3.out _ (by omega) (by omega)).mono ?_; rintro e wx ⟨v, rfl, hv, hR, -⟩; obtain ⟨hv0, hv1, -⟩ := hv; have hv2 := hv1 (by omega); obtain ⟨d, rfl⟩ : ∃ i : Nat, v = i := ⟨v.toNat, by omega⟩; have hd : d < 300 := (by omega); have HR4 := Lib.hid hR; clear hv0 hv1 hv2 hR) | (go_at_call 20; refine (line_c (1 + k) a b d _ (by omega) (by omega) (by omega) (by omega) (by omega)).mono ?_; rintro e wy ⟨rfl, hb⟩; have HR5 := Lib.hid (HR4.out.ext hb); have hsz := evText_len (1 + k) a b d (by omega) (by omega) (by omega) (by omega) (by omega); generalize B (evText ⟨1 + k, a, b, d⟩) = T at hsz; clear hb))
  clear HR1 HR2 HR3 HR4 H0 hk ha hb hd
  go_upto_region 4 with (go_at_call 21; refine (HP.out _ 4 (by omega) HR5.out _ (by omega) (by omega)).mono ?_; rintro e wz ⟨v, rfl, -, hR, -⟩; have HR6 := Lib.hid hR; clear hR)
  clear HR5
  by_cases v0 : v = 0
  · subst v0
    go_wp2_with (go_at_call 22; refine (HB.out _ 5 (by omega) HR6.out T (by omega)).mono ?_; rintro e wu ⟨s', rfl, hs', hR⟩; have HR7 := Lib.hid hR.below; clear hR)
    go_ret
    exact ⟨_, rfl, by omega, HR7.out⟩
  · have e0 : (v == 0) = false := beq_eq_false_iff_ne.2 v0
    by_cases v1 : v = 1
    · subst v1
      go_wp2_with (go_at_call 21; refine (HP.out _ 5 (by omega) (HR6.out.ext (bel_alloc (Below.refl _ _) _)) _ (by omega) (by omega)).mono ?_; rintro e wu ⟨j, rfl, hj, hR, hg⟩; obtain ⟨hj0, hj1, -⟩ := hj; have hj2 := hj1 (by omega); obtain ⟨jn, rfl⟩ : ∃ i : Nat, j = i := ⟨j.toNat, by omega⟩; have hne := RS.lt HR6.out; obtain ⟨x, hx, hxs⟩ := ten9 jn (by omega); have hc := (cell_of_row wu _ jn _ _ _ (row_grown hg (heap_alloc_new wz _) (by omega))).trans hx; have HR7 := Lib.hid hR.below; clear hR hg hx hj0 hj1)
      go_ret
      exact ⟨_, rfl, hxs, HR7.out⟩
    · have e1 : (v == 1) = false := beq_eq_false_iff_ne.2 v1
      go_wp2
      go_ret
      exact ⟨_, rfl, by omega, HR6.out.below⟩
end Go.Proofs.YtjnangiggnmkoaaDoor
