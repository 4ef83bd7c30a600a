/- Contracts: the program's text of a term, its TrmText. -/
import Derived.Test.YtjnangiggnmkoaaGreatDoorImTxt
namespace Go.Proofs.YtjnangiggnmkoaaGreatDoor
open Go.RowKit
set_option maxRecDepth 100000
set_option maxHeartbeats 4000000
set_option linter.unusedVariables false
abbrev TxtC (w0 : World) (n : Nat) : Prop := ∀ (u : Trm) (tv : Value) (b : Nat) (l : Bs) (w : World), u.length ≤ n → Kd.cell.S 47 w tv u → trmOk u = true → Bld w0.heap.size b l w → Below w0.heap.size w0 w → (l ++ txt u).length ≤ 1000000000 →
    Calls Tryz.prog 32 #[.pointer (some ⟨b, 0, none⟩), tv] w fun e w' => e = .returned (.tuple #[]) ∧ Bld w0.heap.size b (l ++ txt u) w' ∧ BW w0.heap.size b w w'
theorem textI_c (w0 : World) (hT : Tab w0) : ∀ n, TxtC w0 n := by
  intro n
  induction n with
  | zero =>
    intro u tv b l w hu _ hok
    obtain ⟨h1, _⟩ := trmOk_iff.1 hok
    rw [List.eq_nil_of_length_eq_zero (by omega : u.length = 0), Ms_nil] at h1
    omega
  | succ n ih =>
    intro u tv b l w hu hS hok hB hw hlen
    obtain ⟨h1, h40, hall⟩ := trmOk_iff.1 hok
    match u, hu, hS, hok, hlen, h1, h40, hall with
    | cc :: r, hu, hS, hok, hlen, h1, h40, hall =>
    have IH := Lib.hid ih
    have HS := Lib.hid hS
    have HBd := Lib.hid hB
    have HW := Lib.hid hw
    have hcok := List.all_eq_true.1 hall cc List.mem_cons_self
    have HA := Lib.hid (fun tv w h => argsI_c cc r tv w h hok)
    have HAok := Lib.hid (fun x (hx : x ∈ argsOf (ar cc).toNat r) => arg_ok hok hx)
    have hal := argsOf_len (ar cc).toNat r
    have hrr := ar_of_ok hcok
    have hwl := word_len hcok
    have hcn := cellOk_n' hcok
    have HT' := Lib.hid (txt_tl h1)
    obtain ⟨al, has⟩ : ∃ al, argsOf (ar cc).toNat r = al := ⟨_, rfl⟩
    rw [has] at HA HAok hal HT'
    rw [HT'.out] at hlen ⊢
    have HLen := Lib.hid hlen
    have hlen2 : l.length + (wordB cc).length ≤ 1000000000 := by have := HLen.out; simp only [List.length_append] at this; omega
    have hb0 := Lib.hid hw.size
    have HAr := Lib.hid (fun W => arity_c cc W)
    obtain ⟨A, c, rfl, a1, a2, hC⟩ := hS
    obtain ⟨ad, rfl, x1, x2, x3⟩ := cell_hd hC
    have HTab := Lib.hid hT
    obtain ⟨N1, hN1⟩ : ∃ N1, (cc :: r).length = N1 := ⟨_, rfl⟩
    rw [hN1] at HS a1 hu ⊢
    have hN0 : 0 < N1 := by rw [← hN1]; exact Nat.succ_pos _
    have HN1 := Lib.hid hN1
    have hrl : r.length + 1 = N1 := by rw [← hN1]; rfl
    have Hrl := Lib.hid (show r.length ≤ n by omega)
    clear hN1 hrl
    have hkk := cellOk_k hcok
    have har : ar cc = (al.length : Int) := by rw [hal]; omega
    have ha3 : al.length ≤ 3 := by omega
    clear hC hS hB hw hok hall ih HT' has hlen h40 h1
    have HWL := Lib.hid hlen2
    clear hlen2
    have hsplit : (cc.k == 1) = true ∧ wordB cc = 88 :: Lib.itoa cc.n ∨ ((cc.k == 1) = false ∧ (cc.k == 2) = true ∧ wordB cc = Lib.itoa cc.n) ∨ ((cc.k == 1) = false ∧ (cc.k == 2) = false ∧ (cc.k == 3) = true ∧ wordB cc = L cc.s) := by
      unfold wordB
      rcases hkk with h | h | h
      · exact .inl ⟨beq_iff_eq.2 h, if_pos h⟩
      · exact .inr (.inl ⟨beq_eq_false_iff_ne.2 (by omega), beq_iff_eq.2 h, by rw [if_neg (by omega), if_pos h]⟩)
      · exact .inr (.inr ⟨beq_eq_false_iff_ne.2 (by omega), beq_eq_false_iff_ne.2 (by omega), beq_iff_eq.2 h, by rw [if_neg (by omega), if_neg (by omega)]⟩)
    obtain ⟨wd, hwd⟩ : ∃ wd, wordB cc = wd := ⟨_, rfl⟩
    rw [hwd] at hsplit HLen HWL hwl ⊢
    clear hwd hkk
    have hsz := Lib.hid (show (B wd).size ≤ 8 by rw [size_B]; exact hwl)
    have hcase : ((cc.k == 1) = true ∧ (∃ Z : ByteArray, Z.size ≤ 6 ∧ B (Lib.itoa cc.n) = Z ∧ L ((⟨#[88]⟩ : ByteArray) ++ Z) = wd)) ∨ ((cc.k == 1) = false ∧ (cc.k == 2) = true ∧ B (Lib.itoa cc.n) = B wd) ∨ ((cc.k == 1) = false ∧ (cc.k == 2) = false ∧ (cc.k == 3) = true ∧ cc.s = B wd) := by
      rcases hsplit with ⟨e1, hv⟩ | ⟨e1, e2, hv⟩ | ⟨e1, e2, e3, hv⟩
      · exact .inl ⟨e1, _, by rw [size_B]; exact itoa_len hcn.1 hcn.2, rfl, by rw [L_append, L_B, hv]; rfl⟩
      · exact .inr (.inl ⟨e1, e2, by rw [hv]⟩)
      · exact .inr (.inr ⟨e1, e2, e3, by rw [hv, B_L]⟩)
    clear hsplit hwl
    have HI := Lib.hid (fun W h => itoa_c cc.n hcn.1 hcn.2 W h)
    have HWr := Lib.hid (fun s W' (hs : L s = wd) (hbW : Below w.heap.size w W') => write_c w0.heap.size b l s w W' HBd.out hbW hb0.out (by have := HWL.out; omega) (by rw [← L_length, hs]; have := HWL.out; omega))
    have HLB := Lib.hid (L_B wd)
    have har0 := Lib.hid har
    clear har hrr hcn hal
    rcases hcase with ⟨e1, Z, hz, hZ, hLZ⟩ | ⟨e1, e2, hZ⟩ | ⟨e1, e2, e3, hZ⟩
    · rw [hZ] at HI
      have HLZ := Lib.hid hLZ
      clear hZ hLZ
      go_enter Tryz.func32, Tryz.ntmps32
      go_wp2_with (first | (go_at_call 63; (with_reducible refine (HI.out _ (HTab.out.ext (bel_alloc HW.out _))).mono ?_); rintro e w1 ⟨rfl, hb1⟩; have HB1 := Lib.hid (bel_trans (bel_alloc (Below.refl _ _) _) hb1); clear hb1)
                         | (go_at_call 62; (with_reducible refine (HWr.out _ _ HLZ.out HB1.out).mono ?_); rintro e w2 ⟨rfl, hB2, hk2⟩; rw [HLZ.out] at hB2; have HB2 := Lib.hid hB2; have HK2 := Lib.hid hk2; clear hB2 hk2)
                         | (go_at_call 64; (with_reducible refine (HA.out _ _ (HK2.out.S HBd.out HS.out cellBE)).mono ?_); rintro e w3 ⟨av, rfl, hO, hb3⟩; have HO := Lib.hid hO; have HB3 := Lib.hid hb3; obtain ⟨AB, cA, rfl, y1, y2, -⟩ := Kd.O_read hO; clear hO hb3))
      have HL3 := Lib.hid (Bld.ext HB2.out HB3.out)
      have HK3 := Lib.hid (HK2.out.trans (BW.of_below (Nat.le_trans hb0.out HK2.out.bel.size) HB3.out))
      clear x1 x2 x3
      go_loopw [36] (fun v36 wr => ∃ (i : Nat) (l' : Bs), v36 = .int .i64 i ∧ i ≤ al.length ∧ Hid (l' ++ tl (decide (i = 0)) (al.drop i) = l ++ (wd ++ tl true al)) ∧ Hid (Bld w0.heap.size b l' wr) ∧ Hid (BW w0.heap.size b w3 wr)) (fun v36 _ => al.length - (intOf v36).toNat)
      case atStart => exact ⟨0, l ++ wd, rfl, Nat.zero_le _, Lib.hid (by simp), HL3, Lib.hid (BW.of_below (Nat.le_trans HK3.out.bel.size (Nat.le_refl _) |> Nat.le_trans hb0.out) (Below.refl _ _))⟩
      case round =>
        obtain ⟨i, l', rfl, hi, HTl, HBr, HKr⟩ := hrel
        have HB0r := Lib.hid (Nat.le_trans hb0.out (HK3.out.trans HKr.out).bel.size)
        by_cases hlt : i < al.length
        · obtain ⟨x, hx⟩ : ∃ x, al[i]? = some x := ⟨_, List.getElem?_eq_getElem hlt⟩
          obtain ⟨A1, k1, ev1, _, _, hCx⟩ := Kd.O_read (HKr.out.O HL3.out HO.out trmBE)
          injection ev1 with u1 u2 u3
          obtain ⟨ax, xv, hax, cax, hSx⟩ := trm_at hCx hx
          have had1 := u1.trans hax
          have HSx := Lib.hid hSx
          have hxm := List.mem_of_getElem? hx
          have HXok := Lib.hid (HAok.out x hxm)
          have hdr : al.drop i = x :: al.drop (i + 1) := by
            obtain ⟨hl, e⟩ := List.getElem?_eq_some_iff.1 hx
            rw [List.drop_eq_getElem_cons hl, e]
          have HT1 := Lib.hid (show (l' ++ [if decide (i = 0) = true then 40 else 44] ++ txt x) ++ tl false (al.drop (i + 1)) = l ++ (wd ++ tl true al) by
            rw [← HTl.out, hdr, tl]; simp [List.append_assoc])
          have HX0 := Lib.hid (show (l' ++ [if decide (i = 0) = true then (40 : UInt8) else 44] ++ txt x).length ≤ 1000000000 by
            have h1 := HLen.out
            rw [← HT1.out, List.length_append] at h1
            omega)
          have Hl' := Lib.hid (show l'.length ≤ 1000000000 by have := HX0.out; simp only [List.length_append] at this; omega)
          clear u1 u2 u3 hax hCx hSx hx hdr hxm
          subst had1
          have hm0 : min (0 : Int) 1 = 0 := rfl
          have hm2 : min (2 : Int) 1 = 1 := rfl
          have h012 : i = 0 ∨ i = 1 ∨ i = 2 := by omega
          rcases h012 with rfl | rfl | rfl
          all_goals
            first | rw [add_zero'0] at cax | (unfold Addr.add at cax; rw [if_neg (by decide)] at cax)
            go_wp2_with (first | (go_at_call 62; (with_reducible refine (write_c w0.heap.size b l' _ wr _ HBr.out (bel_alloc (Below.refl _ _) _) HB0r.out Hl'.out (by decide)).mono ?_); rintro e w4 ⟨rfl, hB4, hk4⟩; have HB4 := Lib.hid hB4; have HK4 := Lib.hid hk4; clear hB4 hk4)
                               | (go_at_call 32; (with_reducible refine (IH.out x xv b _ w4 (Nat.le_trans HXok.out.2.2 Hrl.out) (HK4.out.S HBr.out HSx.out cellBE) HXok.out.1 HB4.out ?_ ?_).mono ?_); (case refine_1 => exact ((HW.out.trans (HK3.out.trans HKr.out).bel).trans HK4.out.bel)); (case refine_2 => exact HX0.out); rintro e w5 ⟨rfl, hB5, hk5⟩; have HB5 := Lib.hid hB5; have HK5 := Lib.hid hk5; clear hB5 hk5))
            exact ⟨⟨_, _, by go_num, hlt, HT1, HB5, Lib.hid (HKr.out.trans (HK4.out.trans HK5.out))⟩, by simp [intOf]; omega⟩
        · have hSr := (HK3.out.trans HKr.out).S HBd.out HS.out cellBE
          obtain ⟨A1, k1, ev1, _, _, hCx⟩ := hSr
          injection ev1 with u1 u2 u3
          obtain ⟨ad2, ea, x1, x2, x3⟩ := cell_hd hCx
          rw [← u1] at ea
          injection ea with ea
          subst ea
          clear u1 u2 u3 hCx
          have hdr := HTl.out
          rw [List.drop_of_length_le (by omega)] at hdr
          by_cases h0 : al.length = 0
          · have e7 : decide (0 < ar cc) = false := decide_eq_false (by rw [har0.out]; omega)
            have hi0 : i = 0 := by omega
            have HV := Lib.hid (show l' = l ++ (wd ++ tl true al) by rw [← hdr, hi0]; simp [tl])
            clear hdr
            go_wp2_with (go_at_call 65; (with_reducible refine (HAr.out _).mono ?_); rintro e w4 ⟨rfl, hb4⟩)
            go_end0
            rw [← HV.out]
            exact ⟨rfl, HBr.out.ext hb4, (HK3.out.trans HKr.out).trans (BW.of_below HB0r.out hb4)⟩
          · have e7 : decide (0 < ar cc) = true := decide_eq_true (by rw [har0.out]; omega)
            have HV := Lib.hid (show l' ++ L ⟨#[41]⟩ = l ++ (wd ++ tl true al) by
              rw [← hdr]
              rw [show decide (i = 0) = false from decide_eq_false (by omega)]
              rfl)
            have Hl' := Lib.hid (show l'.length ≤ 1000000000 by have := HLen.out; rw [← HV.out, List.length_append] at this; omega)
            clear hdr
            go_wp2_with (first | (go_at_call 65; (with_reducible refine (HAr.out _).mono ?_); rintro e w4 ⟨rfl, hb4⟩; have HB4 := Lib.hid hb4; clear hb4)
                               | (go_at_call 62; (with_reducible refine (write_c w0.heap.size b l' _ wr _ HBr.out HB4.out HB0r.out Hl'.out (by decide)).mono ?_); rintro e w5 ⟨rfl, hB5, hk5⟩))
            go_end0
            rw [← HV.out]
            exact ⟨rfl, hB5, (HK3.out.trans HKr.out).trans hk5⟩
    · rw [hZ] at HI
      clear hZ
      have hz := hsz.out
      go_enter Tryz.func32, Tryz.ntmps32
      go_wp2_with (first | (go_at_call 63; (with_reducible refine (HI.out _ (HTab.out.ext (bel_alloc HW.out _))).mono ?_); rintro e w1 ⟨rfl, hb1⟩; have HB1 := Lib.hid (bel_trans (bel_alloc (Below.refl _ _) _) hb1); clear hb1)
                         | (go_at_call 62; (with_reducible refine (HWr.out _ _ HLB.out HB1.out).mono ?_); rintro e w2 ⟨rfl, hB2, hk2⟩; rw [HLB.out] at hB2; have HB2 := Lib.hid hB2; have HK2 := Lib.hid hk2; clear hB2 hk2)
                         | (go_at_call 64; (with_reducible refine (HA.out _ _ (HK2.out.S HBd.out HS.out cellBE)).mono ?_); rintro e w3 ⟨av, rfl, hO, hb3⟩; have HO := Lib.hid hO; have HB3 := Lib.hid hb3; obtain ⟨AB, cA, rfl, y1, y2, -⟩ := Kd.O_read hO; clear hO hb3))
      have HL3 := Lib.hid (Bld.ext HB2.out HB3.out)
      have HK3 := Lib.hid (HK2.out.trans (BW.of_below (Nat.le_trans hb0.out HK2.out.bel.size) HB3.out))
      clear x1 x2 x3
      go_loopw [36] (fun v36 wr => ∃ (i : Nat) (l' : Bs), v36 = .int .i64 i ∧ i ≤ al.length ∧ Hid (l' ++ tl (decide (i = 0)) (al.drop i) = l ++ (wd ++ tl true al)) ∧ Hid (Bld w0.heap.size b l' wr) ∧ Hid (BW w0.heap.size b w3 wr)) (fun v36 _ => al.length - (intOf v36).toNat)
      case atStart => exact ⟨0, l ++ wd, rfl, Nat.zero_le _, Lib.hid (by simp), HL3, Lib.hid (BW.of_below (Nat.le_trans HK3.out.bel.size (Nat.le_refl _) |> Nat.le_trans hb0.out) (Below.refl _ _))⟩
      case round =>
        obtain ⟨i, l', rfl, hi, HTl, HBr, HKr⟩ := hrel
        have HB0r := Lib.hid (Nat.le_trans hb0.out (HK3.out.trans HKr.out).bel.size)
        by_cases hlt : i < al.length
        · obtain ⟨x, hx⟩ : ∃ x, al[i]? = some x := ⟨_, List.getElem?_eq_getElem hlt⟩
          obtain ⟨A1, k1, ev1, _, _, hCx⟩ := Kd.O_read (HKr.out.O HL3.out HO.out trmBE)
          injection ev1 with u1 u2 u3
          obtain ⟨ax, xv, hax, cax, hSx⟩ := trm_at hCx hx
          have had1 := u1.trans hax
          have HSx := Lib.hid hSx
          have hxm := List.mem_of_getElem? hx
          have HXok := Lib.hid (HAok.out x hxm)
          have hdr : al.drop i = x :: al.drop (i + 1) := by
            obtain ⟨hl, e⟩ := List.getElem?_eq_some_iff.1 hx
            rw [List.drop_eq_getElem_cons hl, e]
          have HT1 := Lib.hid (show (l' ++ [if decide (i = 0) = true then 40 else 44] ++ txt x) ++ tl false (al.drop (i + 1)) = l ++ (wd ++ tl true al) by
            rw [← HTl.out, hdr, tl]; simp [List.append_assoc])
          have HX0 := Lib.hid (show (l' ++ [if decide (i = 0) = true then (40 : UInt8) else 44] ++ txt x).length ≤ 1000000000 by
            have h1 := HLen.out
            rw [← HT1.out, List.length_append] at h1
            omega)
          have Hl' := Lib.hid (show l'.length ≤ 1000000000 by have := HX0.out; simp only [List.length_append] at this; omega)
          clear u1 u2 u3 hax hCx hSx hx hdr hxm
          subst had1
          have hm0 : min (0 : Int) 1 = 0 := rfl
          have hm2 : min (2 : Int) 1 = 1 := rfl
          have h012 : i = 0 ∨ i = 1 ∨ i = 2 := by omega
          rcases h012 with rfl | rfl | rfl
          all_goals
            first | rw [add_zero'0] at cax | (unfold Addr.add at cax; rw [if_neg (by decide)] at cax)
            go_wp2_with (first | (go_at_call 62; (with_reducible refine (write_c w0.heap.size b l' _ wr _ HBr.out (bel_alloc (Below.refl _ _) _) HB0r.out Hl'.out (by decide)).mono ?_); rintro e w4 ⟨rfl, hB4, hk4⟩; have HB4 := Lib.hid hB4; have HK4 := Lib.hid hk4; clear hB4 hk4)
                               | (go_at_call 32; (with_reducible refine (IH.out x xv b _ w4 (Nat.le_trans HXok.out.2.2 Hrl.out) (HK4.out.S HBr.out HSx.out cellBE) HXok.out.1 HB4.out ?_ ?_).mono ?_); (case refine_1 => exact ((HW.out.trans (HK3.out.trans HKr.out).bel).trans HK4.out.bel)); (case refine_2 => exact HX0.out); rintro e w5 ⟨rfl, hB5, hk5⟩; have HB5 := Lib.hid hB5; have HK5 := Lib.hid hk5; clear hB5 hk5))
            exact ⟨⟨_, _, by go_num, hlt, HT1, HB5, Lib.hid (HKr.out.trans (HK4.out.trans HK5.out))⟩, by simp [intOf]; omega⟩
        · have hSr := (HK3.out.trans HKr.out).S HBd.out HS.out cellBE
          obtain ⟨A1, k1, ev1, _, _, hCx⟩ := hSr
          injection ev1 with u1 u2 u3
          obtain ⟨ad2, ea, x1, x2, x3⟩ := cell_hd hCx
          rw [← u1] at ea
          injection ea with ea
          subst ea
          clear u1 u2 u3 hCx
          have hdr := HTl.out
          rw [List.drop_of_length_le (by omega)] at hdr
          by_cases h0 : al.length = 0
          · have e7 : decide (0 < ar cc) = false := decide_eq_false (by rw [har0.out]; omega)
            have hi0 : i = 0 := by omega
            have HV := Lib.hid (show l' = l ++ (wd ++ tl true al) by rw [← hdr, hi0]; simp [tl])
            clear hdr
            go_wp2_with (go_at_call 65; (with_reducible refine (HAr.out _).mono ?_); rintro e w4 ⟨rfl, hb4⟩)
            go_end0
            rw [← HV.out]
            exact ⟨rfl, HBr.out.ext hb4, (HK3.out.trans HKr.out).trans (BW.of_below HB0r.out hb4)⟩
          · have e7 : decide (0 < ar cc) = true := decide_eq_true (by rw [har0.out]; omega)
            have HV := Lib.hid (show l' ++ L ⟨#[41]⟩ = l ++ (wd ++ tl true al) by
              rw [← hdr]
              rw [show decide (i = 0) = false from decide_eq_false (by omega)]
              rfl)
            have Hl' := Lib.hid (show l'.length ≤ 1000000000 by have := HLen.out; rw [← HV.out, List.length_append] at this; omega)
            clear hdr
            go_wp2_with (first | (go_at_call 65; (with_reducible refine (HAr.out _).mono ?_); rintro e w4 ⟨rfl, hb4⟩; have HB4 := Lib.hid hb4; clear hb4)
                               | (go_at_call 62; (with_reducible refine (write_c w0.heap.size b l' _ wr _ HBr.out HB4.out HB0r.out Hl'.out (by decide)).mono ?_); rintro e w5 ⟨rfl, hB5, hk5⟩))
            go_end0
            rw [← HV.out]
            exact ⟨rfl, hB5, (HK3.out.trans HKr.out).trans hk5⟩
    · rw [hZ] at x3
      have HX3 := Lib.hid hZ
      clear hZ
      have hz := hsz.out
      go_enter Tryz.func32, Tryz.ntmps32
      go_wp2_with (first | (go_at_call 62; (with_reducible refine (HWr.out _ _ HLB.out (bel_alloc (Below.refl _ _) _)).mono ?_); rintro e w2 ⟨rfl, hB2, hk2⟩; rw [HLB.out] at hB2; have HB2 := Lib.hid hB2; have HK2 := Lib.hid hk2; clear hB2 hk2)
                         | (go_at_call 64; (with_reducible refine (HA.out _ _ (HK2.out.S HBd.out HS.out cellBE)).mono ?_); rintro e w3 ⟨av, rfl, hO, hb3⟩; have HO := Lib.hid hO; have HB3 := Lib.hid hb3; obtain ⟨AB, cA, rfl, y1, y2, -⟩ := Kd.O_read hO; clear hO hb3))
      have HL3 := Lib.hid (Bld.ext HB2.out HB3.out)
      have HK3 := Lib.hid (HK2.out.trans (BW.of_below (Nat.le_trans hb0.out HK2.out.bel.size) HB3.out))
      clear x1 x2 x3
      go_loopw [36] (fun v36 wr => ∃ (i : Nat) (l' : Bs), v36 = .int .i64 i ∧ i ≤ al.length ∧ Hid (l' ++ tl (decide (i = 0)) (al.drop i) = l ++ (wd ++ tl true al)) ∧ Hid (Bld w0.heap.size b l' wr) ∧ Hid (BW w0.heap.size b w3 wr)) (fun v36 _ => al.length - (intOf v36).toNat)
      case atStart => exact ⟨0, l ++ wd, rfl, Nat.zero_le _, Lib.hid (by simp), HL3, Lib.hid (BW.of_below (Nat.le_trans HK3.out.bel.size (Nat.le_refl _) |> Nat.le_trans hb0.out) (Below.refl _ _))⟩
      case round =>
        obtain ⟨i, l', rfl, hi, HTl, HBr, HKr⟩ := hrel
        have HB0r := Lib.hid (Nat.le_trans hb0.out (HK3.out.trans HKr.out).bel.size)
        by_cases hlt : i < al.length
        · obtain ⟨x, hx⟩ : ∃ x, al[i]? = some x := ⟨_, List.getElem?_eq_getElem hlt⟩
          obtain ⟨A1, k1, ev1, _, _, hCx⟩ := Kd.O_read (HKr.out.O HL3.out HO.out trmBE)
          injection ev1 with u1 u2 u3
          obtain ⟨ax, xv, hax, cax, hSx⟩ := trm_at hCx hx
          have had1 := u1.trans hax
          have HSx := Lib.hid hSx
          have hxm := List.mem_of_getElem? hx
          have HXok := Lib.hid (HAok.out x hxm)
          have hdr : al.drop i = x :: al.drop (i + 1) := by
            obtain ⟨hl, e⟩ := List.getElem?_eq_some_iff.1 hx
            rw [List.drop_eq_getElem_cons hl, e]
          have HT1 := Lib.hid (show (l' ++ [if decide (i = 0) = true then 40 else 44] ++ txt x) ++ tl false (al.drop (i + 1)) = l ++ (wd ++ tl true al) by
            rw [← HTl.out, hdr, tl]; simp [List.append_assoc])
          have HX0 := Lib.hid (show (l' ++ [if decide (i = 0) = true then (40 : UInt8) else 44] ++ txt x).length ≤ 1000000000 by
            have h1 := HLen.out
            rw [← HT1.out, List.length_append] at h1
            omega)
          have Hl' := Lib.hid (show l'.length ≤ 1000000000 by have := HX0.out; simp only [List.length_append] at this; omega)
          clear u1 u2 u3 hax hCx hSx hx hdr hxm
          subst had1
          have hm0 : min (0 : Int) 1 = 0 := rfl
          have hm2 : min (2 : Int) 1 = 1 := rfl
          have h012 : i = 0 ∨ i = 1 ∨ i = 2 := by omega
          rcases h012 with rfl | rfl | rfl
          all_goals
            first | rw [add_zero'0] at cax | (unfold Addr.add at cax; rw [if_neg (by decide)] at cax)
            go_wp2_with (first | (go_at_call 62; (with_reducible refine (write_c w0.heap.size b l' _ wr _ HBr.out (bel_alloc (Below.refl _ _) _) HB0r.out Hl'.out (by decide)).mono ?_); rintro e w4 ⟨rfl, hB4, hk4⟩; have HB4 := Lib.hid hB4; have HK4 := Lib.hid hk4; clear hB4 hk4)
                               | (go_at_call 32; (with_reducible refine (IH.out x xv b _ w4 (Nat.le_trans HXok.out.2.2 Hrl.out) (HK4.out.S HBr.out HSx.out cellBE) HXok.out.1 HB4.out ?_ ?_).mono ?_); (case refine_1 => exact ((HW.out.trans (HK3.out.trans HKr.out).bel).trans HK4.out.bel)); (case refine_2 => exact HX0.out); rintro e w5 ⟨rfl, hB5, hk5⟩; have HB5 := Lib.hid hB5; have HK5 := Lib.hid hk5; clear hB5 hk5))
            exact ⟨⟨_, _, by go_num, hlt, HT1, HB5, Lib.hid (HKr.out.trans (HK4.out.trans HK5.out))⟩, by simp [intOf]; omega⟩
        · have hSr := (HK3.out.trans HKr.out).S HBd.out HS.out cellBE
          obtain ⟨A1, k1, ev1, _, _, hCx⟩ := hSr
          injection ev1 with u1 u2 u3
          obtain ⟨ad2, ea, x1, x2, x3⟩ := cell_hd hCx
          rw [← u1] at ea
          injection ea with ea
          subst ea
          clear u1 u2 u3 hCx
          have hdr := HTl.out
          rw [List.drop_of_length_le (by omega)] at hdr
          by_cases h0 : al.length = 0
          · have e7 : decide (0 < ar cc) = false := decide_eq_false (by rw [har0.out]; omega)
            have hi0 : i = 0 := by omega
            have HV := Lib.hid (show l' = l ++ (wd ++ tl true al) by rw [← hdr, hi0]; simp [tl])
            clear hdr
            go_wp2_with (go_at_call 65; (with_reducible refine (HAr.out _).mono ?_); rintro e w4 ⟨rfl, hb4⟩)
            go_end0
            rw [← HV.out]
            exact ⟨rfl, HBr.out.ext hb4, (HK3.out.trans HKr.out).trans (BW.of_below HB0r.out hb4)⟩
          · have e7 : decide (0 < ar cc) = true := decide_eq_true (by rw [har0.out]; omega)
            have HV := Lib.hid (show l' ++ L ⟨#[41]⟩ = l ++ (wd ++ tl true al) by
              rw [← hdr]
              rw [show decide (i = 0) = false from decide_eq_false (by omega)]
              rfl)
            have Hl' := Lib.hid (show l'.length ≤ 1000000000 by have := HLen.out; rw [← HV.out, List.length_append] at this; omega)
            clear hdr
            go_wp2_with (first | (go_at_call 65; (with_reducible refine (HAr.out _).mono ?_); rintro e w4 ⟨rfl, hb4⟩; have HB4 := Lib.hid hb4; clear hb4)
                               | (go_at_call 62; (with_reducible refine (write_c w0.heap.size b l' _ wr _ HBr.out HB4.out HB0r.out Hl'.out (by decide)).mono ?_); rintro e w5 ⟨rfl, hB5, hk5⟩))
            go_end0
            rw [← HV.out]
            exact ⟨rfl, hB5, (HK3.out.trans HKr.out).trans hk5⟩

def textOf (t : Trm) : Bs := if trmOk t then txt t else []
theorem textIm_c (t : Trm) (tv : Value) (w : World) (h : Kd.cell.S 47 w tv t) (hl : t.length ≤ 1000000000) (hz : sized t) (hT : Tab w) :
    Calls Tryz.prog 16 #[tv] w fun e w' => e = .returned (.string (B (textOf t))) ∧ Below w.heap.size w w' := by
  have HK := Lib.hid (imOkS_c t tv w h hl hz)
  unfold textOf
  cases hq : trmOk t with
  | false =>
    rw [hq] at HK
    clear h hq
    go_enter Tryz.func16, Tryz.ntmps16
    go_wp2_with (go_at_call 31; (with_reducible refine HK.out.mono ?_); rintro e w1 ⟨rfl, hb⟩)
    go_ret
    exact ⟨rfl, hb⟩
  | true =>
    rw [hq] at HK
    rw [if_pos rfl]
    have H := Lib.hid h
    have Hq := Lib.hid hq
    have HTb := Lib.hid hT
    clear h hq hT
    have HX := Lib.hid (fun w1 (hT1 : Tab w1) (hS1 : Kd.cell.S 47 w1 tv t) (hlen : (txt t).length ≤ 1000000000) => textI_c w1 hT1 t.length t tv w1.heap.size [] (w1.alloc (.cells #[.pointer none, .slice none 0 0] 59)) (Nat.le_refl _) (Kd.S_alloc _ hS1) Hq.out
      (.inl ⟨Nat.le_refl _, .slice none 0 0, heap_alloc_new _ _, World.ownsRowF_nil _ _ _ _, by simp [Value.ownBlock]⟩) (bel_alloc (Below.refl _ _) _) hlen)
    have HLn := Lib.hid (txt_len Hq.out)
    go_enter Tryz.func16, Tryz.ntmps16
    go_wp2_with (first | (go_at_call 31; (with_reducible refine HK.out.mono ?_); rintro e w1 ⟨rfl, hb⟩; have HB := Lib.hid hb; clear hb)
                       | (go_at_call 32; (with_reducible refine (HX.out w1 (HTb.out.ext HB.out) (Kd.S_ext HB.out H.out) HLn.out).mono ?_); rintro e w2 ⟨rfl, hB2, hk2⟩; have HB2 := Lib.hid hB2; have HK2 := Lib.hid hk2; clear hB2 hk2)
                       | (go_at_call 33; (with_reducible refine (str_c w1.heap.size w1.heap.size _ w2 HB2.out (Nat.le_trans (bel_alloc (Below.refl _ w1) (.cells #[.pointer none, .slice none 0 0] 59)).size HK2.out.bel.size)).mono ?_); rintro e w3 ⟨rfl, hb3⟩))
    go_ret
    exact ⟨rfl, bel_trans HB.out (((bel_alloc (Below.refl _ _) _).trans HK2.out.bel).trans hb3)⟩
end Go.Proofs.YtjnangiggnmkoaaGreatDoor
