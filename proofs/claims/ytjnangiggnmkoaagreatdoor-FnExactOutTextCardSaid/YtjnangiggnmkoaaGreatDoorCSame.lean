/- Contract: the reference's sameness of terms. -/
import Derived.Test.YtjnangiggnmkoaaGreatDoorCCanon
namespace Go.Proofs.YtjnangiggnmkoaaGreatDoor
open Go.RowKit
set_option maxRecDepth 100000
set_option maxHeartbeats 1000000
set_option linter.unusedVariables false
theorem same_c (t u : Trm) (A B : Option Addr) (c d : Nat) (w : World) (h : Kd.cell.C 47 w A t) (h' : Kd.cell.C 47 w B u) (hl : t.length ≤ 1000000000) (hl' : u.length ≤ 1000000000) :
    Calls Tryz.prog 27 #[.slice A t.length c, .slice B u.length d] w fun e w' => e = .returned (.bool (decide (t = u))) ∧ Below w.heap.size w w' := by
  by_cases hlen : t.length = u.length
  · have H := Lib.hid h
    have H' := Lib.hid h'
    have HL := Lib.hid hlen
    clear h h'
    rw [← hlen]
    clear hlen hl'
    go_enter Tryz.func27, Tryz.ntmps27
    go_wp2
    go_loopw [5] (fun v5 wr => ∃ k : Nat, v5 = .int .i64 k ∧ k ≤ t.length ∧ Hid (t.take k = u.take k) ∧ Hid (Below w.heap.size w wr)) (fun v5 _ => t.length - (intOf v5).toNat)
    case atStart => exact ⟨0, rfl, Nat.zero_le _, Lib.hid rfl, Lib.hid (Below.refl _ _)⟩
    case round =>
      obtain ⟨k, rfl, hk, HS, HB⟩ := hrel
      by_cases hlt : k < t.length
      · obtain ⟨x, hx⟩ : ∃ x, t[k]? = some x := ⟨_, List.getElem?_eq_getElem hlt⟩
        obtain ⟨y, hy⟩ : ∃ y, u[k]? = some y := ⟨_, List.getElem?_eq_getElem (show k < u.length by rw [← HL.out]; exact hlt)⟩
        obtain ⟨ad, rfl, a1, a2, a3⟩ := cell_at (Kd.C_ext HB.out H.out) hx
        obtain ⟨ad', rfl, b1, b2, b3⟩ := cell_at (Kd.C_ext HB.out H'.out) hy
        by_cases hxy : x = y
        · subst hxy
          have HN := Lib.hid (show t.take (k + 1) = u.take (k + 1) by
            rw [List.take_add_one, List.take_add_one, HS.out, hx, hy])
          clear hx hy
          go_upto_region 6 with fail
          go_quiet (fail)
          go_wp2
          exact ⟨⟨k + 1, by go_num, by omega, HN, Lib.hid (bel_drewN HB.out _)⟩, by simp [intOf]; omega⟩
        · have HV := Lib.hid (show decide (t = u) = false from decide_eq_false (fun e => hxy (by rw [e, hy] at hx; exact (Option.some.inj hx).symm)))
          clear hx hy
          by_cases hk1 : x.k = y.k
          · by_cases hn1 : x.n = y.n
            · have hs1 : (x.s.toList == y.s.toList) = false := by
                rw [Lib.toList_data, Lib.toList_data]
                exact beq_eq_false_iff_ne.2 (fun e => hxy (by
                  obtain ⟨k1, n1, s1⟩ := x
                  obtain ⟨k2, n2, s2⟩ := y
                  obtain rfl : k1 = k2 := hk1
                  obtain rfl : n1 = n2 := hn1
                  have e : s1 = s2 := ByteArray.ext (Array.toList_inj.1 e)
                  rw [e]))
              clear hxy
              go_upto_region 6 with fail
              go_quiet (fail)
              go_wp2
              go_ret
              exact ⟨ret_bool HV.out.symm, bel_drewN HB.out _⟩
            · have e1 : (x.n == y.n) = false := beq_eq_false_iff_ne.2 hn1
              clear hxy hn1
              go_upto_region 6 with fail
              go_quiet (fail)
              go_wp2
              go_ret
              exact ⟨ret_bool HV.out.symm, bel_drewN HB.out _⟩
          · have e1 : (x.k == y.k) = false := beq_eq_false_iff_ne.2 hk1
            clear hxy hk1
            go_upto_region 6 with fail
            go_quiet (fail)
            go_wp2
            go_ret
            exact ⟨ret_bool HV.out.symm, bel_drewN HB.out _⟩
      · have HV := Lib.hid (show decide (t = u) = true from decide_eq_true (by
          have e := HS.out
          rwa [List.take_of_length_le (by omega), List.take_of_length_le (by rw [← HL.out]; omega)] at e))
        go_wp2
        go_ret
        exact ⟨ret_bool HV.out.symm, HB.out⟩
  · have hne : ((t.length : Int) != (u.length : Int)) = true := bne_iff_ne.2 (by omega)
    have HV := Lib.hid (show decide (t = u) = false from decide_eq_false (fun e => hlen (by rw [e])))
    go_enter Tryz.func27, Tryz.ntmps27
    go_wp2
    go_ret
    exact ⟨ret_bool HV.out.symm, Below.refl _ _⟩
end Go.Proofs.YtjnangiggnmkoaaGreatDoor
