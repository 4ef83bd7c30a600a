/- Contracts: the reference's bindings: what a variable is bound to, what a term leads to, what it is at its beginning. -/
import Derived.Test.YtjnangiggnmkoaaGreatDoorBase2
import Derived.Test.YtjnangiggnmkoaaGreatDoorCTop
import Derived.Test.YtjnangiggnmkoaaGreatDoorUni3
import Derived.Deep.LoopGhost
namespace Go.Proofs.YtjnangiggnmkoaaGreatDoor
open Go.RowKit
set_option maxRecDepth 100000
set_option maxHeartbeats 1000000
set_option linter.unusedVariables false
/-- A binding: a variable and a term. -/
abbrev Kd.bind : Kd (Int × Trm) := Kd.pair (Kd.int .i64) (Kd.slice 47 Kd.cell)
theorem AppI.int : AppI Tryz.prog 62 3 (Kd.int .i64) := ⟨Tryz.underlying62, ⟨_, 8, infoInt, rfl, by decide⟩, by decide, fun q hq => by cases hq⟩
theorem AppI.cell : AppI Tryz.prog 28 47 Kd.cell := ⟨Tryz.underlying28, ⟨_, 32, infoCell, rfl, by decide⟩, by decide, fun q hq => by cases hq⟩
theorem AppI.bind : AppI Tryz.prog 53 115 Kd.bind := ⟨Tryz.underlying53, ⟨.agg #[.int .i64 0, .slice none 0 0], 32, by kernel_rfl, rfl, by decide⟩, by decide, fun q hq => by
  have : q = 47 := by simpa [Kd.bind, Kd.pair, Kd.int, Kd.slice, Kd.cell] using hq
  rw [this]; decide⟩
theorem add_zero' (ad : Addr) : ad.add 0 = ad := by unfold Addr.add; rw [if_pos rfl]
theorem cell_hd {e : Nat} {w : World} {A : Option Addr} {c : Cell} {r : Trm} (h : Kd.cell.C e w A (c :: r)) :
    ∃ ad, A = some ad ∧ w.cell? ad = some (.int .i64 c.k) ∧ w.cell? ⟨ad.block, ad.off + 1, none⟩ = some (.int .i64 c.n) ∧ w.cell? ⟨ad.block, ad.off + 2, none⟩ = some (.string c.s) := by
  obtain ⟨ad, ea, h1, h2, h3⟩ := cell_at (i := 0) h rfl
  rw [Nat.zero_mul, add_zero'] at h1 h2 h3
  exact ⟨ad, ea, h1, h2, h3⟩
theorem bind_at {e : Nat} {w : World} {A : Option Addr} {s : Binds} (h : Kd.bind.C e w A s) {i : Nat} {b : Int × Trm} (hi : s[i]? = some b) :
    ∃ ad B c, A = some ad ∧ w.cell? (ad.add (i * 2)) = some (.int .i64 b.1) ∧ w.cell? ⟨(ad.add (i * 2)).block, (ad.add (i * 2)).off + 1, none⟩ = some (.slice B b.2.length c) ∧ b.2.length ≤ c ∧ c ≤ maxLen ∧ Kd.cell.C 47 w B b.2 := by
  obtain ⟨ad, cs, _, _, ea, _, hk, hc⟩ := h i b hi
  obtain ⟨c0, c1, rfl, h0, tv, rfl, B, c, rfl, h1, h2, hC⟩ := hk
  obtain rfl : c0 = [.int .i64 b.1] := h0
  refine ⟨ad, B, c, ea, ?_, ?_, h1, h2, hC⟩
  · have := hc 0 _ rfl; rwa [Nat.add_zero] at this
  · have := hc 1 _ rfl; rw [← add_add'] at this; exact this
theorem getB_hit {s : Binds} {k : Nat} {v : Int} {b : Int × Trm} (h : s[k]? = some b) (hv : b.1 = v) (hj : ∀ (j : Nat) (b : Int × Trm), j < k → s[j]? = some b → b.1 ≠ v) : getB s v = some b.2 := by
  unfold getB
  have : s.find? (fun b => decide (b.1 = v)) = some b := by
    rw [List.find?_eq_some_iff_getElem]
    obtain ⟨hl, e⟩ := List.getElem?_eq_some_iff.1 h
    refine ⟨decide_eq_true hv, k, hl, e, fun j hjk => ?_⟩
    have := hj j _ hjk (List.getElem?_eq_getElem (by omega))
    simp [this]
  rw [this]; rfl
theorem getB_miss {s : Binds} {v : Int} (hj : ∀ (j : Nat) (b : Int × Trm), s[j]? = some b → b.1 ≠ v) : getB s v = none := by
  rw [getB_none]
  intro h
  rw [List.mem_map] at h
  obtain ⟨b, hb, rfl⟩ := h
  obtain ⟨j, hlt, e⟩ := List.mem_iff_getElem.1 hb
  exact hj j b (by rw [List.getElem?_eq_getElem hlt, e]) rfl
theorem get_c (s : Binds) (A : Option Addr) (c : Nat) (v : Int) (w : World) (h : Kd.bind.C 115 w A s) (hl : s.length ≤ 1000000000) :
    Calls Tryz.prog 84 #[.slice A s.length c, .int .i64 v] w fun e w' => ∃ r, e = .returned r ∧ Kd.cell.S 47 w' r ((getB s v).getD []) ∧ Below w.heap.size w w' := by
  have H := Lib.hid h
  clear h
  go_enter Tryz.func84, Tryz.ntmps84
  go_wp2
  go_loop [5] (fun v5 => ∃ k : Nat, v5 = .int .i64 k ∧ k ≤ s.length ∧ Hid (∀ j b, j < k → s[j]? = some b → b.1 ≠ v)) (fun v5 => s.length - (intOf v5).toNat)
  case atStart => exact ⟨0, rfl, Nat.zero_le _, Lib.hid (fun j b h => by omega)⟩
  case round =>
    obtain ⟨k, rfl, hk, HJ⟩ := hrel
    by_cases hlt : k < s.length
    · obtain ⟨b, hb⟩ : ∃ b, s[k]? = some b := ⟨_, List.getElem?_eq_getElem hlt⟩
      obtain ⟨ad, B, cB, rfl, a1, a2, b1, b2, hC⟩ := bind_at H.out hb
      have HC := Lib.hid hC
      clear hC
      by_cases he : b.1 = v
      · have e1 : (b.1 == v) = true := beq_iff_eq.2 he
        have HV := Lib.hid (getB_hit hb he HJ.out)
        clear he hb
        go_wp2
        go_ret
        exact ⟨_, rfl, by rw [HV.out]; exact ⟨B, cB, rfl, b1, b2, HC.out⟩, Below.refl _ _⟩
      · have e1 : (b.1 == v) = false := beq_eq_false_iff_ne.2 he
        have HN := Lib.hid (show ∀ j b, j < k + 1 → s[j]? = some b → b.1 ≠ v from fun j b' hj hb' => by
          rcases Nat.lt_or_ge j k with h' | h'
          · exact HJ.out j b' h' hb'
          · obtain rfl : j = k := by omega
            rw [hb] at hb'; obtain rfl := Option.some.inj hb'; exact he)
        clear he hb
        go_wp2
        exact ⟨⟨k + 1, by go_num, by omega, HN⟩, by simp [intOf]; omega⟩
    · have HV := Lib.hid (getB_miss (s := s) (v := v) (fun j b hb => HJ.out j b (by have := (List.getElem?_eq_some_iff.1 hb).1; omega) hb))
      go_wp2
      go_ret
      exact ⟨_, rfl, by rw [HV.out]; exact ⟨_, _, rfl, Nat.le_refl _, Nat.zero_le _, Kd.C_nil _ _ _ _⟩, by first | exact bel_alloc (Below.refl _ _) _ | exact Below.refl _ _⟩
theorem walk_c (n : Nat) (s : Binds) (A : Option Addr) (c : Nat) (t x : Trm) (tv : Value) (w : World) (h : Kd.bind.C 115 w A s) (hl : s.length ≤ 1000000000) (ht : Kd.cell.S 47 w tv t) (hw : walkB n s t = some x) (hne : ∀ v t, getB s v = some t → t ≠ []) :
    Calls Tryz.prog 55 #[.slice A s.length c, tv] w fun e w' => ∃ r, e = .returned r ∧ Kd.cell.S 47 w' r x ∧ Below w.heap.size w w' := by
  have H := Lib.hid h
  have HT := Lib.hid ht
  have HW := Lib.hid hw
  have HNe := Lib.hid hne
  clear h ht hw hne
  go_enter Tryz.func55, Tryz.ntmps55
  go_wp2
  go_loopg [5] n (fun k v5 wr => ∃ u, Hid (walkB k s u = some x) ∧ Hid (Kd.cell.S 47 wr v5 u) ∧ Hid (Below w.heap.size w wr))
  case atStart => exact ⟨t, HW, HT, Lib.hid (Below.refl _ _)⟩
  case round =>
    obtain ⟨u, HU, HS, HB⟩ := hrel
    obtain ⟨k, rfl⟩ : ∃ k, gk = k + 1 := by
      cases gk with
      | zero => have := HU.out; simp [walkB] at this
      | succ k => exact ⟨k, rfl⟩
    obtain ⟨cc, r, rfl⟩ : ∃ cc r, u = cc :: r := by
      cases u with
      | nil => have := HU.out; simp [walkB] at this
      | cons cc r => exact ⟨cc, r, rfl⟩
    obtain ⟨B, cB, rfl, b1, b2, hC⟩ := HS.out
    obtain ⟨ad, rfl, a1, a2, a3⟩ := cell_hd hC
    have hn : (0 : Int) < ((cc :: r).length : Int) := by rw [List.length_cons]; omega
    have HG := Lib.hid (fun W hb => get_c s A c cc.n W (Kd.C_ext (w' := W) hb H.out) hl)
    clear hC
    have HS' := Lib.hid HS.out
    clear HS
    obtain ⟨m, hm⟩ : ∃ m, (cc :: r).length = m := ⟨_, rfl⟩
    rw [hm] at hn b1 HS' 
    rw [hm]
    by_cases h1 : cc.k = 1
    · have e1 : (cc.k == 1) = true := beq_iff_eq.2 h1
      obtain ⟨g, hg⟩ : ∃ g, getB s cc.n = g := ⟨_, rfl⟩
      rw [hg] at HG
      cases g with
      | none =>
        have HX := Lib.hid (show x = cc :: r by have := HU.out; unfold walkB at this; dsimp only at this; rw [if_pos h1, hg] at this; exact (Option.some.inj this).symm)
        clear h1 hg hm
        go_wp2_with (go_at_call 84; refine (HG.out _ HB.out).mono ?_; rintro e w1 ⟨rv, rfl, ⟨B', c', rfl, d1, d2, hC'⟩, hb⟩; have HB1 := Lib.hid (bel_trans HB.out hb); have Hb := Lib.hid hb; clear hb hC')
        go_ret
        exact ⟨_, rfl, by rw [HX.out]; exact Kd.S_ext Hb.out HS'.out, HB1.out⟩
      | some u' =>
        have HX := Lib.hid (show walkB k s u' = some x by have := HU.out; unfold walkB at this; dsimp only at this; rw [if_pos h1, hg] at this; exact this)
        have hu' : 0 < u'.length := List.length_pos_iff.2 (HNe.out _ _ hg)
        have e2 : ((u'.length : Int) == 0) = false := beq_eq_false_iff_ne.2 (by omega)
        have HG : Hid (∀ (W : World), Below w.heap.size w W → Calls Tryz.prog 84 #[Value.slice A s.length c, Value.int .i64 cc.n] W fun e w' => ∃ r, e = .returned r ∧ Kd.cell.S 47 w' r u' ∧ Below W.heap.size W w') := HG
        clear h1 hg hm
        go_wp2_with (go_at_call 84; refine (HG.out _ HB.out).mono ?_; rintro e w1 ⟨rv, rfl, ⟨B', c', rfl, d1, d2, hC'⟩, hb⟩; have HB1 := Lib.hid (bel_trans HB.out hb); have HC' := Lib.hid hC'; clear hb hC')
        go_roundg k
        case measure => omega
        case rel => exact ⟨u', HX, Lib.hid ⟨_, _, rfl, d1, d2, HC'.out⟩, HB1⟩
    · have e1 : (cc.k == 1) = false := beq_eq_false_iff_ne.2 h1
      have HX := Lib.hid (show x = cc :: r by have := HU.out; unfold walkB at this; dsimp only at this; rw [if_neg h1] at this; exact (Option.some.inj this).symm)
      clear h1 hm
      go_wp2
      go_ret
      exact ⟨_, rfl, by rw [HX.out]; exact HS'.out, HB.out⟩
end Go.Proofs.YtjnangiggnmkoaaGreatDoor
