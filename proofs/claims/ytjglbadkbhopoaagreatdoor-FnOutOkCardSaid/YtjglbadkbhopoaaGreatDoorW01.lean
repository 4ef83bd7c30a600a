/- Lemmas and contracts for FnOutOk, part 1. -/
import Derived.Test.YtjglbadkbhopoaaGreatDoorW00
import Derived.Outline
import Derived.Deep.RegionWith
import Derived.Deep.DeepCutAuto
import Derived.Deep.CutBlock
import Derived.Laws.BitsAllLaws
import Derived.Laws.Bits64
namespace Go.Proofs.YtjglbadkbhopoaaGreatDoor
open Go.RowKit
set_option maxRecDepth 100000
set_option maxHeartbeats 4000000
set_option linter.unusedVariables false
theorem infoCell : (Tryz.prog.info? 47).map (fun i => (i.zero, i.size, i.bytes)) = some (some (.agg #[.int .i64 0, .int .i64 0, .string ⟨#[]⟩]), 3, 32) := by kernel_rfl
theorem lit2 (d : Kd Cell) (e : Nat) {w : World} {o : Obj} {x : Cell} {cs : List Value} (h : d.K (w.alloc o) x cs) : d.C e ((w.alloc o).alloc (.cells cs.toArray e)) (some ⟨w.heap.size + 1, 0, none⟩) [x] := by
  have := Kd.C_lit d e h
  rwa [show (w.alloc o).heap.size = w.heap.size + 1 from by show (w.heap.push o).size = _; rw [Array.size_push]] at this
def canonCell (xs : List Int) (c : Cell) : Cell := if c.k = 1 then { c with n := place xs c.n } else c
theorem canon_take {t : Trm} {k : Nat} {c : Cell} (f : Cell → Cell) (h : t[k]? = some c) : (t.take (k + 1)).map f = (t.take k).map f ++ [f c] := by
  have hl := (List.getElem?_eq_some_iff.1 h).1
  rw [List.take_succ_eq_append_getElem hl, (List.getElem?_eq_some_iff.1 h).2, List.map_append]; rfl
theorem canon_c (t : Trm) (A : Option Addr) (c : Nat) (w : World) (h : Kd.cell.C 47 w A t) (hl : t.length ≤ 1000000000) :
    Calls Tryz.prog 23 #[.slice A t.length c] w fun e w' => ∃ v, e = .returned v ∧ Kd.cell.S 47 w' v (canon t) ∧ Below w.heap.size w w' := by
  have H := Lib.hid h
  have HF := Lib.hid (free_c t A c w h hl)
  clear h
  go_enter Tryz.func23, Tryz.ntmps23
  go_wp2_with (go_at_call 52; refine HF.out.mono ?_; rintro e w1 ⟨v, rfl, hO, hb⟩; obtain ⟨F, cF, rfl, hf1, hf2, hCF⟩ := Kd.O_read hO; have HB1 := Lib.hid hb; have HFr := Lib.hid hCF; clear hO hb hCF)
  have hfl := free_len t
  go_loopw [4, 5] (fun v4 v5 wr => ∃ (k : Nat) (D : Trm), v5 = .int .i64 k ∧ k ≤ t.length ∧ D.length = k ∧ Hid ((t.take k).map (canonCell (free t)) = D) ∧ Hid (Kd.cell.O 47 wr w1.heap.size v4 D) ∧ Hid (Below w1.heap.size w1 wr)) (fun _ v5 _ => t.length - (intOf v5).toNat)
  case atStart => exact ⟨0, [], rfl, Nat.zero_le _, rfl, Lib.hid rfl, Lib.hid (Kd.O_empty Kd.cell _ w1 (Nat.le_refl _)), Lib.hid (bel_alloc (Below.refl _ _) _)⟩
  case round =>
    obtain ⟨k, D, rfl, hk, hD, HS, HO, HB⟩ := hrel
    by_cases hlt : k < t.length
    · obtain ⟨cc, hc⟩ : ∃ cc, t[k]? = some cc := ⟨_, List.getElem?_eq_getElem hlt⟩
      obtain ⟨ad, rfl, a1, a2, a3⟩ := cell_at (Kd.C_ext (bel_trans HB1.out HB.out) H.out) hc
      have HT := Lib.hid (canon_take (canonCell (free t)) hc)
      rw [HS.out] at HT
      clear hc
      by_cases h1 : cc.k = 1
      · have e1 : (cc.k == 1) = true := beq_iff_eq.2 h1
        have HP := Lib.hid (fun W (hb : Below w1.heap.size w1 W) => place_c (free t) F cF cc.n W (Kd.C_ext hb HFr.out) (by omega))
        obtain ⟨q, hq⟩ : ∃ q, place (free t) cc.n = q := ⟨_, rfl⟩
        have HC := Lib.hid (show canonCell (free t) cc = ⟨cc.k, q, cc.s⟩ by unfold canonCell; rw [if_pos h1, hq])
        rw [hq] at HP
        rw [HC.out] at HT
        clear h1 hq
        go_wp2_with (first | (go_at_call 53; refine (HP.out _ (bel_alloc HB.out _)).mono ?_; rintro e w2 ⟨rfl, rfl⟩) | (at_builtin; refine wp_append (d := Kd.cell) _ rfl (.tmp 28) (.tmp 30) 23 rfl w1.heap.size 47 _ 32 Tryz.underlying23 infoCell rfl (by decide) _ D rfl (Kd.O_alloc _ (Kd.O_alloc _ HO.out)) _ [(⟨cc.k, q, cc.s⟩ : Cell)] _ _ rfl rfl (lit2 Kd.cell _ (x := (⟨cc.k, q, cc.s⟩ : Cell)) (cs := [.int .i64 cc.k, .int .i64 q, .string cc.s]) rfl) ?c1 ?c2 ?c3 (fun q hq => by simp [Kd.cell] at hq) ?_; (case c1 => simp [maxLen]; omega); (case c2 => simp; omega); (case c3 => simp; have := HB.out.size; omega); intro v' w' ho hg hat; have hb := Lib.hid (bel_grown (bel_alloc (bel_alloc HB.out _) _) (Kd.O_alloc _ (Kd.O_alloc _ HO.out)) hg); have ho' := Lib.hid ho; clear ho hg hat))
        exact ⟨⟨k + 1, D ++ [⟨cc.k, q, cc.s⟩], by go_num, by omega, by simp; omega, HT, ho', hb⟩, by simp [intOf]; omega⟩
      · have e1 : (cc.k == 1) = false := beq_eq_false_iff_ne.2 h1
        have HC := Lib.hid (show canonCell (free t) cc = cc by unfold canonCell; rw [if_neg h1])
        rw [HC.out] at HT
        clear h1
        go_wp2_with (at_builtin; refine wp_append (d := Kd.cell) _ rfl (.tmp 28) (.tmp 30) 23 rfl w1.heap.size 47 _ 32 Tryz.underlying23 infoCell rfl (by decide) _ D rfl (Kd.O_alloc _ (Kd.O_alloc _ HO.out)) _ [cc] _ _ rfl rfl (lit2 Kd.cell _ (x := cc) (cs := [.int .i64 cc.k, .int .i64 cc.n, .string cc.s]) rfl) ?c1 ?c2 ?c3 (fun q hq => by simp [Kd.cell] at hq) ?_; (case c1 => simp [maxLen]; omega); (case c2 => simp; omega); (case c3 => simp; have := HB.out.size; omega); intro v' w' ho hg hat; have hb := Lib.hid (bel_grown (bel_alloc (bel_alloc HB.out _) _) (Kd.O_alloc _ (Kd.O_alloc _ HO.out)) hg); have ho' := Lib.hid ho; clear ho hg hat)
        exact ⟨⟨k + 1, D ++ [cc], by go_num, by omega, by simp; omega, HT, ho', hb⟩, by simp [intOf]; omega⟩
    · have HV := Lib.hid (show canon t = D by rw [← HS.out, List.take_of_length_le (by omega)]; rfl)
      go_wp2
      go_ret
      exact ⟨_, rfl, by rw [HV.out]; exact Kd.O_read HO.out, bel_trans HB1.out HB.out⟩
def shiftCell (n : Int) (c : Cell) : Cell := if c.k = 1 then { c with n := c.n + n } else c
theorem shift_c (t : Trm) (A : Option Addr) (c : Nat) (n : Int) (w : World) (h : Kd.cell.C 47 w A t) (hl : t.length ≤ 1000000000) (hn0 : -1000000000 ≤ n) (hn1 : n ≤ 1000000000) (hc0 : ∀ x ∈ t, -1000000000 ≤ x.n ∧ x.n ≤ 1000000000) :
    Calls Tryz.prog 25 #[.slice A t.length c, .int .i64 n] w fun e w' => ∃ v, e = .returned v ∧ Kd.cell.S 47 w' v (shift t n) ∧ Below w.heap.size w w' := by
  have H := Lib.hid h
  have HC0 := Lib.hid hc0
  clear h hc0
  go_enter Tryz.func25, Tryz.ntmps25
  go_wp2
  go_loopw [5, 6] (fun v4 v5 wr => ∃ (k : Nat) (D : Trm), v5 = .int .i64 k ∧ k ≤ t.length ∧ D.length = k ∧ Hid ((t.take k).map (shiftCell n) = D) ∧ Hid (Kd.cell.O 47 wr w.heap.size v4 D) ∧ Hid (Below w.heap.size w wr)) (fun _ v5 _ => t.length - (intOf v5).toNat)
  case atStart => exact ⟨0, [], rfl, Nat.zero_le _, rfl, Lib.hid rfl, Lib.hid (Kd.O_empty Kd.cell _ w (Nat.le_refl _)), Lib.hid (bel_alloc (Below.refl _ _) _)⟩
  case round =>
    obtain ⟨k, D, rfl, hk, hD, HS, HO, HB⟩ := hrel
    by_cases hlt : k < t.length
    · obtain ⟨cc, hc⟩ : ∃ cc, t[k]? = some cc := ⟨_, List.getElem?_eq_getElem hlt⟩
      obtain ⟨ad, rfl, a1, a2, a3⟩ := cell_at (Kd.C_ext HB.out H.out) hc
      have hcn := HC0.out cc (List.mem_of_getElem? hc)
      have HT := Lib.hid (canon_take (shiftCell n) hc)
      rw [HS.out] at HT
      clear hc
      by_cases h1 : cc.k = 1
      · have e1 : (cc.k == 1) = true := beq_iff_eq.2 h1
        obtain ⟨q, hq⟩ : ∃ q, cc.n + n = q := ⟨_, rfl⟩
        have HC := Lib.hid (show shiftCell n cc = ⟨cc.k, q, cc.s⟩ by unfold shiftCell; rw [if_pos h1, hq])
        rw [HC.out] at HT
        clear h1
        go_wp2_with ((at_builtin; refine wp_append (d := Kd.cell) _ rfl (.tmp 27) (.tmp 29) 23 rfl w.heap.size 47 _ 32 Tryz.underlying23 infoCell rfl (by decide) _ D rfl (Kd.O_alloc _ (Kd.O_alloc _ HO.out)) _ [(⟨cc.k, q, cc.s⟩ : Cell)] _ _ rfl rfl (lit2 Kd.cell _ (x := (⟨cc.k, q, cc.s⟩ : Cell)) (cs := [.int .i64 cc.k, .int .i64 q, .string cc.s]) rfl) ?c1 ?c2 ?c3 (fun q hq => by simp [Kd.cell] at hq) ?_; (case c1 => simp [maxLen]; omega); (case c2 => simp; omega); (case c3 => simp; have := HB.out.size; omega); intro v' w' ho hg hat; have hb := Lib.hid (bel_grown (bel_alloc (bel_alloc HB.out _) _) (Kd.O_alloc _ (Kd.O_alloc _ HO.out)) hg); have ho' := Lib.hid ho; clear ho hg hat))
        exact ⟨⟨k + 1, D ++ [⟨cc.k, q, cc.s⟩], by go_num, by omega, by simp; omega, HT, ho', hb⟩, by simp [intOf]; omega⟩
      · have e1 : (cc.k == 1) = false := beq_eq_false_iff_ne.2 h1
        have HC := Lib.hid (show shiftCell n cc = cc by unfold shiftCell; rw [if_neg h1])
        rw [HC.out] at HT
        clear h1
        go_wp2_with (at_builtin; refine wp_append (d := Kd.cell) _ rfl (.tmp 27) (.tmp 29) 23 rfl w.heap.size 47 _ 32 Tryz.underlying23 infoCell rfl (by decide) _ D rfl (Kd.O_alloc _ (Kd.O_alloc _ HO.out)) _ [cc] _ _ rfl rfl (lit2 Kd.cell _ (x := cc) (cs := [.int .i64 cc.k, .int .i64 cc.n, .string cc.s]) rfl) ?c1 ?c2 ?c3 (fun q hq => by simp [Kd.cell] at hq) ?_; (case c1 => simp [maxLen]; omega); (case c2 => simp; omega); (case c3 => simp; have := HB.out.size; omega); intro v' w' ho hg hat; have hb := Lib.hid (bel_grown (bel_alloc (bel_alloc HB.out _) _) (Kd.O_alloc _ (Kd.O_alloc _ HO.out)) hg); have ho' := Lib.hid ho; clear ho hg hat)
        exact ⟨⟨k + 1, D ++ [cc], by go_num, by omega, by simp; omega, HT, ho', hb⟩, by simp [intOf]; omega⟩
    · have HV := Lib.hid (show shift t n = D by rw [← HS.out, List.take_of_length_le (by omega)]; rfl)
      go_wp2
      go_ret
      exact ⟨_, rfl, by rw [HV.out]; exact Kd.O_read HO.out, HB.out⟩
end Go.Proofs.YtjglbadkbhopoaaGreatDoor
namespace Go.Proofs.YtjglbadkbhopoaaGreatDoor
open Go.RowKit
set_option maxRecDepth 100000
set_option maxHeartbeats 4000000
set_option linter.unusedVariables false
theorem same_c (t u : Trm) (A B : Option Addr) (c d : Nat) (w : World) (h : Kd.cell.C 47 w A t) (h' : Kd.cell.C 47 w B u) (hl : t.length ≤ 1000000000) (hl' : u.length ≤ 1000000000) :
    Calls Tryz.prog 22 #[.slice A t.length c, .slice B u.length d] w fun e w' => e = .returned (.bool (decide (t = u))) ∧ Below w.heap.size w w' := by
  by_cases hlen : t.length = u.length
  · have H := Lib.hid h
    have H' := Lib.hid h'
    have HL := Lib.hid hlen
    clear h h'
    rw [← hlen]
    clear hlen hl'
    go_enter Tryz.func22, Tryz.ntmps22
    go_wp2
    go_loopw [5] (fun v5 wr => ∃ k : Nat, v5 = .int .i64 k ∧ k ≤ t.length ∧ Hid (t.take k = u.take k) ∧ Hid (Below w.heap.size w wr)) (fun v5 _ => t.length - (intOf v5).toNat)
    case atStart => exact ⟨0, rfl, Nat.zero_le _, Lib.hid rfl, Lib.hid (Below.refl _ _)⟩
    case round =>
      obtain ⟨k, rfl, hk, HS, HB⟩ := hrel
      by_cases hlt : k < t.length
      · obtain ⟨x, hx⟩ : ∃ x, t[k]? = some x := ⟨_, List.getElem?_eq_getElem hlt⟩
        obtain ⟨y, hy⟩ : ∃ y, u[k]? = some y := ⟨_, List.getElem?_eq_getElem (show k < u.length by rw [← HL.out]; exact hlt)⟩
        obtain ⟨ad, rfl, a1, a2, a3⟩ := cell_at (Kd.C_ext HB.out H.out) hx
        obtain ⟨ad', rfl, b1, b2, b3⟩ := cell_at (Kd.C_ext HB.out H'.out) hy
        by_cases hxy : x = y
        · subst hxy
          have HN := Lib.hid (show t.take (k + 1) = u.take (k + 1) by
            rw [List.take_add_one, List.take_add_one, HS.out, hx, hy])
          clear hx hy
          go_upto_region 6 with fail
          go_quiet (fail)
          go_wp2
          exact ⟨⟨k + 1, by go_num, by omega, HN, Lib.hid (bel_drewN HB.out _)⟩, by simp [intOf]; omega⟩
        · have HV := Lib.hid (show decide (t = u) = false from decide_eq_false (fun e => hxy (by rw [e, hy] at hx; exact (Option.some.inj hx).symm)))
          clear hx hy
          by_cases hk1 : x.k = y.k
          · by_cases hn1 : x.n = y.n
            · have hs1 : (x.s.toList == y.s.toList) = false := by
                rw [Lib.toList_data, Lib.toList_data]
                exact beq_eq_false_iff_ne.2 (fun e => hxy (by
                  obtain ⟨k1, n1, s1⟩ := x
                  obtain ⟨k2, n2, s2⟩ := y
                  obtain rfl : k1 = k2 := hk1
                  obtain rfl : n1 = n2 := hn1
                  have e : s1 = s2 := ByteArray.ext (Array.toList_inj.1 e)
                  rw [e]))
              clear hxy
              go_upto_region 6 with fail
              go_quiet (fail)
              go_wp2
              go_ret
              exact ⟨ret_bool HV.out.symm, bel_drewN HB.out _⟩
            · have e1 : (x.n == y.n) = false := beq_eq_false_iff_ne.2 hn1
              clear hxy hn1
              go_upto_region 6 with fail
              go_quiet (fail)
              go_wp2
              go_ret
              exact ⟨ret_bool HV.out.symm, bel_drewN HB.out _⟩
          · have e1 : (x.k == y.k) = false := beq_eq_false_iff_ne.2 hk1
            clear hxy hk1
            go_upto_region 6 with fail
            go_quiet (fail)
            go_wp2
            go_ret
            exact ⟨ret_bool HV.out.symm, bel_drewN HB.out _⟩
      · have HV := Lib.hid (show decide (t = u) = true from decide_eq_true (by
          have e := HS.out
          rwa [List.take_of_length_le (by omega), List.take_of_length_le (by rw [← HL.out]; omega)] at e))
        go_wp2
        go_ret
        exact ⟨ret_bool HV.out.symm, HB.out⟩
  · have hne : ((t.length : Int) != (u.length : Int)) = true := bne_iff_ne.2 (by omega)
    have HV := Lib.hid (show decide (t = u) = false from decide_eq_false (fun e => hlen (by rw [e])))
    go_enter Tryz.func22, Tryz.ntmps22
    go_wp2
    go_ret
    exact ⟨ret_bool HV.out.symm, Below.refl _ _⟩
end Go.Proofs.YtjglbadkbhopoaaGreatDoor
namespace Go.Proofs.YtjglbadkbhopoaaGreatDoor
open Go.RowKit
set_option maxRecDepth 100000
set_option maxHeartbeats 4000000
set_option linter.unusedVariables false
theorem i64_xor (a b : Nat) (ha : a < 4611686018427387904) (hb : b < 4611686018427387904) : bits .xor .i64 (a : Int) (b : Int) = ((a ^^^ b : Nat) : Int) ∧ a ^^^ b < 4611686018427387904 := by
  have hx : a ^^^ b < 2 ^ 62 := Nat.xor_lt_two_pow (by omega) (by omega)
  refine ⟨?_, by omega⟩
  show IntKind.i64.wrap ((BitVec.ofInt 64 (a : Int) ^^^ BitVec.ofInt 64 (b : Int)).toNat : Int) = _
  rw [BitVec.toNat_xor, ofInt_u64 a (by omega), ofInt_u64 b (by omega)]
  simp [IntKind.wrap, IntKind.bits, IntKind.signed]
  omega
structure Rd (w : World) (g : Nat) (bs : List Nat) (p : Nat) : Prop where
  blk : ∃ A c, w.heap[g]? = some (.cells #[.slice A bs.length c, .int .i64 p] 92 (0, 0)) ∧ bs.length ≤ c ∧ c ≤ maxLen ∧ (bs ≠ [] → ∃ ad, A = some ad ∧ ad.block ≠ g ∧ ∀ (i b : Nat), bs[i]? = some b → w.cell? (ad.add i) = some (.int .u8 (b : Int)))
  small : ∀ b ∈ bs, b < 256
  len : bs.length ≤ 2000
def Picked (n v : Int) : Prop := 0 ≤ v ∧ (1 ≤ n → v < n) ∧ (n < 1 → v = 0)
theorem pick_c (w : World) (g : Nat) (bs : List Nat) (p : Nat) (h : Rd w g bs p) (hp : p ≤ 1099511627776) (n : Int) (hn0 : -9223372036854775808 ≤ n) (hn1 : n ≤ 9223372036854775807) :
    Calls Tryz.prog 34 #[.pointer (some ⟨g, 0, none⟩), .int .i64 n] w fun e w' => ∃ v : Int, e = .returned (.int .i64 v) ∧ Picked n v ∧ ∃ k, w' = (w.setCell ⟨g, 1, none⟩ (.int .i64 ((p : Int) + 1))).drewN k := by
  obtain ⟨⟨A, c, hb, hc, hm, hr⟩, hs, hl⟩ := h
  have c0 := cell_of_row w g 0 _ _ _ hb
  have c1 := cell_of_row w g 1 _ _ _ hb
  have f1 := frozen_of_row w g 1 _ _ hb
  have hb' := heap_setCell_same w g 1 _ _ (.int .i64 ((p : Int) + 1)) hb
  go_enter Tryz.func34, Tryz.ntmps34
  go_upto_region 2 with fail
  generalize hW : w.setCell ⟨g, 1, none⟩ (.int .i64 ((p : Int) + 1)) = W
  rw [hW] at hb'
  have d0 : W.cell? ⟨g, 0, none⟩ = some (.slice A bs.length c) := cell_of_row W g 0 _ _ _ hb'
  have d1 : W.cell? ⟨g, 1, none⟩ = some (.int .i64 ((p : Int) + 1)) := cell_of_row W g 1 _ _ _ hb'
  have hrow : bs ≠ [] → ∃ ad, A = some ad ∧ ∀ (i b : Nat), bs[i]? = some b → W.cell? (ad.add i) = some (.int .u8 (b : Int)) := fun hne => by
    obtain ⟨ad, ea, hnb, hx⟩ := hr hne
    refine ⟨ad, ea, fun i b hi => ?_⟩
    rw [← hW]
    exact (World.cell?_of_block (by rw [add_block]; exact heap_setCell_other _ _ _ _ hnb)).trans (hx i b hi)
  have HW := Lib.hid hW
  clear hb hb' c0 c1 f1 hr hW
  have HP0 : Picked n 0 := ⟨by omega, fun h => by omega, fun _ => rfl⟩
  have HP := Lib.hid HP0
  clear HP0
  by_cases hn : n < 1
  · go_wp2
    go_ret
    exact ⟨0, rfl, HP, 0, HW.out.symm⟩
  by_cases hne : bs = []
  · subst hne
    have e0 : ((([] : List Nat).length : Int) == 0) = true := rfl
    go_wp2
    go_ret
    exact ⟨0, rfl, HP, 0, HW.out.symm⟩
  obtain ⟨ad, rfl, hx⟩ := hrow hne
  have hpos : 0 < bs.length := List.length_pos_iff.2 hne
  have e0 : ((bs.length : Int) == 0) = false := beq_eq_false_iff_ne.2 (by omega)
  have HX := Lib.hid hx
  have HS := Lib.hid hs
  clear hx hrow hs hne
  by_cases hlt : p < bs.length
  · obtain ⟨b, hbq⟩ : ∃ b, bs[p]? = some b := ⟨_, List.getElem?_eq_getElem hlt⟩
    have hcell := HX.out p b hbq
    have hb256 := HS.out b (List.mem_of_getElem? hbq)
    have HP := Lib.hid (show Picked n ((b : Int) % n) from ⟨Int.emod_nonneg _ (by omega), fun h => Int.emod_lt_of_pos _ (by omega), fun h => by omega⟩)
    go_wp2
    go_ret
    exact ⟨_, rfl, HP.out, 0, HW.out.symm⟩
  · obtain ⟨i1, hi1⟩ : ∃ i1 : Nat, i1 = p % bs.length := ⟨_, rfl⟩
    obtain ⟨i2, hi2⟩ : ∃ i2 : Nat, i2 = (p * 7 + 3) % bs.length := ⟨_, rfl⟩
    have l1 : i1 < bs.length := hi1 ▸ Nat.mod_lt _ hpos
    have l2 : i2 < bs.length := hi2 ▸ Nat.mod_lt _ hpos
    obtain ⟨b1, hb1⟩ : ∃ b, bs[i1]? = some b := ⟨_, List.getElem?_eq_getElem l1⟩
    obtain ⟨b2, hb2⟩ : ∃ b, bs[i2]? = some b := ⟨_, List.getElem?_eq_getElem l2⟩
    have x1 := HX.out i1 b1 hb1
    have x2 := HX.out i2 b2 hb2
    have s1 := HS.out b1 (List.mem_of_getElem? hb1)
    have s2 := HS.out b2 (List.mem_of_getElem? hb2)
    have m1 : (p : Int) % (bs.length : Int) = i1 := by rw [hi1]; omega
    have m2 : ((p : Int) * 7 + 3) % (bs.length : Int) = i2 := by
      have e : ((p : Int) * 7 + 3) = ((p * 7 + 3 : Nat) : Int) := by omega
      rw [hi2, e, Int.natCast_emod]
    obtain ⟨q, hq⟩ : ∃ q : Nat, (p : Int) / (bs.length : Int) = q := ⟨p / bs.length, by omega⟩
    have hqp : q ≤ p := by
      have := Nat.div_le_self p bs.length
      omega
    clear hi1 hi2 hb1 hb2 HX HS
    go_upto_region 7 with fail
    go_cut [6] (fun v6 wx => ∃ X : Nat, v6 = .int .i64 X ∧ X < 4611686018427387904 ∧ ∃ k, wx = W.drewN k)
    case first =>
      go_quiet (fail)
      go_wp2_with fail
      go_meet
      exact ⟨b1 * 131 + b2 * 1117 + p * 29 + q * 53, by go_num, by omega, _, rfl⟩
    case rest =>
      obtain ⟨X, rfl, hX, nq, rfl⟩ := hcut
      obtain ⟨hx1, hx2⟩ := i64_xor X (X / 64) hX (by omega)
      have hx1' : bits .xor .i64 (X : Int) ((X : Int) / 64) = ((X ^^^ X / 64 : Nat) : Int) := by
        rw [← hx1]; congr 1
      obtain ⟨Y, hY⟩ : ∃ Y : Nat, X ^^^ X / 64 = Y := ⟨_, rfl⟩
      rw [hY] at hx1' hx2
      have HP := Lib.hid (show Picked n ((Y : Int) % n) from ⟨Int.emod_nonneg _ (by omega), fun h => Int.emod_lt_of_pos _ (by omega), fun h => by omega⟩)
      clear hx1 hY
      go_wp2
      go_ret
      exact ⟨_, rfl, HP.out, nq, by rw [HW.out]⟩
structure Bytes (w : World) (A : Option Addr) (n c : Nat) (bs : List Nat) : Prop where
  len : bs.length = n
  le : n ≤ c
  cap : c ≤ maxLen
  row : bs ≠ [] → ∃ ad, A = some ad ∧ ∀ (i b : Nat), bs[i]? = some b → w.cell? (ad.add i) = some (.int .u8 (b : Int))
  small : ∀ b ∈ bs, b < 256
theorem Bytes.ext {w w' : World} {A : Option Addr} {n c : Nat} {bs : List Nat} (h : Bytes w A n c bs) (hb : Below w.heap.size w w') : Bytes w' A n c bs :=
  ⟨h.len, h.le, h.cap, fun hne => by obtain ⟨ad, ea, hc⟩ := h.row hne; exact ⟨ad, ea, fun i b hi => cell_keep hb (hc i b hi)⟩, h.small⟩
end Go.Proofs.YtjglbadkbhopoaaGreatDoor
namespace Go.Proofs.YtjglbadkbhopoaaGreatDoor
open Go.RowKit
set_option linter.unusedVariables false
structure AppI {α : Type} (P : Program) (t e : TypeId) (d : Kd α) : Prop where
  und : P.underlying t = some (.slice e)
  info : ∃ z bytes, (P.info? e).map (fun i => (i.zero, i.size, i.bytes)) = some (some z, d.sz, bytes) ∧ z.cells.size = d.sz ∧ bytes ≤ 100000
  pos : 0 < d.sz
  sep : ∀ q, q ∈ d.E → q ≠ e
structure Grew {α : Type} (d : Kd α) (e : TypeId) (base : Nat) (v : Value) (xs : List α) (w : World) (v' : Value) (w' : World) : Prop where
  own : d.O e w' base v' xs
  grown : w.grownBy w' v.ownBlock
  at' : v'.ownBlock = v.ownBlock ∨ v'.ownBlock = some w.heap.size
theorem wp_app {α : Type} {P : Program} {w : World} {d : Kd α} {t e : TypeId} (I : AppI P t e d) {ops : Array Oper} {rest : List Oper} {o : Oper} {a : Act} {Q : Exit → Act → World → Prop} (hgd : o.guard = none) {s x : Operand}
    (ho : o.op = .call { callee := .builtin .append, args := #[s, x], argTypes := #[t, t] })
    {base : Nat} {v : Value} {xs : List α} (hown : d.O e w base v xs) (hs : a.eval s = v) {xv : Value} {ys : List α} (hy : d.S e w xv ys) (hx : a.eval x = xv)
    (hlen : xs.length + ys.length ≤ 1000000000) (hbase : base ≤ w.heap.size)
    (h : ∀ v' w', Grew d e base v (xs ++ ys) w v' w' → wpList P ops Q rest (a.put o.dst v') w') : wpList P ops Q (o :: rest) a w := by
  obtain ⟨z, bytes, hi, hz, hb⟩ := I.info
  obtain ⟨A, c, rfl, h1, h2, hC⟩ := hy
  refine wp_append (d := d) w hgd s x t ho base e z bytes I.und hi hz I.pos v xs hs hown A ys ys.length c hx rfl hC ?_ ?_ hbase I.sep (fun v' w' a1 a2 a3 => h v' w' ⟨a1, a2, a3⟩)
  · unfold maxLen; omega
  · exact Nat.le_trans (Nat.mul_le_mul hlen hb) (by decide)
namespace Kd
variable {α β : Type}
theorem S_lit (d : Kd α) (e : Nat) {w : World} {x : α} {cs : List Value} (h : d.K w x cs) {g : Nat} (hg : g = w.heap.size) : d.S e (w.alloc (.cells cs.toArray e)) (.slice (some ⟨g, 0, none⟩) 1 1) [x] := by
  subst hg
  exact ⟨_, 1, rfl, Nat.le_refl _, by unfold maxLen; omega, C_lit d e h⟩
theorem O_lit (d : Kd α) (e : Nat) {w : World} {x : α} {cs : List Value} (h : d.K w x cs) {g base : Nat} (hg : g = w.heap.size) (hb : base ≤ g) : d.O e (w.alloc (.cells cs.toArray e)) base (.slice (some ⟨g, 0, none⟩) 1 1) [x] := by
  subst hg
  have hl := d.len h
  refine ⟨cs, ⟨by rw [hl]; simp, .inr ⟨w.heap.size, 1, cs.toArray, rfl, hb, heap_alloc_new w _, by simp, by unfold maxLen; omega, by simp [hl], by simp [hl, List.take_of_length_le]⟩⟩, fun i y hy => ?_⟩
  obtain ⟨rfl, rfl⟩ : i = 0 ∧ x = y := by
    cases i with
    | zero => simpa using hy
    | succ i => simp at hy
  rw [Nat.zero_mul, List.drop_zero, List.take_of_length_le (by rw [hl]; exact Nat.le_refl _)]
  exact d.mov (Keep.of_below ((Below.refl _ _).alloc (Nat.le_refl _) _)) h
theorem S_alloc {d : Kd α} {e : Nat} {w : World} {v : Value} {xs : List α} (o : Obj) (h : d.S e w v xs) : d.S e (w.alloc o) v xs := S_ext ((Below.refl _ _).alloc (Nat.le_refl _) o) h
end Kd
def KeepBut (e : Nat) (w w' : World) : Prop := ∀ (k : Nat) (cells : Array Value) (q : Nat) (fz : Nat × Nat), w.heap[k]? = some (.cells cells q fz) → q ≠ e → w'.heap[k]? = w.heap[k]?
theorem KeepBut.keep {e : Nat} {w w' : World} (h : KeepBut e w w') {E : List Nat} (hE : ∀ q ∈ E, q ≠ e) : Keep E w w' := fun k c q f hk hq => h k c q f hk (hE q hq)
theorem KeepBut.of_below {e : Nat} {w w' : World} (h : Below w.heap.size w w') : KeepBut e w w' := fun k _ _ _ hk _ => h.block k (Array.getElem?_eq_some_iff.1 hk).1
theorem KeepBut.trans {e : Nat} {w w1 w2 : World} (h : KeepBut e w w1) (k : KeepBut e w1 w2) : KeepBut e w w2 := fun i c q f hi hq => (k i c q f ((h i c q f hi hq).trans hi) hq).trans (h i c q f hi hq)
theorem KeepBut.grown {α : Type} {d : Kd α} {e base : Nat} {w w' : World} {v : Value} {xs : List α} (h : d.O e w base v xs) (hg : w.grownBy w' v.ownBlock) : KeepBut e w w' := fun k cells q fz hk hq => by
  refine hg.block k (Array.getElem?_eq_some_iff.1 hk).1 (fun he => ?_)
  obtain ⟨cells', hc⟩ := Kd.O_typed h k he.symm
  rw [hk] at hc
  injection hc with hc
  injection hc with _ ht
  exact hq ht
structure Wrote (b e : Nat) (w w' : World) : Prop where
  bel : Below b w w'
  but : KeepBut e w w'
theorem Wrote.of_below {b e : Nat} {w w' : World} (hb : b ≤ w.heap.size) (h : Below w.heap.size w w') : Wrote b e w w' := ⟨h.mono hb, .of_below h⟩
theorem Wrote.trans {b e : Nat} {w w1 w2 : World} (h : Wrote b e w w1) (k : Wrote b e w1 w2) : Wrote b e w w2 := ⟨h.bel.trans k.bel, h.but.trans k.but⟩
theorem Wrote.refl (b e : Nat) (w : World) (hb : b ≤ w.heap.size) : Wrote b e w w := .of_below hb (Below.refl _ _)
theorem Wrote.grew {α : Type} {d : Kd α} {e base : Nat} {w w' : World} {v v' : Value} {xs ys : List α} (h : Grew d e base v ys w v' w') (ho : d.O e w base v xs) (hb : base ≤ w.heap.size) : Wrote base e w w' :=
  ⟨(Below.refl _ _).grown h.grown hb (fun k hk => (Kd.O_lt ho k hk).1), .grown ho h.grown⟩
theorem Wrote.S {α : Type} {b e : Nat} {w w' : World} (h : Wrote b e w w') {d : Kd α} {e2 : Nat} {v : Value} {xs : List α} (hs : d.S e2 w v xs) (hE : ∀ q ∈ e2 :: d.E, q ≠ e) : d.S e2 w' v xs := Kd.S_mov (h.but.keep hE) hs
theorem Wrote.O {α : Type} {b e : Nat} {w w' : World} (h : Wrote b e w w') {d : Kd α} {e2 b2 : Nat} {v : Value} {xs : List α} (hs : d.O e2 w b2 v xs) (hE : ∀ q ∈ e2 :: d.E, q ≠ e) : d.O e2 w' b2 v xs :=
  Kd.O_mov (h.but.keep (fun q hq => hE q (List.mem_cons_of_mem _ hq))) (fun k hk => by obtain ⟨c, hc⟩ := Kd.O_typed hs k hk; exact h.but k c e2 _ hc (hE e2 List.mem_cons_self)) hs
theorem KeepBut.S {α : Type} {e : Nat} {w w' : World} (h : KeepBut e w w') {d : Kd α} {e2 : Nat} {v : Value} {xs : List α} (hs : d.S e2 w v xs) (hE : ∀ q ∈ e2 :: d.E, q ≠ e) : d.S e2 w' v xs := Kd.S_mov (h.keep hE) hs
theorem KeepBut.O {α : Type} {e : Nat} {w w' : World} (h : KeepBut e w w') {d : Kd α} {e2 b2 : Nat} {v : Value} {xs : List α} (hs : d.O e2 w b2 v xs) (hE : ∀ q ∈ e2 :: d.E, q ≠ e) : d.O e2 w' b2 v xs :=
  Kd.O_mov (h.keep (fun q hq => hE q (List.mem_cons_of_mem _ hq))) (fun k hk => by obtain ⟨c, hc⟩ := Kd.O_typed hs k hk; exact h k c e2 _ hc (hE e2 List.mem_cons_self)) hs
theorem Grew.but {α : Type} {d : Kd α} {e : Nat} {w w' : World} {base : Nat} {v v' : Value} {xs ys : List α} (h : Grew d e base v ys w v' w') (ho : d.O e w base v xs) : KeepBut e w w' := KeepBut.grown ho h.grown
theorem Wrote.above {α : Type} {b e e2 : Nat} {w wr wr' : World} (h : Wrote b e w wr) {d : Kd α} {v v' : Value} {xs ys : List α} (hg : Grew d e2 w.heap.size v ys wr v' wr') (ho : d.O e2 wr w.heap.size v xs) (hb : b ≤ w.heap.size) : Wrote b e w wr' := by
  have hB : Below w.heap.size wr wr' := (Below.refl _ _).grown hg.grown h.bel.size (fun k hk => (Kd.O_lt ho k hk).1)
  exact ⟨h.bel.trans (hB.mono hb), fun k c q f hk hq => (hB.block k (Array.getElem?_eq_some_iff.1 hk).1).trans (h.but k c q f hk hq)⟩
theorem Wrote.alloc {b e : Nat} {w wr : World} (h : Wrote b e w wr) (hb : b ≤ w.heap.size) (o : Obj) : Wrote b e w (wr.alloc o) := h.trans (.of_below (Nat.le_trans hb h.bel.size) (bel_alloc (Below.refl _ _) o))
theorem Wrote.call {b e : Nat} {w wr w' : World} (h : Wrote b e w wr) (hb : b ≤ w.heap.size) (k : Below wr.heap.size wr w') : Wrote b e w w' := h.trans (.of_below (Nat.le_trans hb h.bel.size) k)
theorem add_zero'0 (ad : Addr) : ad.add 0 = ad := by unfold Addr.add; rw [if_pos rfl]
theorem Grew.below {α : Type} {d : Kd α} {e : Nat} {w0 w w' : World} {v v' : Value} {xs ys : List α} (h : Grew d e w0.heap.size v ys w v' w') (hb : Below w0.heap.size w0 w) (ho : d.O e w w0.heap.size v xs) : Below w0.heap.size w0 w' := bel_grown hb ho h.grown
theorem Grew.O_far {α β : Type} {d : Kd α} {e : Nat} {w w' : World} {base : Nat} {v v' : Value} {ys : List α} (h : Grew d e base v ys w v' w') {d2 : Kd β} {e2 b2 : Nat} {u : Value} {zs : List β} (ho : d2.O e2 w b2 u zs) (hne : ∀ k, u.ownBlock = some k → v.ownBlock ≠ some k) (hE : d2.E = []) : d2.O e2 w' b2 u zs :=
  Kd.O_mov (fun k c q f _ hq => by rw [hE] at hq; cases hq) (fun k hk => h.grown.block k (Kd.O_lt ho k hk).2 (fun e => hne k hk e.symm)) ho
theorem Grew.O_far' {α β : Type} {d : Kd α} {e : Nat} {w w' : World} {base : Nat} {v v' : Value} {xs ys : List α} (h : Grew d e base v ys w v' w') (hv : d.O e w base v xs) {d2 : Kd β} {e2 b2 : Nat} {u : Value} {zs : List β} (ho : d2.O e2 w b2 u zs) (hne : ∀ k, u.ownBlock = some k → v.ownBlock ≠ some k) (hE : ∀ q ∈ d2.E, q ≠ e) : d2.O e2 w' b2 u zs :=
  Kd.O_mov (Keep.grown hv h.grown hE) (fun k hk => h.grown.block k (Kd.O_lt ho k hk).2 (fun e => hne k hk e.symm)) ho
theorem Grew.apart {α β : Type} {d : Kd α} {e : Nat} {w w' : World} {base : Nat} {v v' : Value} {ys : List α} (h : Grew d e base v ys w v' w') {d2 : Kd β} {e2 b2 : Nat} {u : Value} {zs : List β} (ho : d2.O e2 w b2 u zs) (hne : ∀ k, u.ownBlock = some k → v.ownBlock ≠ some k) : ∀ k, u.ownBlock = some k → v'.ownBlock ≠ some k := fun k hk e => by
  rcases h.at' with h | h
  · rw [h] at e; exact hne k hk e
  · rw [h] at e
    have := (Kd.O_lt ho k hk).2
    have := Option.some.inj e
    omega
section
variable {α : Type} {P : Program} {w : World} {d : Kd α} {t e : TypeId} {ops : Array Oper} {rest : List Oper} {o : Oper} {a : Act} {Q : Exit → Act → World → Prop}
theorem AppI.elem (I : AppI P t e d) : P.elem t = e := by simp [Program.elem, I.und]
theorem AppI.size (I : AppI P t e d) (W : World) : (sizeOf (P.elem t)).run P W = .ok d.sz W := by
  obtain ⟨z, bytes, hi, -, -⟩ := I.info
  obtain ⟨i, hi, hz, hs, hby⟩ := info_parts hi
  rw [I.elem]
  simp [sizeOf, typeInfo, hi, hs]
theorem Kd.C_sub {A : Option Addr} {xs : List α} (h : d.C e w A xs) (l k : Nat) (h1 : l + k ≤ xs.length) : d.C e w (A.map (·.add (l * d.sz))) ((xs.drop l).take k) := fun i x hx => by
  rw [List.getElem?_take] at hx
  split at hx
  · rename_i hik
    rw [List.getElem?_drop] at hx
    obtain ⟨ad, cs, cells, fz, rfl, hh, hK, hc⟩ := h _ x hx
    refine ⟨_, cs, cells, fz, rfl, by rw [add_block]; exact hh, hK, fun j u hu => ?_⟩
    have := hc j u hu
    rwa [Nat.add_mul, Nat.add_assoc, ← add_add'] at this
  · cases hx
theorem Kd.S_sliced {A : Option Addr} {c : Nat} {xs : List α} (h : d.S e w (.slice A xs.length c) xs) {l k : Nat} (_ : l ≤ k) (h2 : k ≤ xs.length) : d.S e w (sliced A l k c d.sz) ((xs.drop l).take (k - l)) := by
  obtain ⟨A', c', ev, hc, hm, hC⟩ := h
  injection ev with e1 e2 e3
  subst e1; subst e3
  have hlen : ((xs.drop l).take (k - l)).length = k - l := by rw [List.length_take, List.length_drop]; omega
  unfold sliced
  by_cases hcl : c = l
  · rw [if_pos hcl]
    refine ⟨_, _, by rw [hlen], by omega, by omega, fun i x hx => ?_⟩
    have := (List.getElem?_eq_some_iff.1 hx).1
    omega
  · rw [if_neg hcl]
    exact ⟨_, _, by rw [hlen], by omega, by omega, Kd.C_sub hC l (k - l) (by omega)⟩
theorem wp_sub_lh (I : AppI P t e d) (hgd : o.guard = none) {x lo hi : Operand} (ho : o.op = .slice t x (some lo) (some hi) none)
    {xv : Value} {xs : List α} (hy : d.S e w xv xs) (hx : a.eval x = xv) {l k : Int} (hl : a.eval lo = .int .i64 l) (hk : a.eval hi = .int .i64 k) (h0 : 0 ≤ l) (h1 : l ≤ k) (h2 : k ≤ xs.length)
    (h : ∀ v', d.S e w v' ((xs.drop l.toNat).take (k.toNat - l.toNat)) → wpList P ops Q rest (a.put o.dst v') w) : wpList P ops Q (o :: rest) a w :=
  wpList_plain hgd fun K hK => by
    obtain ⟨A, c, rfl, hc, hm, hC⟩ := hy
    have ht : P.underlying t = some (.slice (P.elem t)) := by rw [I.elem]; exact I.und
    have hr := run_slice_lh (w := w) t A xs.length c ht .i64 .i64 l k h0 h1 (by omega)
    rw [I.size] at hr
    unfold Oper.wp execOp
    simp only [ho, Option.map_some, Option.map_none, hl, hk, hx, Sem.run_bind, Sem.run_pure, run_sliceAt_slice (h := ht), hr, Result.andThen_ok]
    exact hK _ _ (h _ (Kd.S_sliced ⟨A, c, rfl, hc, hm, hC⟩ (by omega) (by omega)))
theorem wp_sub_h (I : AppI P t e d) (hgd : o.guard = none) {x hi : Operand} (ho : o.op = .slice t x none (some hi) none)
    {xv : Value} {xs : List α} (hy : d.S e w xv xs) (hx : a.eval x = xv) {k : Int} (hk : a.eval hi = .int .i64 k) (h1 : 0 ≤ k) (h2 : k ≤ xs.length)
    (h : ∀ v', d.S e w v' (xs.take k.toNat) → wpList P ops Q rest (a.put o.dst v') w) : wpList P ops Q (o :: rest) a w :=
  wpList_plain hgd fun K hK => by
    obtain ⟨A, c, rfl, hc, hm, hC⟩ := hy
    have ht : P.underlying t = some (.slice (P.elem t)) := by rw [I.elem]; exact I.und
    have hr := run_slice_h (w := w) t A xs.length c ht .i64 k h1 (by omega)
    rw [I.size] at hr
    unfold Oper.wp execOp
    simp only [ho, Option.map_some, Option.map_none, hk, hx, Sem.run_bind, Sem.run_pure, run_sliceAt_slice (h := ht), hr, Result.andThen_ok]
    exact hK _ _ (h _ (by have := Kd.S_sliced ⟨A, c, rfl, hc, hm, hC⟩ (Nat.zero_le k.toNat) (show k.toNat ≤ xs.length by omega); rwa [List.drop_zero, Nat.sub_zero] at this))
theorem wp_sub_l (I : AppI P t e d) (hgd : o.guard = none) {x lo : Operand} (ho : o.op = .slice t x (some lo) none none)
    {xv : Value} {xs : List α} (hy : d.S e w xv xs) (hx : a.eval x = xv) {l : Int} (hl : a.eval lo = .int .i64 l) (h0 : 0 ≤ l) (h2 : l ≤ xs.length)
    (h : ∀ v', d.S e w v' (xs.drop l.toNat) → wpList P ops Q rest (a.put o.dst v') w) : wpList P ops Q (o :: rest) a w :=
  wpList_plain hgd fun K hK => by
    obtain ⟨A, c, rfl, hc, hm, hC⟩ := hy
    have ht : P.underlying t = some (.slice (P.elem t)) := by rw [I.elem]; exact I.und
    have hr := run_slice_l (w := w) t A xs.length c ht .i64 l h0 h2
    rw [I.size] at hr
    unfold Oper.wp execOp
    simp only [ho, Option.map_some, Option.map_none, hl, hx, Sem.run_bind, Sem.run_pure, run_sliceAt_slice (h := ht), hr, Result.andThen_ok]
    exact hK _ _ (h _ (by have := Kd.S_sliced ⟨A, c, rfl, hc, hm, hC⟩ (show l.toNat ≤ xs.length by omega) (Nat.le_refl _); rwa [List.take_of_length_le (by rw [List.length_drop]; exact Nat.le_refl _)] at this))
theorem Kd.O_take {base : Nat} {v : Value} {xs : List α} (h : d.O e w base v xs) {A : Option Addr} {c : Nat} (hv : v = .slice A xs.length c) (k : Nat) (hk : k ≤ xs.length) : d.O e w base (sliced A 0 k c d.sz) (xs.take k) := by
  obtain ⟨cs, ⟨h0, h1⟩, h2⟩ := h
  refine ⟨cs.take (k * d.sz), ⟨by rw [List.length_take, List.length_take, h0, Nat.min_eq_left hk, Nat.min_eq_left (Nat.mul_le_mul_right _ hk)], ?_⟩, fun i x hx => ?_⟩
  · rw [List.length_take, Nat.min_eq_left hk]
    rcases h1 with ⟨rfl, hn⟩ | ⟨g, cap, cur, rfl, r1, r2, r3, r4, r5, r6⟩
    · injection hv with e1 e2 e3
      subst e1; subst e3
      refine .inl ⟨?_, by omega⟩
      unfold sliced; simp; omega
    · injection hv with e1 e2 e3
      subst e1; subst e3
      refine .inr ⟨g, cap, cur, ?_, r1, r2, by omega, r4, r5, ?_⟩
      · unfold sliced
        split
        · simp
        · simp [add_zero'0]
      · rw [← r6, List.take_take, Nat.min_eq_left (Nat.mul_le_mul_right _ hk)]
  · rw [List.getElem?_take] at hx
    split at hx
    · rename_i hik
      have := h2 i x hx
      have hb : i * d.sz + d.sz ≤ k * d.sz := by rw [← Nat.succ_mul]; exact Nat.mul_le_mul_right _ hik
      rwa [List.drop_take, List.take_take, Nat.min_eq_left (by omega)]
    · cases hx
theorem sliced_block {A : Option Addr} {k c s : Nat} : (sliced A 0 k c s).ownBlock = (Value.slice A k c).ownBlock := by
  unfold sliced
  cases A with
  | none => split <;> rfl
  | some ad =>
    split
    · rfl
    · simp [Value.ownBlock, add_zero'0]
theorem wp_sub_own (I : AppI P t e d) (hgd : o.guard = none) {x hi : Operand} (ho : o.op = .slice t x none (some hi) none)
    {base : Nat} {xv : Value} {xs : List α} (hy : d.O e w base xv xs) (hx : a.eval x = xv) {k : Int} (hk : a.eval hi = .int .i64 k) (h1 : 0 ≤ k) (h2 : k ≤ xs.length)
    (h : ∀ v', d.O e w base v' (xs.take k.toNat) → v'.ownBlock = xv.ownBlock → wpList P ops Q rest (a.put o.dst v') w) : wpList P ops Q (o :: rest) a w :=
  wpList_plain hgd fun K hK => by
    obtain ⟨A, c, ev, hc, hm, hC⟩ := Kd.O_read hy
    have ht : P.underlying t = some (.slice (P.elem t)) := by rw [I.elem]; exact I.und
    have hr := run_slice_h (w := w) t A xs.length c ht .i64 k h1 (by omega)
    rw [I.size] at hr
    have hz := Kd.O_take hy ev k.toNat (by omega)
    have hb : (sliced A 0 k.toNat c d.sz).ownBlock = xv.ownBlock := by rw [sliced_block, ev]; cases A <;> rfl
    unfold Oper.wp execOp
    simp only [ho, Option.map_some, Option.map_none, hk, hx, ev, Sem.run_bind, Sem.run_pure, run_sliceAt_slice (h := ht), hr, Result.andThen_ok]
    exact hK _ _ (h _ hz hb)
end
end Go.Proofs.YtjglbadkbhopoaaGreatDoor
namespace Go.Proofs.YtjglbadkbhopoaaGreatDoor
open Go.RowKit
set_option linter.unusedVariables false
structure KI (α : Type) where
  sz : Nat
  K : World → α → List Value → Prop
  ext : ∀ {w w' : World} {x : α} {cs : List Value}, Below w.heap.size w w' → K w x cs → K w' x cs
namespace KI
variable {α : Type} {d : KI α} {w w' : World} {A : Option Addr} {v : Value} {xs : List α}
def C (d : KI α) (w : World) (A : Option Addr) (xs : List α) : Prop := ∀ i x, xs[i]? = some x → ∃ ad cs, A = some ad ∧ d.K w x cs ∧ ∀ j u, cs[j]? = some u → w.cell? (ad.add (i * d.sz + j)) = some u
def S (d : KI α) (w : World) (v : Value) (xs : List α) : Prop := ∃ A c, v = .slice A xs.length c ∧ xs.length ≤ c ∧ c ≤ maxLen ∧ d.C w A xs
theorem C_ext (hb : Below w.heap.size w w') (h : d.C w A xs) : d.C w' A xs := fun i x hx => by
  obtain ⟨ad, cs, e, hk, hc⟩ := h i x hx
  exact ⟨ad, cs, e, d.ext hb hk, fun j u hu => cell_keep hb (hc j u hu)⟩
theorem S_ext (hb : Below w.heap.size w w') (h : d.S w v xs) : d.S w' v xs := by
  obtain ⟨A, c, e, h1, h2, h3⟩ := h
  exact ⟨A, c, e, h1, h2, C_ext hb h3⟩
theorem C_at (h : d.C w A xs) {i : Nat} {x : α} (hi : xs[i]? = some x) :
    ∃ ad cs, A = some ad ∧ d.K w x cs ∧ (∀ u, cs[0]? = some u → w.cell? (ad.add (i * d.sz)) = some u) ∧ ∀ j u, cs[j + 1]? = some u → w.cell? ⟨(ad.add (i * d.sz)).block, (ad.add (i * d.sz)).off + (j + 1), none⟩ = some u := by
  obtain ⟨ad, cs, ea, hk, hc⟩ := h i x hi
  refine ⟨ad, cs, ea, hk, fun u hu => ?_, fun j u hu => ?_⟩
  · have := hc 0 u hu; rwa [Nat.add_zero] at this
  · have := hc (j + 1) u hu; rw [← add_add'] at this; exact this
theorem S_nil (d : KI α) (w : World) : d.S w (.slice none 0 0) [] := ⟨none, 0, rfl, Nat.le_refl _, Nat.zero_le _, fun i x hx => by simp at hx⟩
end KI
def Bx (W : World) (g t : Nat) (cs : Array Value) : Prop := W.heap[g]? = some (.cells cs t (0, 0))
theorem Bx.below {W W' : World} {g t : Nat} {cs : Array Value} (h : Bx W g t cs) (hb : Below W.heap.size W W') : Bx W' g t cs := box_keep h hb
theorem Bx.put {W : World} {g t : Nat} {cs : Array Value} (h : Bx W g t cs) (j : Nat) (u : Value) : Bx (W.setCell ⟨g, j, none⟩ u) g t (cs.setIfInBounds j u) := heap_setCell_same W g j _ t u h
theorem Bx.far {W : World} {g t : Nat} {cs : Array Value} (h : Bx W g t cs) {g' : Nat} (hne : g ≠ g') (j : Nat) (u : Value) : Bx (W.setCell ⟨g', j, none⟩ u) g t cs := (heap_setCell_other W _ g u hne).trans h
theorem Bx.cell {W : World} {g t : Nat} {cs : Array Value} (h : Bx W g t cs) (j : Nat) : W.cell? ⟨g, j, none⟩ = cs[j]? := Lib.cell_of_heap h j
theorem Bx.free {W : World} {g t : Nat} {cs : Array Value} (h : Bx W g t cs) (j : Nat) : W.frozen? ⟨g, j, none⟩ = false := frozen_of_row _ _ _ _ _ h
theorem Bx.at' {W : World} {g t : Nat} {cs : Array Value} (h : Bx W g t cs) (j : Nat) (v : Value) (hv : cs[j]? = some v) : W.cell? ⟨g, j, none⟩ = some v := (Bx.cell h j).trans hv
theorem Bx.new (w : World) (t : Nat) (cs : Array Value) : Bx (w.alloc (.cells cs t)) w.heap.size t cs := heap_alloc_new w _
theorem size_alloc (w : World) (o : Obj) : (w.alloc o).heap.size = w.heap.size + 1 := by show (w.heap.push o).size = _; exact Array.size_push _
theorem Bx.alloc {W : World} {g t : Nat} {cs : Array Value} (h : Bx W g t cs) (o : Obj) : Bx (W.alloc o) g t cs := h.below (bel_alloc (Below.refl _ _) o)
end Go.Proofs.YtjglbadkbhopoaaGreatDoor
namespace Go.Proofs.YtjglbadkbhopoaaGreatDoor
set_option linter.unusedVariables false
abbrev Sub := Int → Trm
abbrev Binds := List (Int × Trm)
def cs (θ : Sub) (c : Cell) : Trm := if c.k = 1 then θ c.n else [c]
def app (θ : Sub) (t : Trm) : Trm := t.flatMap (cs θ)
def Ms (m : Nat) (t : Trm) : Prop := skip m t = some t.length
def vars (t : Trm) : List Int := (t.filter (fun c => decide (c.k = 1))).map (·.n)
def getB (s : Binds) (v : Int) : Option Trm := (s.find? (fun b => decide (b.1 = v))).map (·.2)
theorem Ms_zero {t : Trm} : Ms 0 t ↔ t = [] := by
  unfold Ms; cases t <;> simp [skip]
theorem Ms_cons {m : Nat} {c : Cell} {t : Trm} : Ms (m + 1) (c :: t) ↔ Ms (m + (ar c).toNat) t := by
  unfold Ms; rw [skip]; cases skip (m + (ar c).toNat) t <;> simp
theorem Ms_nil {m : Nat} : Ms m [] ↔ m = 0 := by
  unfold Ms; cases m <;> simp [skip]
theorem Ms_app : ∀ {t : Trm} {m n : Nat} {u : Trm}, Ms m t → Ms n u → Ms (m + n) (t ++ u)
  | [], m, n, u, h, k => by rw [Ms_nil] at h; subst h; simpa using k
  | c :: t, 0, n, u, h, k => by rw [Ms_zero] at h; cases h
  | c :: t, m + 1, n, u, h, k => by
    rw [Ms_cons] at h
    have := Ms_app h k
    rw [List.cons_append, show m + 1 + n = m + n + 1 by omega, Ms_cons, show m + n + (ar c).toNat = m + (ar c).toNat + n by omega]
    exact this
theorem Ms_uniq : ∀ {t t' : Trm} {m : Nat} {r r' : Trm}, Ms m t → Ms m t' → t ++ r = t' ++ r' → t = t' ∧ r = r'
  | [], t', m, r, r', h, h', e => by
    rw [Ms_nil] at h; subst h; rw [Ms_zero] at h'; subst h'; exact ⟨rfl, e⟩
  | c :: t, [], m, r, r', h, h', e => by
    rw [Ms_nil] at h'; subst h'; rw [Ms_zero] at h; cases h
  | c :: t, c' :: t', 0, r, r', h, h', e => by rw [Ms_zero] at h; cases h
  | c :: t, c' :: t', m + 1, r, r', h, h', e => by
    rw [List.cons_append, List.cons_append] at e
    injection e with e1 e2
    subst e1
    rw [Ms_cons] at h h'
    obtain ⟨rfl, rfl⟩ := Ms_uniq h h' e2
    exact ⟨rfl, rfl⟩
theorem Ms_split : ∀ {t : Trm} {m n : Nat}, Ms (m + n) t → ∃ u r, t = u ++ r ∧ Ms m u ∧ Ms n r
  | t, 0, n, h => ⟨[], t, rfl, Ms_zero.2 rfl, by simpa using h⟩
  | [], m + 1, n, h => by rw [Ms_nil] at h; omega
  | c :: t, m + 1, n, h => by
    rw [show m + 1 + n = m + n + 1 by omega, Ms_cons, show m + n + (ar c).toNat = m + (ar c).toNat + n by omega] at h
    obtain ⟨u, r, rfl, h1, h2⟩ := Ms_split h
    exact ⟨c :: u, r, rfl, Ms_cons.2 h1, h2⟩
theorem skip_pre : ∀ {u : Trm} {m : Nat} (r : Trm), Ms m u → skip m (u ++ r) = some u.length
  | [], m, r, h => by rw [Ms_nil] at h; subst h; simp [skip]
  | c :: u, 0, r, h => by rw [Ms_zero] at h; cases h
  | c :: u, m + 1, r, h => by
    rw [Ms_cons] at h
    rw [List.cons_append, skip, skip_pre r h]; simp
theorem Ms_pos {m : Nat} {t : Trm} (h : Ms (m + 1) t) : 0 < t.length := by
  cases t with
  | nil => rw [Ms_nil] at h; omega
  | cons c t => simp
def fst1 (t : Trm) : Trm := t.take (sizeOf' t)
def rst1 (t : Trm) : Trm := t.drop (sizeOf' t)
def argsOf : Nat → Trm → List Trm
  | 0, _ => []
  | m + 1, t => fst1 t :: argsOf m (rst1 t)
theorem size_pre {u : Trm} (r : Trm) (h : Ms 1 u) : sizeOf' (u ++ r) = u.length := by
  unfold sizeOf'; rw [skip_pre r h]; rfl
theorem fst1_pre {u : Trm} (r : Trm) (h : Ms 1 u) : fst1 (u ++ r) = u := by
  unfold fst1; rw [size_pre r h, List.take_left']; rfl
theorem rst1_pre {u : Trm} (r : Trm) (h : Ms 1 u) : rst1 (u ++ r) = r := by
  unfold rst1; rw [size_pre r h, List.drop_left']; rfl
theorem argsOf_len : ∀ (m : Nat) (t : Trm), (argsOf m t).length = m
  | 0, _ => rfl
  | m + 1, t => by rw [argsOf, List.length_cons, argsOf_len]
theorem argsOf_ok : ∀ {m : Nat} {t : Trm}, Ms m t → (argsOf m t).flatten = t ∧ ∀ x ∈ argsOf m t, Ms 1 x
  | 0, t, h => by rw [Ms_zero] at h; subst h; simp [argsOf]
  | m + 1, t, h => by
    rw [show m + 1 = 1 + m by omega] at h
    obtain ⟨u, r, rfl, h1, h2⟩ := Ms_split h
    obtain ⟨i1, i2⟩ := argsOf_ok h2
    rw [argsOf, fst1_pre r h1, rst1_pre r h1]
    refine ⟨by rw [List.flatten_cons, i1], fun x hx => ?_⟩
    rcases List.mem_cons.1 hx with rfl | hx
    · exact h1
    · exact i2 x hx
def Good (θ : Sub) : Prop := ∀ v, Ms 1 (θ v)
theorem app_append (θ : Sub) (t u : Trm) : app θ (t ++ u) = app θ t ++ app θ u := by unfold app; rw [List.flatMap_append]
theorem app_cons (θ : Sub) (c : Cell) (t : Trm) : app θ (c :: t) = cs θ c ++ app θ t := by unfold app; rw [List.flatMap_cons]
theorem app_nil (θ : Sub) : app θ [] = [] := rfl
theorem ar_var {c : Cell} (h : c.k = 1) : (ar c).toNat = 0 := by unfold ar; rw [if_neg (by omega)]; rfl
theorem Ms_subst {θ : Sub} (hθ : Good θ) : ∀ {t : Trm} {m : Nat}, Ms m t → Ms m (app θ t)
  | [], m, h => h
  | c :: t, 0, h => by rw [Ms_zero] at h; cases h
  | c :: t, m + 1, h => by
    rw [Ms_cons] at h
    have ih := Ms_subst hθ h
    rw [app_cons]; unfold cs
    split
    · rename_i hc
      rw [ar_var hc] at ih
      have := Ms_app (hθ c.n) ih
      rwa [show 1 + (m + 0) = m + 1 by omega] at this
    · exact Ms_cons.2 ih
theorem app_len_pos {θ : Sub} (hθ : Good θ) {t : Trm} (h : Ms 1 t) : 0 < (app θ t).length := Ms_pos (m := 0) (Ms_subst hθ h)
theorem app_congr {θ θ' : Sub} : ∀ {t : Trm}, (∀ x ∈ vars t, θ x = θ' x) → app θ t = app θ' t
  | [], _ => rfl
  | c :: t, h => by
    have h2 : ∀ x ∈ vars t, θ x = θ' x := fun x hx => h x (by
      unfold vars at *; rw [List.filter_cons]; split
      · exact List.mem_cons_of_mem _ hx
      · exact hx)
    rw [app_cons, app_cons, app_congr h2]; congr 1
    unfold cs
    split
    · rename_i hc
      exact h c.n (by unfold vars; rw [List.filter_cons, if_pos (by simpa using hc)]; simp)
    · rfl
theorem vars_cons_var {c : Cell} (h : c.k = 1) (t : Trm) : vars (c :: t) = c.n :: vars t := by unfold vars; rw [List.filter_cons, if_pos (by simpa using h)]; rfl
theorem vars_cons_fun {c : Cell} (h : c.k ≠ 1) (t : Trm) : vars (c :: t) = vars t := by unfold vars; rw [List.filter_cons, if_neg (by simpa using h)]
theorem app_ge {θ : Sub} : ∀ {t : Trm} {v : Int}, v ∈ vars t → (θ v).length ≤ (app θ t).length
  | [], v, h => by cases h
  | c :: t, v, h => by
    rw [app_cons, List.length_append]
    by_cases hc : c.k = 1
    · rw [vars_cons_var hc, List.mem_cons] at h
      rcases h with rfl | h
      · unfold cs; rw [if_pos hc]; omega
      · have := app_ge (θ := θ) h; omega
    · rw [vars_cons_fun hc] at h
      have := app_ge (θ := θ) h; omega
inductive Rch (s : Binds) : Trm → Int → Prop
  | here {t : Trm} {v : Int} : v ∈ vars t → Rch s t v
  | on {t u : Trm} {x v : Int} : x ∈ vars t → getB s x = some u → Rch s u v → Rch s t v
def walkB : Nat → Binds → Trm → Option Trm
  | 0, _, _ => none
  | n + 1, s, t => match t with
    | [] => none
    | c :: r => if c.k = 1 then match getB s c.n with
      | none => some (c :: r)
      | some u => walkB n s u
      else some (c :: r)
open Classical in
noncomputable def U : Nat → Binds → List (Trm × Trm) → Option (Option Binds)
  | 0, _, _ => none
  | _ + 1, s, [] => some (some s)
  | n + 1, s, (a, b) :: ps => match walkB n s a, walkB n s b with
    | some (x :: xs), some (y :: ys) =>
      if x.k = 1 ∧ x = y then U n s ps
      else if x.k = 1 then (if Rch s (y :: ys) x.n then some none else U n (s ++ [(x.n, y :: ys)]) ps)
      else if y.k = 1 then (if Rch s (x :: xs) y.n then some none else U n (s ++ [(y.n, x :: xs)]) ps)
      else if x = y then U n s ((argsOf (ar x).toNat xs).zip (argsOf (ar y).toNat ys) ++ ps)
      else some none
    | _, _ => none
theorem walkB_mono : ∀ {n m : Nat} {s : Binds} {t x : Trm}, walkB n s t = some x → n ≤ m → walkB m s t = some x
  | 0, m, s, t, x, h, _ => by simp [walkB] at h
  | n + 1, 0, s, t, x, h, hm => by omega
  | n + 1, m + 1, s, t, x, h, hm => by
    cases t with
    | nil => simp [walkB] at h
    | cons c r =>
      unfold walkB at h ⊢
      dsimp only at h ⊢
      split at h
      · rename_i hc
        rw [if_pos hc]
        cases hg : getB s c.n with
        | none => rw [hg] at h; exact h
        | some u => rw [hg] at h; exact walkB_mono h (by omega)
      · rename_i hc
        rw [if_neg hc]; exact h
theorem walkB_fun {n m : Nat} {s : Binds} {t x y : Trm} (h : walkB n s t = some x) (k : walkB m s t = some y) : x = y := by
  have h1 := walkB_mono h (Nat.le_max_left n m)
  rw [walkB_mono k (Nat.le_max_right n m)] at h1
  exact (Option.some.inj h1).symm
theorem U_mono : ∀ {n m : Nat} {s : Binds} {ps : List (Trm × Trm)} {r : Option Binds}, U n s ps = some r → n ≤ m → U m s ps = some r
  | 0, m, s, ps, r, h, _ => by simp [U] at h
  | n + 1, 0, s, ps, r, h, hm => by omega
  | n + 1, m + 1, s, [], r, h, hm => by simpa [U] using h
  | n + 1, m + 1, s, (a, b) :: ps, r, h, hm => by
    unfold U at h ⊢
    cases ha : walkB n s a with
    | none => rw [ha] at h; simp at h
    | some x =>
      cases hb : walkB n s b with
      | none => rw [ha, hb] at h; cases x <;> simp at h
      | some y =>
        rw [walkB_mono ha (show n ≤ m by omega), walkB_mono hb (show n ≤ m by omega)]
        rw [ha, hb] at h
        cases x with
        | nil => simp at h
        | cons x xs =>
          cases y with
          | nil => simp at h
          | cons y ys =>
            dsimp only at h ⊢
            split at h
            · rename_i h1; rw [if_pos h1]; exact U_mono h (by omega)
            · rename_i h1; rw [if_neg h1]
              split at h
              · rename_i h2; rw [if_pos h2]
                split at h
                · rename_i h3; rw [if_pos h3]; exact h
                · rename_i h3; rw [if_neg h3]; exact U_mono h (by omega)
              · rename_i h2; rw [if_neg h2]
                split at h
                · rename_i h4; rw [if_pos h4]
                  split at h
                  · rename_i h3; rw [if_pos h3]; exact h
                  · rename_i h3; rw [if_neg h3]; exact U_mono h (by omega)
                · rename_i h4; rw [if_neg h4]
                  split at h
                  · rename_i h5; rw [if_pos h5]; exact U_mono h (by omega)
                  · rename_i h5; rw [if_neg h5]; exact h
theorem U_fun {n m : Nat} {s : Binds} {ps : List (Trm × Trm)} {r r' : Option Binds} (h : U n s ps = some r) (k : U m s ps = some r') : r = r' := by
  have h1 := U_mono h (Nat.le_max_left n m)
  rw [U_mono k (Nat.le_max_right n m)] at h1
  exact (Option.some.inj h1).symm
def Then (qs : List (Trm × Trm)) (r : Option Binds) (N : Nat) (X : Option (Option Binds)) : Prop := (X = some none ∧ r = none) ∨ ∃ s' m, X = some (some s') ∧ m ≤ N ∧ U m s' qs = some r
theorem U_then : ∀ {n : Nat} {s : Binds} {ps qs : List (Trm × Trm)} {r : Option Binds}, U n s (ps ++ qs) = some r → Then qs r n (U n s ps)
  | 0, s, ps, qs, r, h => by simp [U] at h
  | n + 1, s, [], qs, r, h => .inr ⟨s, n + 1, by simp [U], Nat.le_refl _, by simpa using h⟩
  | n + 1, s, (a, b) :: ps, qs, r, h => by
    rw [List.cons_append] at h
    have lift : ∀ {s1 : Binds} {ps1 : List (Trm × Trm)}, U n s1 (ps1 ++ qs) = some r → Then qs r (n + 1) (U n s1 ps1) := fun h => by
      rcases U_then h with ⟨h1, h2⟩ | ⟨s', m, h1, h2, h3⟩
      · exact .inl ⟨h1, h2⟩
      · exact .inr ⟨s', m, h1, by omega, h3⟩
    unfold U at h ⊢
    cases ha : walkB n s a with
    | none => rw [ha] at h; simp at h
    | some x =>
      cases hb : walkB n s b with
      | none => rw [ha, hb] at h; cases x <;> simp at h
      | some y =>
        rw [ha, hb] at h
        cases x with
        | nil => simp at h
        | cons x xs =>
          cases y with
          | nil => simp at h
          | cons y ys =>
            dsimp only at h ⊢
            split at h
            · rename_i h1; rw [if_pos h1]; exact lift h
            · rename_i h1; rw [if_neg h1]
              split at h
              · rename_i h2; rw [if_pos h2]
                split at h
                · rename_i h3; rw [if_pos h3]; exact .inl ⟨rfl, (Option.some.inj h).symm⟩
                · rename_i h3; rw [if_neg h3]; exact lift h
              · rename_i h2; rw [if_neg h2]
                split at h
                · rename_i h4; rw [if_pos h4]
                  split at h
                  · rename_i h3; rw [if_pos h3]; exact .inl ⟨rfl, (Option.some.inj h).symm⟩
                  · rename_i h3; rw [if_neg h3]; exact lift h
                · rename_i h4; rw [if_neg h4]
                  split at h
                  · rename_i h5; rw [if_pos h5]; rw [← List.append_assoc] at h; exact lift h
                  · rename_i h5; rw [if_neg h5]; exact .inl ⟨rfl, (Option.some.inj h).symm⟩
end Go.Proofs.YtjglbadkbhopoaaGreatDoor
