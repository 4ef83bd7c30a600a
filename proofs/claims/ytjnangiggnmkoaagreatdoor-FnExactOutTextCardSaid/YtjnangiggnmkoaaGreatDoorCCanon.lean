/- Contracts: the reference's canonical and shifted terms. -/
import Derived.Test.YtjnangiggnmkoaaGreatDoorCFree
namespace Go.Proofs.YtjnangiggnmkoaaGreatDoor
open Go.RowKit
set_option maxRecDepth 100000
set_option maxHeartbeats 1000000
set_option linter.unusedVariables false
theorem infoCell : (Tryz.prog.info? 47).map (fun i => (i.zero, i.size, i.bytes)) = some (some (.agg #[.int .i64 0, .int .i64 0, .string ⟨#[]⟩]), 3, 32) := by kernel_rfl
theorem lit2 (d : Kd Cell) (e : Nat) {w : World} {o : Obj} {x : Cell} {cs : List Value} (h : d.K (w.alloc o) x cs) : d.C e ((w.alloc o).alloc (.cells cs.toArray e)) (some ⟨w.heap.size + 1, 0, none⟩) [x] := by
  have := Kd.C_lit d e h
  rwa [show (w.alloc o).heap.size = w.heap.size + 1 from by show (w.heap.push o).size = _; rw [Array.size_push]] at this
def canonCell (xs : List Int) (c : Cell) : Cell := if c.k = 1 then { c with n := place xs c.n } else c
theorem canon_take {t : Trm} {k : Nat} {c : Cell} (f : Cell → Cell) (h : t[k]? = some c) : (t.take (k + 1)).map f = (t.take k).map f ++ [f c] := by
  have hl := (List.getElem?_eq_some_iff.1 h).1
  rw [List.take_succ_eq_append_getElem hl, (List.getElem?_eq_some_iff.1 h).2, List.map_append]; rfl
theorem canon_c (t : Trm) (A : Option Addr) (c : Nat) (w : World) (h : Kd.cell.C 47 w A t) (hl : t.length ≤ 1000000000) :
    Calls Tryz.prog 28 #[.slice A t.length c] w fun e w' => ∃ v, e = .returned v ∧ Kd.cell.S 47 w' v (canon t) ∧ Below w.heap.size w w' := by
  have H := Lib.hid h
  have HF := Lib.hid (free_c t A c w h hl)
  clear h
  go_enter Tryz.func28, Tryz.ntmps28
  go_wp2_with (go_at_call 53; refine HF.out.mono ?_; rintro e w1 ⟨v, rfl, hO, hb⟩; obtain ⟨F, cF, rfl, hf1, hf2, hCF⟩ := Kd.O_read hO; have HB1 := Lib.hid hb; have HFr := Lib.hid hCF; clear hO hb hCF)
  have hfl := free_len t
  go_loopw [4, 5] (fun v4 v5 wr => ∃ (k : Nat) (D : Trm), v5 = .int .i64 k ∧ k ≤ t.length ∧ D.length = k ∧ Hid ((t.take k).map (canonCell (free t)) = D) ∧ Hid (Kd.cell.O 47 wr w1.heap.size v4 D) ∧ Hid (Below w1.heap.size w1 wr)) (fun _ v5 _ => t.length - (intOf v5).toNat)
  case atStart => exact ⟨0, [], rfl, Nat.zero_le _, rfl, Lib.hid rfl, Lib.hid (Kd.O_empty Kd.cell _ w1 (Nat.le_refl _)), Lib.hid (bel_alloc (Below.refl _ _) _)⟩
  case round =>
    obtain ⟨k, D, rfl, hk, hD, HS, HO, HB⟩ := hrel
    by_cases hlt : k < t.length
    · obtain ⟨cc, hc⟩ : ∃ cc, t[k]? = some cc := ⟨_, List.getElem?_eq_getElem hlt⟩
      obtain ⟨ad, rfl, a1, a2, a3⟩ := cell_at (Kd.C_ext (bel_trans HB1.out HB.out) H.out) hc
      have HT := Lib.hid (canon_take (canonCell (free t)) hc)
      rw [HS.out] at HT
      clear hc
      by_cases h1 : cc.k = 1
      · have e1 : (cc.k == 1) = true := beq_iff_eq.2 h1
        have HP := Lib.hid (fun W (hb : Below w1.heap.size w1 W) => place_c (free t) F cF cc.n W (Kd.C_ext hb HFr.out) (by omega))
        obtain ⟨q, hq⟩ : ∃ q, place (free t) cc.n = q := ⟨_, rfl⟩
        have HC := Lib.hid (show canonCell (free t) cc = ⟨cc.k, q, cc.s⟩ by unfold canonCell; rw [if_pos h1, hq])
        rw [hq] at HP
        rw [HC.out] at HT
        clear h1 hq
        go_wp2_with (first | (go_at_call 54; refine (HP.out _ (bel_alloc HB.out _)).mono ?_; rintro e w2 ⟨rfl, rfl⟩) | (at_builtin; refine wp_append (d := Kd.cell) _ rfl (.tmp 28) (.tmp 30) 28 rfl w1.heap.size 47 _ 32 Tryz.underlying28 infoCell rfl (by decide) _ D rfl (Kd.O_alloc _ (Kd.O_alloc _ HO.out)) _ [(⟨cc.k, q, cc.s⟩ : Cell)] _ _ rfl rfl (lit2 Kd.cell _ (x := (⟨cc.k, q, cc.s⟩ : Cell)) (cs := [.int .i64 cc.k, .int .i64 q, .string cc.s]) rfl) ?c1 ?c2 ?c3 (fun q hq => by simp [Kd.cell] at hq) ?_; (case c1 => simp [maxLen]; omega); (case c2 => simp; omega); (case c3 => simp; have := HB.out.size; omega); intro v' w' ho hg hat; have hb := Lib.hid (bel_grown (bel_alloc (bel_alloc HB.out _) _) (Kd.O_alloc _ (Kd.O_alloc _ HO.out)) hg); have ho' := Lib.hid ho; clear ho hg hat))
        exact ⟨⟨k + 1, D ++ [⟨cc.k, q, cc.s⟩], by go_num, by omega, by simp; omega, HT, ho', hb⟩, by simp [intOf]; omega⟩
      · have e1 : (cc.k == 1) = false := beq_eq_false_iff_ne.2 h1
        have HC := Lib.hid (show canonCell (free t) cc = cc by unfold canonCell; rw [if_neg h1])
        rw [HC.out] at HT
        clear h1
        go_wp2_with (at_builtin; refine wp_append (d := Kd.cell) _ rfl (.tmp 28) (.tmp 30) 28 rfl w1.heap.size 47 _ 32 Tryz.underlying28 infoCell rfl (by decide) _ D rfl (Kd.O_alloc _ (Kd.O_alloc _ HO.out)) _ [cc] _ _ rfl rfl (lit2 Kd.cell _ (x := cc) (cs := [.int .i64 cc.k, .int .i64 cc.n, .string cc.s]) rfl) ?c1 ?c2 ?c3 (fun q hq => by simp [Kd.cell] at hq) ?_; (case c1 => simp [maxLen]; omega); (case c2 => simp; omega); (case c3 => simp; have := HB.out.size; omega); intro v' w' ho hg hat; have hb := Lib.hid (bel_grown (bel_alloc (bel_alloc HB.out _) _) (Kd.O_alloc _ (Kd.O_alloc _ HO.out)) hg); have ho' := Lib.hid ho; clear ho hg hat)
        exact ⟨⟨k + 1, D ++ [cc], by go_num, by omega, by simp; omega, HT, ho', hb⟩, by simp [intOf]; omega⟩
    · have HV := Lib.hid (show canon t = D by rw [← HS.out, List.take_of_length_le (by omega)]; rfl)
      go_wp2
      go_ret
      exact ⟨_, rfl, by rw [HV.out]; exact Kd.O_read HO.out, bel_trans HB1.out HB.out⟩
def shiftCell (n : Int) (c : Cell) : Cell := if c.k = 1 then { c with n := c.n + n } else c
theorem shift_c (t : Trm) (A : Option Addr) (c : Nat) (n : Int) (w : World) (h : Kd.cell.C 47 w A t) (hl : t.length ≤ 1000000000) (hn0 : -1000000000 ≤ n) (hn1 : n ≤ 1000000000) (hc0 : ∀ x ∈ t, -1000000000 ≤ x.n ∧ x.n ≤ 1000000000) :
    Calls Tryz.prog 30 #[.slice A t.length c, .int .i64 n] w fun e w' => ∃ v, e = .returned v ∧ Kd.cell.S 47 w' v (shift t n) ∧ Below w.heap.size w w' := by
  have H := Lib.hid h
  have HC0 := Lib.hid hc0
  clear h hc0
  go_enter Tryz.func30, Tryz.ntmps30
  go_wp2
  go_loopw [5, 6] (fun v4 v5 wr => ∃ (k : Nat) (D : Trm), v5 = .int .i64 k ∧ k ≤ t.length ∧ D.length = k ∧ Hid ((t.take k).map (shiftCell n) = D) ∧ Hid (Kd.cell.O 47 wr w.heap.size v4 D) ∧ Hid (Below w.heap.size w wr)) (fun _ v5 _ => t.length - (intOf v5).toNat)
  case atStart => exact ⟨0, [], rfl, Nat.zero_le _, rfl, Lib.hid rfl, Lib.hid (Kd.O_empty Kd.cell _ w (Nat.le_refl _)), Lib.hid (bel_alloc (Below.refl _ _) _)⟩
  case round =>
    obtain ⟨k, D, rfl, hk, hD, HS, HO, HB⟩ := hrel
    by_cases hlt : k < t.length
    · obtain ⟨cc, hc⟩ : ∃ cc, t[k]? = some cc := ⟨_, List.getElem?_eq_getElem hlt⟩
      obtain ⟨ad, rfl, a1, a2, a3⟩ := cell_at (Kd.C_ext HB.out H.out) hc
      have hcn := HC0.out cc (List.mem_of_getElem? hc)
      have HT := Lib.hid (canon_take (shiftCell n) hc)
      rw [HS.out] at HT
      clear hc
      by_cases h1 : cc.k = 1
      · have e1 : (cc.k == 1) = true := beq_iff_eq.2 h1
        obtain ⟨q, hq⟩ : ∃ q, cc.n + n = q := ⟨_, rfl⟩
        have HC := Lib.hid (show shiftCell n cc = ⟨cc.k, q, cc.s⟩ by unfold shiftCell; rw [if_pos h1, hq])
        rw [HC.out] at HT
        clear h1
        go_wp2_with ((at_builtin; refine wp_append (d := Kd.cell) _ rfl (.tmp 27) (.tmp 29) 28 rfl w.heap.size 47 _ 32 Tryz.underlying28 infoCell rfl (by decide) _ D rfl (Kd.O_alloc _ (Kd.O_alloc _ HO.out)) _ [(⟨cc.k, q, cc.s⟩ : Cell)] _ _ rfl rfl (lit2 Kd.cell _ (x := (⟨cc.k, q, cc.s⟩ : Cell)) (cs := [.int .i64 cc.k, .int .i64 q, .string cc.s]) rfl) ?c1 ?c2 ?c3 (fun q hq => by simp [Kd.cell] at hq) ?_; (case c1 => simp [maxLen]; omega); (case c2 => simp; omega); (case c3 => simp; have := HB.out.size; omega); intro v' w' ho hg hat; have hb := Lib.hid (bel_grown (bel_alloc (bel_alloc HB.out _) _) (Kd.O_alloc _ (Kd.O_alloc _ HO.out)) hg); have ho' := Lib.hid ho; clear ho hg hat))
        exact ⟨⟨k + 1, D ++ [⟨cc.k, q, cc.s⟩], by go_num, by omega, by simp; omega, HT, ho', hb⟩, by simp [intOf]; omega⟩
      · have e1 : (cc.k == 1) = false := beq_eq_false_iff_ne.2 h1
        have HC := Lib.hid (show shiftCell n cc = cc by unfold shiftCell; rw [if_neg h1])
        rw [HC.out] at HT
        clear h1
        go_wp2_with (at_builtin; refine wp_append (d := Kd.cell) _ rfl (.tmp 27) (.tmp 29) 28 rfl w.heap.size 47 _ 32 Tryz.underlying28 infoCell rfl (by decide) _ D rfl (Kd.O_alloc _ (Kd.O_alloc _ HO.out)) _ [cc] _ _ rfl rfl (lit2 Kd.cell _ (x := cc) (cs := [.int .i64 cc.k, .int .i64 cc.n, .string cc.s]) rfl) ?c1 ?c2 ?c3 (fun q hq => by simp [Kd.cell] at hq) ?_; (case c1 => simp [maxLen]; omega); (case c2 => simp; omega); (case c3 => simp; have := HB.out.size; omega); intro v' w' ho hg hat; have hb := Lib.hid (bel_grown (bel_alloc (bel_alloc HB.out _) _) (Kd.O_alloc _ (Kd.O_alloc _ HO.out)) hg); have ho' := Lib.hid ho; clear ho hg hat)
        exact ⟨⟨k + 1, D ++ [cc], by go_num, by omega, by simp; omega, HT, ho', hb⟩, by simp [intOf]; omega⟩
    · have HV := Lib.hid (show shift t n = D by rw [← HS.out, List.take_of_length_le (by omega)]; rfl)
      go_wp2
      go_ret
      exact ⟨_, rfl, by rw [HV.out]; exact Kd.O_read HO.out, HB.out⟩
end Go.Proofs.YtjnangiggnmkoaaGreatDoor
