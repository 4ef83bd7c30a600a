/- Contracts: both OutTexts. -/
import Derived.Test.YtjnangiggnmkoaaGreatDoorImTxt2
namespace Go.Proofs.YtjnangiggnmkoaaGreatDoor
open Go.RowKit
set_option maxRecDepth 100000
set_option maxHeartbeats 2000000
set_option linter.unusedVariables false
noncomputable def outTxt (top : Trm) (st : Int) (t : Trm) : ByteArray :=
  if outOk top st t then (if st = 2 then B (textOf t) else if st = 3 then ⟨#[110, 111, 110, 101]⟩ else if st = 4 then ⟨#[116, 111, 111, 32, 98, 105, 103]⟩ else ⟨#[119, 114, 111, 110, 103]⟩) else ⟨#[]⟩
theorem outOk_st {top : Trm} {st : Int} {t : Trm} (h : outOk top st t = true) : st = 2 ∨ st = 3 ∨ st = 4 ∨ st = 5 := by
  unfold outOk at h
  split at h
  · cases h
  · split at h
    · omega
    · split at h
      · cases h
      · omega
theorem box_at (w : World) (st : Int) (ov : Value) {w1 : World} (hb : Below (w.alloc (.cells #[.int .i64 st, ov] 31)).heap.size (w.alloc (.cells #[.int .i64 st, ov] 31)) w1) :
    w1.cell? ⟨w.heap.size, 0, none⟩ = some (.int .i64 st) ∧ w1.cell? ⟨w.heap.size, 1, none⟩ = some ov ∧ ∀ o, (w1.alloc o).cell? ⟨w.heap.size, 0, none⟩ = some (.int .i64 st) := by
  have h := heap_alloc_new w (.cells #[.int .i64 st, ov] 31)
  have h0 := cell_keep hb (Lib.cell_of_heap h 0)
  exact ⟨h0, cell_keep hb (Lib.cell_of_heap h 1), fun o => cell_keep (bel_alloc (Below.refl _ _) o) h0⟩
theorem outTxtS_c (top : Trm) (tv : Value) (st : Int) (t : Trm) (ov : Value) (w : World) (h : Kd.cell.S 47 w tv top) (h' : Kd.cell.S 47 w ov t) (hl : top.length ≤ 1000000000) (hl' : t.length ≤ 1000000000) :
    Calls Tryz.prog 7 #[tv, .agg #[.int .i64 st, ov]] w fun e w' => e = .returned (.string (outTxt top st t)) ∧ Below w.heap.size w w' := by
  have HO := Lib.hid (fun o => outOkS_c top tv st t ov (w.alloc o) (Kd.S_alloc _ h) (Kd.S_alloc _ h') hl hl')
  have HT : Hid (∀ w', Kd.cell.S 47 w' ov t → Calls Tryz.prog 19 #[ov] w' fun e w2 => e = .returned (.string (B (textOf t))) ∧ Below w'.heap.size w' w2) := Lib.hid (fun w' hs => textS_c t ov w' hs hl')
  have HBx := Lib.hid (fun w1 => box_at w st ov (w1 := w1))
  have H' := Lib.hid h'
  obtain ⟨oA, oc, rfl, o1, o2, -⟩ := h'
  unfold outTxt
  have hst := outOk_st (top := top) (st := st) (t := t)
  cases hq : outOk top st t with
  | false =>
    rw [hq] at HO
    rw [if_neg (by simp)]
    clear h hq hst
    go_enter Tryz.func7, Tryz.ntmps7
    go_wp2_with (go_at_call 14; (with_reducible refine (HO.out _).mono ?_); rintro e w1 ⟨rfl, hb⟩)
    go_ret
    exact ⟨rfl, bel_trans (bel_alloc (Below.refl _ _) _) hb⟩
  | true =>
    rw [hq] at HO
    rw [if_pos rfl]
    have hst := hst hq
    clear h hq
    rcases hst with rfl | rfl | rfl | rfl
    · go_enter Tryz.func7, Tryz.ntmps7
      go_wp2_with (first | (go_at_call 14; (with_reducible refine (HO.out _).mono ?_); rintro e w1 ⟨rfl, hb⟩; obtain ⟨x0, x1, x2⟩ := HBx.out w1 hb; have HB := Lib.hid (bel_trans (bel_alloc (Below.refl _ _) _) hb); clear hb)
                         | (go_at_call 19; (with_reducible refine (HT.out _ (Kd.S_ext HB.out H'.out)).mono ?_); rintro e w2 ⟨rfl, hb2⟩))
      go_ret
      exact ⟨ret_str rfl, bel_trans HB.out hb2⟩
    all_goals
      go_enter Tryz.func7, Tryz.ntmps7
      go_wp2_with (first | (go_at_call 14; (with_reducible refine (HO.out _).mono ?_); rintro e w1 ⟨rfl, hb⟩; obtain ⟨x0, x1, x2⟩ := HBx.out w1 hb; have HB := Lib.hid (bel_trans (bel_alloc (Below.refl _ _) _) hb); clear hb))
      go_ret
      exact ⟨ret_str rfl, bel_alloc HB.out _⟩
theorem outTxtI_c (top : Trm) (tv : Value) (st : Int) (t : Trm) (ov : Value) (w : World) (h : Kd.cell.S 47 w tv top) (h' : Kd.cell.S 47 w ov t) (hl : top.length ≤ 1000000000) (hl' : t.length ≤ 1000000000) (hz : sized top) (hz' : sized t) (hT : Tab w) :
    Calls Tryz.prog 10 #[tv, .agg #[.int .i64 st, ov]] w fun e w' => e = .returned (.string (outTxt top st t)) ∧ Below w.heap.size w w' := by
  have HO := Lib.hid (fun o => outOkI_c top tv st t ov (w.alloc o) (Kd.S_alloc _ h) (Kd.S_alloc _ h') hl hl' hz hz')
  have HT := Lib.hid (fun w' hs hT' => textIm_c t ov w' hs hl' hz' hT')
  have HBx := Lib.hid (fun w1 => box_at w st ov (w1 := w1))
  have H' := Lib.hid h'
  have HTb := Lib.hid hT
  obtain ⟨oA, oc, rfl, o1, o2, -⟩ := h'
  unfold outTxt
  have hst := outOk_st (top := top) (st := st) (t := t)
  clear hT
  cases hq : outOk top st t with
  | false =>
    rw [hq] at HO
    rw [if_neg (by simp)]
    clear h hq hst
    go_enter Tryz.func10, Tryz.ntmps10
    go_wp2_with (go_at_call 21; (with_reducible refine (HO.out _).mono ?_); rintro e w1 ⟨rfl, hb⟩)
    go_ret
    exact ⟨rfl, bel_trans (bel_alloc (Below.refl _ _) _) hb⟩
  | true =>
    rw [hq] at HO
    rw [if_pos rfl]
    have hst := hst hq
    clear h hq
    rcases hst with rfl | rfl | rfl | rfl
    · go_enter Tryz.func10, Tryz.ntmps10
      go_wp2_with (first | (go_at_call 21; (with_reducible refine (HO.out _).mono ?_); rintro e w1 ⟨rfl, hb⟩; obtain ⟨x0, x1, x2⟩ := HBx.out w1 hb; have HB := Lib.hid (bel_trans (bel_alloc (Below.refl _ _) _) hb); clear hb)
                         | (go_at_call 16; (with_reducible refine (HT.out _ (Kd.S_ext HB.out H'.out) (HTb.out.ext HB.out)).mono ?_); rintro e w2 ⟨rfl, hb2⟩))
      go_ret
      exact ⟨ret_str rfl, bel_trans HB.out hb2⟩
    all_goals
      go_enter Tryz.func10, Tryz.ntmps10
      go_wp2_with (first | (go_at_call 21; (with_reducible refine (HO.out _).mono ?_); rintro e w1 ⟨rfl, hb⟩; obtain ⟨x0, x1, x2⟩ := HBx.out w1 hb; have HB := Lib.hid (bel_trans (bel_alloc (Below.refl _ _) _) hb); clear hb))
      go_ret
      exact ⟨ret_str rfl, HB.out⟩
end Go.Proofs.YtjnangiggnmkoaaGreatDoor
