/- The law's own functions over outcomes; comparisons. -/
import Derived.Test.YtjnangiggnmkoaaGreatDoorLawOut
namespace Go.Proofs.YtjnangiggnmkoaaGreatDoor
open Go.RowKit
set_option maxRecDepth 100000
set_option maxHeartbeats 2000000
set_option linter.unusedVariables false
theorem put_but {w : World} {g j t : Nat} {cs : Array Value} {f : Nat × Nat} {u : Value} (h : w.heap[g]? = some (.cells cs t f)) : KeepBut t w (w.setCell ⟨g, j, none⟩ u) := fun k c q f' hk hq => by
  refine heap_setCell_other w _ k u (fun he => ?_)
  rw [show k = g from he, h] at hk
  injection hk with hk
  injection hk with _ ht
  exact hq ht.symm
theorem two_puts {w1 : World} {g1 g2 t : Nat} {st nl a v : Value} (h1 : w1.heap[g1]? = some (.cells #[a, nl] t (0, 0))) (h2 : w1.heap[g2]? = some (.cells #[st, nl] t (0, 0))) (hne : g1 ≠ g2) :
    w1.cell? ⟨g2, 1, none⟩ = some nl ∧ w1.frozen? ⟨g2, 1, none⟩ = false ∧
    (w1.setCell ⟨g2, 1, none⟩ v).cell? ⟨g2, 0, none⟩ = some st ∧ (w1.setCell ⟨g2, 1, none⟩ v).cell? ⟨g2, 1, none⟩ = some v ∧
    (w1.setCell ⟨g2, 1, none⟩ v).cell? ⟨g1, 0, none⟩ = some a ∧ (w1.setCell ⟨g2, 1, none⟩ v).frozen? ⟨g1, 0, none⟩ = false ∧
    ((w1.setCell ⟨g2, 1, none⟩ v).setCell ⟨g1, 0, none⟩ st).cell? ⟨g1, 1, none⟩ = some nl ∧ ((w1.setCell ⟨g2, 1, none⟩ v).setCell ⟨g1, 0, none⟩ st).frozen? ⟨g1, 1, none⟩ = false ∧
    Hid ((((w1.setCell ⟨g2, 1, none⟩ v).setCell ⟨g1, 0, none⟩ st).setCell ⟨g1, 1, none⟩ v).heap[g1]? = some (.cells #[st, v] t (0, 0)) ∧ KeepBut t w1 (((w1.setCell ⟨g2, 1, none⟩ v).setCell ⟨g1, 0, none⟩ st).setCell ⟨g1, 1, none⟩ v)) := by
  have k2 := heap_setCell_same w1 g2 1 _ t v h2
  have k1 : (w1.setCell ⟨g2, 1, none⟩ v).heap[g1]? = some (.cells #[a, nl] t (0, 0)) := by rw [heap_setCell_other _ _ _ _ (fun e => hne e)]; exact h1
  have m1 := heap_setCell_same _ g1 0 _ t st k1
  have n1 := heap_setCell_same _ g1 1 _ t v m1
  exact ⟨Lib.cell_of_heap h2 1, frozen_of_row _ _ _ _ _ h2, Lib.cell_of_heap k2 0, Lib.cell_of_heap k2 1, Lib.cell_of_heap k1 0, frozen_of_row _ _ _ _ _ k1, Lib.cell_of_heap m1 1, frozen_of_row _ _ _ _ _ m1, Lib.hid ⟨n1, ((put_but h2).trans (put_but k1)).trans (put_but m1)⟩⟩
theorem alloc_top (w : World) (a b c : Obj) : (((w.alloc a).alloc b).alloc c).heap[w.heap.size + 1 + 1]? = some c := by
  have h2 : ((w.alloc a).alloc b).heap.size = w.heap.size + 1 + 1 := by show ((w.heap.push a).push b).size = _; rw [Array.size_push, Array.size_push]
  have h := heap_alloc_new ((w.alloc a).alloc b) c
  rwa [h2] at h
theorem toOut_c {q : Nat} (D : Trm) (v : Value) (st : Int) (w : World) (hS : Kd.cell.S q w v D) (hl : D.length ≤ 1048576) :
    Calls Tryz.prog 9 #[.agg #[.int .i64 st, v]] w fun e w' => ∃ v', e = .returned (.agg #[.int .i64 st, v']) ∧ Kd.cell.O 47 w' w.heap.size v' D ∧ Below w.heap.size w w' := by
  have HX := Lib.hid (fun W hb => toCells_c D v W (Kd.S_ext hb hS) hl)
  have HM := Lib.hid (alloc_mid w)
  have HTp := Lib.hid (alloc_top w)
  have HBB := Lib.hid (fun a b c => bel_alloc (bel_alloc (bel_alloc (Below.refl w.heap.size w) a) b) c)
  obtain ⟨A, c, rfl, a1, a2, -⟩ := hS
  go_enter Tryz.func9, Tryz.ntmps9
  go_wp2_with (go_at_call 8; (with_reducible refine (HX.out _ (HBB.out _ _ _)).mono ?_); rintro e w1 ⟨rv, rfl, hO, hb⟩; have HO := Lib.hid hO; have HB := Lib.hid hb; obtain ⟨RA, rc, rfl, r1, r2, -⟩ := Kd.O_read hO; obtain ⟨f1, f2, f3, f4, f5, f6, f7, f8, hend⟩ := two_puts (v := .slice RA D.length rc) (box_keep (HM.out _ _ _) hb) (box_keep (HTp.out _ _ _) hb) (by omega); have HE := Lib.hid hend; clear hO hb hend)
  refine bodyPost_ret (results_cell_row rfl _ _ (w.heap.size + 1) 31 _ (0, 0) _ rfl HE.out.out.1 Tryz.underlying31 rfl (by kernel_rfl)) rfl ?_
  refine ⟨_, rfl, HE.out.out.2.O (Kd.O_base HO.out (HBB.out _ _ _).size) (fun q hq => ?_), (((bel_trans (HBB.out _ _ _) HB.out).setCell (by show w.heap.size ≤ w.heap.size + 1 + 1; omega) _).setCell (by show w.heap.size ≤ w.heap.size + 1; omega) _).setCell (by show w.heap.size ≤ w.heap.size + 1; omega) _⟩
  have : q = 47 := by simpa [Kd.cell] using hq
  rw [this]; decide
theorem eqCells_c (D : Trm) (v v' : Value) (w : World) (hS : Kd.cell.S 47 w v D) (hS' : Kd.cell.S 47 w v' D) (hl : D.length ≤ 1048576) :
    Calls Tryz.prog 11 #[v, v'] w fun e w' => e = .returned (.bool true) ∧ Below w.heap.size w w' := by
  have HS := Lib.hid hS
  have HS' := Lib.hid hS'
  obtain ⟨A, c, rfl, a1, a2, -⟩ := hS
  obtain ⟨A', c', rfl, b1, b2, -⟩ := hS'
  go_enter Tryz.func11, Tryz.ntmps11
  go_wp2
  go_loopw [5] (fun v5 wr => ∃ k : Nat, v5 = .int .i64 k ∧ k ≤ D.length ∧ Hid (Below w.heap.size w wr)) (fun v5 _ => D.length - (intOf v5).toNat)
  case atStart => exact ⟨0, rfl, Nat.zero_le _, Lib.hid (Below.refl _ _)⟩
  case round =>
    obtain ⟨k, rfl, hk, HBr⟩ := hrel
    by_cases hlt : k < D.length
    · obtain ⟨cc, hc⟩ : ∃ cc, D[k]? = some cc := ⟨_, List.getElem?_eq_getElem hlt⟩
      obtain ⟨A1, c1, ev, _, _, hC⟩ := Kd.S_ext HBr.out HS.out
      injection ev with u1 u2 u3
      obtain ⟨ad, had, x1, x2, x3⟩ := cell_at hC hc
      have had2 := u1.trans had
      obtain ⟨A2, c2, ev2, _, _, hC2⟩ := Kd.S_ext HBr.out HS'.out
      injection ev2 with u4 u5 u6
      obtain ⟨ad', had', y1, y2, y3⟩ := cell_at hC2 hc
      have had3 := u4.trans had'
      have HX := Lib.hid (fun W => eqCell_c cc W)
      clear u1 u2 u3 u4 u5 u6 had had' hC hC2 hc
      subst had2
      subst had3
      have hst : ∀ W W', Below W.heap.size W W' → (W.cell? (ad.add (k * 3)) = some (.int .i64 cc.k) ∧ W.cell? ⟨(ad.add (k * 3)).block, (ad.add (k * 3)).off + 1, none⟩ = some (.int .i64 cc.n) ∧ W.cell? ⟨(ad.add (k * 3)).block, (ad.add (k * 3)).off + 2, none⟩ = some (.string cc.s) ∧ W.cell? (ad'.add (k * 3)) = some (.int .i64 cc.k) ∧ W.cell? ⟨(ad'.add (k * 3)).block, (ad'.add (k * 3)).off + 1, none⟩ = some (.int .i64 cc.n) ∧ W.cell? ⟨(ad'.add (k * 3)).block, (ad'.add (k * 3)).off + 2, none⟩ = some (.string cc.s) ∧ Hid (Below w.heap.size w W)) →
          (W'.cell? (ad.add (k * 3)) = some (.int .i64 cc.k) ∧ W'.cell? ⟨(ad.add (k * 3)).block, (ad.add (k * 3)).off + 1, none⟩ = some (.int .i64 cc.n) ∧ W'.cell? ⟨(ad.add (k * 3)).block, (ad.add (k * 3)).off + 2, none⟩ = some (.string cc.s) ∧ W'.cell? (ad'.add (k * 3)) = some (.int .i64 cc.k) ∧ W'.cell? ⟨(ad'.add (k * 3)).block, (ad'.add (k * 3)).off + 1, none⟩ = some (.int .i64 cc.n) ∧ W'.cell? ⟨(ad'.add (k * 3)).block, (ad'.add (k * 3)).off + 2, none⟩ = some (.string cc.s) ∧ Hid (Below w.heap.size w W')) := fun W W' hb h =>
        ⟨cell_keep hb h.1, cell_keep hb h.2.1, cell_keep hb h.2.2.1, cell_keep hb h.2.2.2.1, cell_keep hb h.2.2.2.2.1, cell_keep hb h.2.2.2.2.2.1, Lib.hid (bel_trans h.2.2.2.2.2.2.out hb)⟩
      go_upto_region 6 with (fail)
      have hS0 := hst wr wr.drew (bel_drew (Below.refl _ _)) ⟨x1, x2, x3, y1, y2, y3, HBr⟩
      go_region_held3 (fun W => W.cell? (ad.add (k * 3)) = some (.int .i64 cc.k) ∧ W.cell? ⟨(ad.add (k * 3)).block, (ad.add (k * 3)).off + 1, none⟩ = some (.int .i64 cc.n) ∧ W.cell? ⟨(ad.add (k * 3)).block, (ad.add (k * 3)).off + 2, none⟩ = some (.string cc.s) ∧ W.cell? (ad'.add (k * 3)) = some (.int .i64 cc.k) ∧ W.cell? ⟨(ad'.add (k * 3)).block, (ad'.add (k * 3)).off + 1, none⟩ = some (.int .i64 cc.n) ∧ W.cell? ⟨(ad'.add (k * 3)).block, (ad'.add (k * 3)).off + 2, none⟩ = some (.string cc.s) ∧ Hid (Below w.heap.size w W)) (assumption) (first | (go_at_call 22; refine (HX.out _).mono ?_; rintro e w2 ⟨rfl, hb2⟩; have hS1 := hst _ _ hb2 (by assumption); clear hb2))
      all_goals
        have HB2 := hS1.2.2.2.2.2.2
        clear hS0 hst
        go_wp2
        exact ⟨⟨k + 1, by go_num, hlt, HB2⟩, by simp [intOf]; omega⟩
    · go_wp2
      go_ret
      exact ⟨rfl, HBr.out⟩
theorem eqOut_c (D : Trm) (v v' : Value) (st : Int) (w : World) (hS : Kd.cell.S 47 w v D) (hS' : Kd.cell.S 47 w v' D) (hl : D.length ≤ 1048576) :
    Calls Tryz.prog 12 #[.agg #[.int .i64 st, v], .agg #[.int .i64 st, v']] w fun e w' => e = .returned (.bool true) ∧ Below w.heap.size w w' := by
  have HX := Lib.hid (fun W hb => eqCells_c D v v' W (Kd.S_ext hb hS) (Kd.S_ext hb hS') hl)
  have HBB := Lib.hid (fun a b => bel_alloc (bel_alloc (Below.refl w.heap.size w) a) b)
  obtain ⟨A, c, rfl, a1, a2, -⟩ := hS
  obtain ⟨A', c', rfl, b1, b2, -⟩ := hS'
  go_enter Tryz.func12, Tryz.ntmps12
  go_wp2_with (go_at_call 11; (with_reducible refine (HX.out _ (HBB.out _ _)).mono ?_); rintro e w2 ⟨rfl, hb2⟩)
  go_ret
  exact ⟨rfl, bel_trans (HBB.out _ _) hb2⟩
end Go.Proofs.YtjnangiggnmkoaaGreatDoor
