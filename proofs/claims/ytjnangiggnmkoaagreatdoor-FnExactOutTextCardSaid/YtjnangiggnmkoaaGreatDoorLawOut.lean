/- The law's own functions over terms and outcomes: sizes, copies, comparisons. -/
import Derived.Test.YtjnangiggnmkoaaGreatDoorOutTxt
namespace Go.Proofs.YtjnangiggnmkoaaGreatDoor
open Go.RowKit
set_option maxRecDepth 100000
set_option maxHeartbeats 2000000
set_option linter.unusedVariables false
def szB (c : Cell) (l : Int) : Int := if l - c.s.size < 0 then -1 else l - c.s.size
def szR : Trm → Int → Int
  | [], l => l
  | c :: t, l => if szB c l < 0 then -1 else szR t (szB c l)
def szL (D : Trm) (l : Int) : Int := if l - (D.length : Int) < 0 then -1 else szR D (l - D.length)
theorem szB_le {c : Cell} {l : Int} (h : ¬ szB c l < 0) : szB c l ≤ l := by unfold szB at *; split at h <;> split <;> omega
theorem szR_le : ∀ {D : Trm} {l : Int}, 0 ≤ szR D l → szR D l ≤ l
  | [], l, h => Int.le_refl _
  | c :: t, l, h => by
    rw [szR] at h ⊢
    split at h
    · omega
    · rename_i hc
      rw [if_neg hc]
      exact Int.le_trans (szR_le h) (szB_le hc)
theorem szL_le {D : Trm} {l : Int} (h : 0 ≤ szL D l) : szL D l ≤ l ∧ (D.length : Int) ≤ l := by
  unfold szL at *
  split at h
  · omega
  · rename_i hc
    rw [if_neg hc]
    have := szR_le h
    omega
theorem szCell_c (c : Cell) (l : Int) (w : World) (hs : c.s.size ≤ 9223372036854775807) (h0 : 0 ≤ l) (h1 : l ≤ 1048576) :
    Calls Tryz.prog 18 #[.agg #[.int .i64 c.k, .int .i64 c.n, .string c.s], .int .i64 l] w fun e w' => e = .returned (.int .i64 (szB c l)) ∧ Below w.heap.size w w' := by
  have hb := Lib.hid (show Below w.heap.size w (w.alloc (.cells #[.int .i64 c.k, .int .i64 c.n, .string c.s] 45)) from bel_alloc (Below.refl _ _) _)
  unfold szB
  by_cases hlt : l - (c.s.size : Int) < 0
  · have e1 : decide (l - (c.s.size : Int) < 0) = true := decide_eq_true hlt
    rw [if_pos hlt]
    go_enter Tryz.func18, Tryz.ntmps18
    go_wp2
    go_ret
    exact ⟨rfl, hb.out⟩
  · have e1 : decide (l - (c.s.size : Int) < 0) = false := decide_eq_false hlt
    rw [if_neg hlt]
    go_enter Tryz.func18, Tryz.ntmps18
    go_wp2
    go_ret
    exact ⟨rfl, hb.out⟩
theorem szCells_c {q : Nat} (D : Trm) (v : Value) (l : Int) (w : World) (hS : Kd.cell.S q w v D) (hz : sized D) (h0 : 0 ≤ l) (h1 : l ≤ 1048576) :
    Calls Tryz.prog 5 #[v, .int .i64 l] w fun e w' => e = .returned (.int .i64 (szL D l)) ∧ Below w.heap.size w w' := by
  have HS := Lib.hid hS
  obtain ⟨A, c, rfl, a1, a2, -⟩ := hS
  have hm : maxLen = 9223372036854775807 := rfl
  have HZ := Lib.hid hz
  clear hz
  unfold szL
  by_cases hlt : l - (D.length : Int) < 0
  · have e1 : decide (l - (D.length : Int) < 0) = true := decide_eq_true hlt
    rw [if_pos hlt]
    go_enter Tryz.func5, Tryz.ntmps5
    go_wp2
    go_ret
    exact ⟨rfl, Below.refl _ _⟩
  · have e1 : decide (l - (D.length : Int) < 0) = false := decide_eq_false hlt
    rw [if_neg hlt]
    have hDn : D.length ≤ 1048576 := by omega
    have H0 := Lib.hid (show 0 ≤ l - (D.length : Int) ∧ l - (D.length : Int) ≤ 1048576 by omega)
    obtain ⟨Z, hZ⟩ : ∃ Z, szR D (l - (D.length : Int)) = Z := ⟨_, rfl⟩
    have HZ0 := Lib.hid hZ
    rw [hZ]
    clear hlt hZ
    go_enter Tryz.func5, Tryz.ntmps5
    go_wp2
    go_loopw [1, 5] (fun v1 v5 wr => ∃ (k : Nat) (x : Int), v1 = .int .i64 x ∧ v5 = .int .i64 k ∧ k ≤ D.length ∧ 0 ≤ x ∧ x ≤ 1048576 ∧ Hid (szR (D.drop k) x = Z) ∧ Hid (Below w.heap.size w wr)) (fun _ v5 _ => D.length - (intOf v5).toNat)
    case atStart => exact ⟨0, _, rfl, rfl, Nat.zero_le _, H0.out.1, H0.out.2, HZ0, Lib.hid (Below.refl _ _)⟩
    case round =>
      obtain ⟨k, x, rfl, rfl, hk, hx0, hx1, HRr, HBr⟩ := hrel
      by_cases hlt : k < D.length
      · obtain ⟨cc, hc⟩ : ∃ cc, D[k]? = some cc := ⟨_, List.getElem?_eq_getElem hlt⟩
        obtain ⟨A', c', ev, _, _, hC⟩ := Kd.S_ext HBr.out HS.out
        injection ev with u1 u2 u3
        obtain ⟨ad, had, x1, x2, x3⟩ := cell_at hC hc
        have had2 := u1.trans had
        have HX := Lib.hid (szCell_c cc x wr (HZ.out cc (List.mem_of_getElem? hc)) hx0 hx1)
        have hR := HRr.out
        rw [List.drop_eq_getElem_cons hlt, (List.getElem?_eq_some_iff.1 hc).2, szR] at hR
        have hle := szB_le (c := cc) (l := x)
        obtain ⟨r, hr⟩ : ∃ r, szB cc x = r := ⟨_, rfl⟩
        rw [hr] at hR hle HX
        clear u1 u2 u3 had hC hc hr
        subst had2
        by_cases hneg : r < 0
        · rw [if_pos hneg] at hR
          have e2 : decide (r < 0) = true := decide_eq_true hneg
          have HV := Lib.hid hR
          clear hR hle
          go_wp2_with (go_at_call 18; (with_reducible refine HX.out.mono ?_); rintro e w2 ⟨rfl, hb2⟩)
          go_ret
          exact ⟨congrArg (fun z => Ending.returned (.int .i64 z)) HV.out, bel_trans HBr.out hb2⟩
        · rw [if_neg hneg] at hR
          have e2 : decide (r < 0) = false := decide_eq_false hneg
          have HV := Lib.hid hR
          have hle := hle hneg
          clear hR
          go_wp2_with (go_at_call 18; (with_reducible refine HX.out.mono ?_); rintro e w2 ⟨rfl, hb2⟩; have HB2 := Lib.hid hb2; clear hb2)
          exact ⟨⟨k + 1, r, rfl, by go_num, by omega, by omega, by omega, HV, Lib.hid (bel_trans HBr.out HB2.out)⟩, by simp [intOf]; omega⟩
      · have HV := Lib.hid (show x = Z by have := HRr.out; rwa [List.drop_of_length_le (by omega), szR] at this)
        go_wp2
        go_ret
        exact ⟨congrArg (fun z => Ending.returned (.int .i64 z)) HV.out, HBr.out⟩
theorem szOut_c {q : Nat} (D : Trm) (v : Value) (st : Int) (l : Int) (w : World) (hS : Kd.cell.S q w v D) (hz : sized D) (h0 : 0 ≤ l) (h1 : l ≤ 1048576) :
    Calls Tryz.prog 6 #[.agg #[.int .i64 st, v], .int .i64 l] w fun e w' => e = .returned (.int .i64 (if szL D l < 0 then -1 else szL D l)) ∧ Below w.heap.size w w' := by
  have HX := Lib.hid (fun o => szCells_c D v l (w.alloc o) (Kd.S_alloc _ hS) hz h0 h1)
  obtain ⟨A, c, rfl, a1, a2, -⟩ := hS
  obtain ⟨r, hr⟩ : ∃ r, szL D l = r := ⟨_, rfl⟩
  rw [hr] at HX ⊢
  clear hr
  by_cases hneg : r < 0
  · have e2 : decide (r < 0) = true := decide_eq_true hneg
    rw [if_pos hneg]
    go_enter Tryz.func6, Tryz.ntmps6
    go_wp2_with (go_at_call 5; (with_reducible refine (HX.out _).mono ?_); rintro e w2 ⟨rfl, hb2⟩; have HB2 := Lib.hid (bel_trans (bel_alloc (Below.refl _ _) _) hb2); clear hb2)
    go_ret
    exact ⟨rfl, HB2.out⟩
  · have e2 : decide (r < 0) = false := decide_eq_false hneg
    rw [if_neg hneg]
    go_enter Tryz.func6, Tryz.ntmps6
    go_wp2_with (go_at_call 5; (with_reducible refine (HX.out _).mono ?_); rintro e w2 ⟨rfl, hb2⟩; have HB2 := Lib.hid (bel_trans (bel_alloc (Below.refl _ _) _) hb2); clear hb2)
    go_ret
    exact ⟨rfl, HB2.out⟩
theorem set3 {W : World} {g t : Nat} {a b c : Value} (x0 x1 x2 : Value) (h : W.heap[g]? = some (.cells #[a, b, c] t (0, 0))) :
    (((W.setCell ⟨g, 0, none⟩ x0).setCell ⟨g, 1, none⟩ x1).setCell ⟨g, 2, none⟩ x2).heap[g]? = some (.cells #[x0, x1, x2] t (0, 0)) := by
  have h0 := heap_setCell_same _ g 0 _ t x0 h
  have h1 := heap_setCell_same _ g 1 _ t x1 h0
  exact heap_setCell_same _ g 2 _ t x2 h1
theorem alloc_mid (w : World) (a b c : Obj) : (((w.alloc a).alloc b).alloc c).heap[w.heap.size + 1]? = some b := by
  have h := heap_alloc_new (w.alloc a) b
  have h1 : (w.alloc a).heap.size = w.heap.size + 1 := by show (w.heap.push a).size = _; exact Array.size_push _
  have h2 : ((w.alloc a).alloc b).heap.size = w.heap.size + 1 + 1 := by show ((w.heap.push a).push b).size = _; rw [Array.size_push, Array.size_push]
  rw [h1] at h
  rw [← h]
  exact Lib.alloc_old _ c _ (by rw [h2]; omega)
theorem toCell_c (c : Cell) (w : World) :
    Calls Tryz.prog 20 #[.agg #[.int .i64 c.k, .int .i64 c.n, .string c.s]] w fun e w' => e = .returned (.agg #[.int .i64 c.k, .int .i64 c.n, .string c.s]) ∧ Below w.heap.size w w' := by
  have hM := Lib.hid (alloc_mid w)
  go_enter Tryz.func20, Tryz.ntmps20
  go_wp2
  refine bodyPost_ret (results_cell_row rfl _ _ (w.heap.size + 1) 47 _ (0, 0) _ rfl (hM.out _ _ _) Tryz.underlying47 rfl (by kernel_rfl)) rfl ?_
  exact ⟨rfl, bel_alloc (bel_alloc (bel_alloc (Below.refl _ _) _) _) _⟩
theorem cell_put1 {base g n cap : Nat} {w : World} {D : Trm} (h : Kd.cell.O 47 w base (.slice (some ⟨g, 0, none⟩) n cap) D) {k : Nat} {c : Cell} (hk : D[k]? = some c) :
    base ≤ g ∧ w.cell? ⟨g, k * 3, none⟩ = some (.int .i64 c.k) ∧ w.cell? ⟨g, k * 3 + 1, none⟩ = some (.int .i64 c.n) ∧ w.cell? ⟨g, k * 3 + 2, none⟩ = some (.string c.s) ∧ (∀ j, j < 3 → w.frozen? ⟨g, k * 3 + j, none⟩ = false) ∧
      ∀ j, j < 3 → ∀ u c', u.oneCell' = true → (∀ cs, Kd.cell.K w c cs → Kd.cell.K w c' (cs.set j u)) → Kd.cell.O 47 (w.setCell ⟨g, k * 3 + j, none⟩ u) base (.slice (some ⟨g, 0, none⟩) n cap) (D.set k c') := by
  have hS := Kd.O_read h
  obtain ⟨ad, cap', hv, hb, hf, hp⟩ := Kd.O_put h (fun q hq => by simp [Kd.cell] at hq) hk
  obtain ⟨A, c', ev, _, _, hC⟩ := hS
  obtain ⟨ad', ea, h1, h2, h3⟩ := cell_at hC hk
  injection hv with e1 _ _
  injection e1 with e1
  subst e1
  injection ev with e2 _ _
  rw [← e2] at ea
  injection ea with ea
  subst ea
  have ea : ∀ j, (⟨((⟨g, 0, none⟩ : Addr).add (k * 3)).block, ((⟨g, 0, none⟩ : Addr).add (k * 3)).off + j, none⟩ : Addr) = ⟨g, k * 3 + j, none⟩ := fun j => by unfold Addr.add; split <;> simp_all
  have ea0 : (⟨g, 0, none⟩ : Addr).add (k * 3) = ⟨g, k * 3, none⟩ := by unfold Addr.add; split <;> simp_all
  rw [ea0] at h1
  rw [ea] at h2 h3
  refine ⟨hb, h1, h2, h3, fun j hj => by have := hf j hj; rwa [show Kd.cell.sz = 3 from rfl, ea] at this, fun j hj u x' hu hK => ?_⟩
  have := (hp j hj u x' hu hK).1
  rwa [show Kd.cell.sz = 3 from rfl, ea] at this
theorem cell_put3 {base g n cap : Nat} {w : World} {D : Trm} (h : Kd.cell.O 47 w base (.slice (some ⟨g, 0, none⟩) n cap) D) {k : Nat} {c : Cell} (hk : D[k]? = some c) (c' : Cell) :
    w.cell? ⟨g, k * 3, none⟩ = some (.int .i64 c.k) ∧ w.frozen? ⟨g, k * 3, none⟩ = false ∧
    (w.setCell ⟨g, k * 3, none⟩ (.int .i64 c'.k)).cell? ⟨g, k * 3 + 1, none⟩ = some (.int .i64 c.n) ∧ (w.setCell ⟨g, k * 3, none⟩ (.int .i64 c'.k)).frozen? ⟨g, k * 3 + 1, none⟩ = false ∧
    ((w.setCell ⟨g, k * 3, none⟩ (.int .i64 c'.k)).setCell ⟨g, k * 3 + 1, none⟩ (.int .i64 c'.n)).cell? ⟨g, k * 3 + 2, none⟩ = some (.string c.s) ∧ ((w.setCell ⟨g, k * 3, none⟩ (.int .i64 c'.k)).setCell ⟨g, k * 3 + 1, none⟩ (.int .i64 c'.n)).frozen? ⟨g, k * 3 + 2, none⟩ = false ∧
    Hid (Kd.cell.O 47 (((w.setCell ⟨g, k * 3, none⟩ (.int .i64 c'.k)).setCell ⟨g, k * 3 + 1, none⟩ (.int .i64 c'.n)).setCell ⟨g, k * 3 + 2, none⟩ (.string c'.s)) base (.slice (some ⟨g, 0, none⟩) n cap) (D.set k c') ∧
      Below base w (((w.setCell ⟨g, k * 3, none⟩ (.int .i64 c'.k)).setCell ⟨g, k * 3 + 1, none⟩ (.int .i64 c'.n)).setCell ⟨g, k * 3 + 2, none⟩ (.string c'.s))) := by
  have hil := (List.getElem?_eq_some_iff.1 hk).1
  obtain ⟨hb, a0, -, -, f0, p0⟩ := cell_put1 h hk
  have q0 := p0 0 (by decide) (.int .i64 c'.k) ⟨c'.k, c.n, c.s⟩ rfl (fun cs hcs => by obtain rfl : cs = [.int .i64 c.k, .int .i64 c.n, .string c.s] := hcs; rfl)
  rw [Nat.add_zero] at q0
  obtain ⟨-, -, a1, -, f1, p1⟩ := cell_put1 q0 (k := k) (c := ⟨c'.k, c.n, c.s⟩) (List.getElem?_set_self hil)
  have q1 := p1 1 (by decide) (.int .i64 c'.n) ⟨c'.k, c'.n, c.s⟩ rfl (fun cs hcs => by obtain rfl : cs = [.int .i64 c'.k, .int .i64 c.n, .string c.s] := hcs; rfl)
  rw [List.set_set] at q1
  obtain ⟨-, -, -, a2, f2, p2⟩ := cell_put1 q1 (k := k) (c := ⟨c'.k, c'.n, c.s⟩) (List.getElem?_set_self hil)
  have q2 := p2 2 (by decide) (.string c'.s) c' rfl (fun cs hcs => by obtain rfl : cs = [.int .i64 c'.k, .int .i64 c'.n, .string c.s] := hcs; rfl)
  rw [List.set_set] at q2
  have g0 := f0 0 (by decide)
  rw [Nat.add_zero] at g0
  exact ⟨a0, g0, a1, f1 1 (by decide), a2, f2 2 (by decide), Lib.hid ⟨q2, (((Below.refl _ _).setCell hb _).setCell hb _).setCell hb _⟩⟩
def z0 : Cell := ⟨0, 0, ⟨#[]⟩⟩
theorem O_made {w : World} {base n : Nat} {v : Value} (h : w.ownsRow base 47 3 v n (madeCells #[.int .i64 0, .int .i64 0, .string ⟨#[]⟩] (n * 3)).toList) : Kd.cell.O 47 w base v (List.replicate n z0) := by
  refine ⟨_, by rw [List.length_replicate]; exact h, fun i x hx => ?_⟩
  rw [List.getElem?_replicate] at hx
  split at hx
  · rename_i hi
    obtain rfl := Option.some.inj hx
    show List.take 3 (List.drop (i * 3) _) = [Value.int .i64 0, Value.int .i64 0, Value.string ⟨#[]⟩]
    refine List.ext_getElem? fun j => ?_
    rw [List.getElem?_take]
    split
    · rw [List.getElem?_drop]
      have e : (madeCells #[Value.int .i64 0, Value.int .i64 0, Value.string ⟨#[]⟩] (n * 3)).toList[i * 3 + j]? = some ((#[Value.int .i64 0, Value.int .i64 0, Value.string ⟨#[]⟩] : Array Value)[(i * 3 + j) % 3]!) := by
        have hb : i * 3 + j < n * 3 := by omega
        unfold madeCells
        rw [Array.toList_map, List.getElem?_map, Array.toList_range, List.getElem?_range hb]
        rfl
      rw [e]
      rcases (by omega : j = 0 ∨ j = 1 ∨ j = 2) with rfl | rfl | rfl
      · rw [show (i * 3 + 0) % 3 = 0 by omega]; rfl
      · rw [show (i * 3 + 1) % 3 = 1 by omega]; rfl
      · rw [show (i * 3 + 2) % 3 = 2 by omega]; rfl
    · rw [List.getElem?_eq_none]; simp; omega
  · cases hx
theorem toCells_c {q : Nat} (D : Trm) (v : Value) (w : World) (hS : Kd.cell.S q w v D) (hl : D.length ≤ 1048576) :
    Calls Tryz.prog 8 #[v] w fun e w' => ∃ v', e = .returned v' ∧ Kd.cell.O 47 w' w.heap.size v' D ∧ Below w.heap.size w w' := by
  have HS := Lib.hid hS
  obtain ⟨A, c, rfl, a1, a2, -⟩ := hS
  have hm : maxLen = 9223372036854775807 := rfl
  obtain ⟨i0, hi, hz0, hz1, hz2⟩ := info_parts (show (Tryz.prog.info? 47).map (fun i => (i.zero, i.size, i.bytes)) = some (some (.agg #[.int .i64 0, .int .i64 0, .string ⟨#[]⟩]), 3, 32) by kernel_rfl)
  go_enter Tryz.func8, Tryz.ntmps8
  go_wp2_with (refine wpList_make_full _ rfl _ _ _ rfl w.heap.size 47 i0 _ 3 Tryz.underlying28 hi hz0 hz1 .i64 .i64 _ _ D.length rfl rfl rfl rfl (by rw [hz2]; omega) (by omega) (Nat.le_refl _) ?_; intro w1 hr hg; have HO := Lib.hid (O_made hr); have HB := Lib.hid (show Below w.heap.size w w1 from ⟨hg.os, hg.tape, hg.output, hg.size, fun k hk => hg.block k hk (by simp)⟩); clear hr hg)
  go_loopw [4] (fun v4 wr => ∃ (k : Nat) (E : Trm), v4 = .int .i64 k ∧ k ≤ D.length ∧ E.length = D.length ∧ Hid (E = D.take k ++ List.replicate (D.length - k) z0) ∧ Hid (Kd.cell.O 47 wr w.heap.size (.slice (some ⟨w.heap.size, 0, none⟩) D.length D.length) E) ∧ Hid (Below w.heap.size w wr)) (fun v4 _ => D.length - (intOf v4).toNat)
  case atStart => exact ⟨0, List.replicate D.length z0, rfl, Nat.zero_le _, List.length_replicate, Lib.hid (by simp), HO, HB⟩
  case round =>
    obtain ⟨k, E, rfl, hk, hE, HE, HOr, HBr⟩ := hrel
    have HEl := Lib.hid hE
    clear hE
    by_cases hlt : k < D.length
    · obtain ⟨cc, hc⟩ : ∃ cc, D[k]? = some cc := ⟨_, List.getElem?_eq_getElem hlt⟩
      obtain ⟨A', c', ev, _, _, hC⟩ := Kd.S_ext HBr.out HS.out
      injection ev with u1 u2 u3
      obtain ⟨ad, had, x1, x2, x3⟩ := cell_at hC hc
      have had2 := u1.trans had
      have HX := Lib.hid (fun W => toCell_c cc W)
      have hEk : E[k]? = some z0 := by
        rw [HE.out, List.getElem?_append_right (by rw [List.length_take]; omega), List.length_take, Nat.min_eq_left hk, Nat.sub_self, List.getElem?_replicate, if_pos (by omega)]
      have hEs : E.set k cc = D.take (k + 1) ++ List.replicate (D.length - (k + 1)) z0 := by
        rw [HE.out, List.set_append, if_neg (by rw [List.length_take]; omega), List.length_take, Nat.min_eq_left hk, Nat.sub_self, show D.length - k = (D.length - (k + 1)) + 1 by omega, List.replicate_succ, List.set_cons_zero, List.take_succ_eq_append_getElem hlt, (List.getElem?_eq_some_iff.1 hc).2]
        simp
      have HEk := Lib.hid hEk
      have HEs := Lib.hid hEs
      clear u1 u2 u3 had hC hc hEk hEs
      subst had2
      go_wp2_with (go_at_call 20; (with_reducible refine (HX.out _).mono ?_); rintro e w2 ⟨rfl, hb2⟩; have HB2 := Lib.hid hb2; obtain ⟨y0, y1, y2, y3, y4, y5, hput⟩ := cell_put3 (Kd.O_ext hb2 HOr.out) HEk.out cc; have HP := Lib.hid hput; clear hput hb2)
      exact ⟨⟨k + 1, E.set k cc, by go_num, hlt, by rw [List.length_set]; exact HEl.out, HEs, Lib.hid HP.out.out.1, Lib.hid ((bel_trans HBr.out HB2.out).trans HP.out.out.2)⟩, by simp [intOf]; omega⟩
    · have HV := Lib.hid (show E = D by rw [HE.out, show D.length - k = 0 by omega, List.take_of_length_le (by omega)]; simp)
      go_wp2
      go_ret
      exact ⟨_, rfl, by rw [← HV.out, HEl.out] at *; exact HV.out ▸ HOr.out, HBr.out⟩
theorem eqCell_c (c : Cell) (w : World) :
    Calls Tryz.prog 22 #[.agg #[.int .i64 c.k, .int .i64 c.n, .string c.s], .agg #[.int .i64 c.k, .int .i64 c.n, .string c.s]] w fun e w' => e = .returned (.bool true) ∧ Below w.heap.size w w' := by
  go_enter Tryz.func22, Tryz.ntmps22
  go_wp2
  go_ret
  exact ⟨rfl, bel_alloc (bel_alloc (Below.refl _ _) _) _⟩
end Go.Proofs.YtjnangiggnmkoaaGreatDoor
