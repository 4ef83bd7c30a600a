/- Contract: the reference's unification. -/
import Derived.Test.YtjnangiggnmkoaaGreatDoorCUniT
namespace Go.Proofs.YtjnangiggnmkoaaGreatDoor
open Go.RowKit
set_option maxRecDepth 100000
set_option maxHeartbeats 2000000
set_option linter.unusedVariables false
/-- A row of terms. -/
abbrev Kd.trm : Kd Trm := Kd.slice 47 Kd.cell
theorem AppI.trm : AppI Tryz.prog 83 28 Kd.trm := ⟨Tryz.underlying83, ⟨.slice none 0 0, 24, by kernel_rfl, rfl, by decide⟩, by decide, fun q hq => by
  have : q = 47 := by simpa [Kd.slice, Kd.cell] using hq
  rw [this]; decide⟩
theorem trm_at {e : Nat} {w : World} {A : Option Addr} {L : List Trm} (h : Kd.trm.C e w A L) {i : Nat} {t : Trm} (hi : L[i]? = some t) :
    ∃ ad v, A = some ad ∧ w.cell? (ad.add i) = some v ∧ Kd.cell.S 47 w v t := by
  obtain ⟨ad, cs, _, _, ea, _, hk, hc⟩ := h i t hi
  obtain ⟨v, rfl, hS⟩ := hk
  have := hc 0 _ rfl
  rw [show i * Kd.trm.sz + 0 = i from by show i * 1 + 0 = i; omega] at this
  exact ⟨ad, v, ea, this, hS⟩
def UniPost (b : Nat) (w : World) (r : Option Binds) (e : Ending) (w' : World) : Prop :=
  ∃ rv, (match r with
    | none => e = .returned (.tuple #[rv, .bool false])
    | some s' => e = .returned (.tuple #[rv, .bool true]) ∧ Kd.bind.O 115 w' b rv s') ∧ Wrote b 115 w w'
theorem UniPost.no {b : Nat} {w w' : World} {rv : Value} {r : Option Binds} (hr : r = none) (h : Wrote b 115 w w') : UniPost b w r (.returned (.tuple #[rv, .bool false])) w' := by subst hr; exact ⟨rv, rfl, h⟩
theorem UniPost.yes {b : Nat} {w w' : World} {rv : Value} {r : Option Binds} {s' : Binds} (hr : r = some s') (ho : Kd.bind.O 115 w' b rv s') (h : Wrote b 115 w w') : UniPost b w r (.returned (.tuple #[rv, .bool true])) w' := by subst hr; exact ⟨rv, ⟨rfl, ho⟩, h⟩
theorem cell_ne {x y : Cell} (h : x ≠ y) : (x.k == y.k) = false ∨ (x.k = y.k ∧ (x.n == y.n) = false) ∨ (x.k = y.k ∧ x.n = y.n ∧ (x.s.toList == y.s.toList) = false) := by
  by_cases h1 : x.k = y.k
  · by_cases h2 : x.n = y.n
    · refine .inr (.inr ⟨h1, h2, ?_⟩)
      rw [Lib.toList_data, Lib.toList_data]
      refine beq_eq_false_iff_ne.2 (fun e => h ?_)
      obtain ⟨k1, n1, s1⟩ := x
      obtain ⟨k2, n2, s2⟩ := y
      obtain rfl : k1 = k2 := h1
      obtain rfl : n1 = n2 := h2
      have e : s1 = s2 := ByteArray.ext (Array.toList_inj.1 e)
      rw [e]
    · exact .inr (.inl ⟨h1, beq_eq_false_iff_ne.2 h2⟩)
  · exact .inl (beq_eq_false_iff_ne.2 h1)
theorem cell_neb {x y : Cell} (h : x ≠ y) : (x.k == y.k) = false ∨ ((x.k == y.k) = true ∧ (x.n == y.n) = false) ∨ ((x.k == y.k) = true ∧ (x.n == y.n) = true ∧ (x.s.toList == y.s.toList) = false) := by
  rcases cell_ne h with h | ⟨h1, h2⟩ | ⟨h1, h2, h3⟩
  · exact .inl h
  · exact .inr (.inl ⟨beq_iff_eq.2 h1, h2⟩)
  · exact .inr (.inr ⟨beq_iff_eq.2 h1, beq_iff_eq.2 h2, h3⟩)
theorem trmE : ∀ q ∈ 28 :: Kd.trm.E, q ≠ 115 := by
  intro q hq
  simp [Kd.slice, Kd.cell] at hq
  rcases hq with rfl | rfl <;> decide
theorem trmS : ∀ q ∈ Kd.trm.E, q ≠ 28 := by
  intro q hq
  simp [Kd.slice, Kd.cell] at hq
  subst hq; decide
theorem cellE : ∀ q ∈ 47 :: Kd.cell.E, q ≠ 28 := by
  intro q hq
  simp [Kd.cell] at hq
  subst hq; decide
theorem bindE : ∀ q ∈ 115 :: Kd.bind.E, q ≠ 28 := by
  intro q hq
  simp [Kd.pair, Kd.int, Kd.slice, Kd.cell] at hq
  rcases hq with rfl | rfl <;> decide
theorem cellOk_n {c : Cell} (h : cellOk c = true) : -99999 ≤ c.n ∧ c.n ≤ 99999 := by
  unfold cellOk at h
  split at h
  · simp at h; omega
  · split at h
    · simp at h; omega
    · split at h
      · simp at h; omega
      · cases h
theorem zip_fst {α β : Type} {l : List α} {m : List β} (h : l.length = m.length) : (l.zip m).map (·.1) = l := by
  rw [← List.unzip_fst, List.unzip_zip h]
theorem zip_snd {α β : Type} {l : List α} {m : List β} (h : l.length = m.length) : (l.zip m).map (·.2) = m := by
  rw [← List.unzip_snd, List.unzip_zip h]
theorem drop_snoc {α : Type} {l : List α} {j : Nat} {a : α} (h : l[j]? = some a) : (l.drop j).reverse = (l.drop (j + 1)).reverse ++ [a] := by
  obtain ⟨hl, e⟩ := List.getElem?_eq_some_iff.1 h
  rw [List.drop_eq_getElem_cons hl, e, List.reverse_cons]
theorem S_open {w : World} {v : Value} {c : Cell} {r : Trm} (h : Kd.cell.S 47 w v (c :: r)) : ∃ ad n k, v = .slice (some ad) n k ∧ 0 < n ∧ n ≤ k ∧ k ≤ maxLen ∧ Hid (n = r.length + 1) := by
  obtain ⟨A, k, rfl, h1, h2, hC⟩ := h
  obtain ⟨ad, rfl, -⟩ := cell_hd hC
  exact ⟨ad, _, k, rfl, by simp, h1, h2, Lib.hid (by simp)⟩
theorem S_cells {w : World} {ad : Addr} {n k : Nat} {c : Cell} {r : Trm} (h : Kd.cell.S 47 w (.slice (some ad) n k) (c :: r)) :
    w.cell? ad = some (.int .i64 c.k) ∧ w.cell? ⟨ad.block, ad.off + 1, none⟩ = some (.int .i64 c.n) ∧ w.cell? ⟨ad.block, ad.off + 2, none⟩ = some (.string c.s) := by
  obtain ⟨A, k, ev, h1, h2, hC⟩ := h
  obtain ⟨ad, rfl, h⟩ := cell_hd hC
  injection ev with e1 _ _
  injection e1 with e1
  subst e1; exact h
theorem take_snoc' {α : Type} (l : List α) (a : α) : ∀ z, z = l.length → (l ++ [a]).take z = l := by
  rintro z rfl
  rw [List.take_left']; rfl
theorem unify_c (V : List Int) (n b : Nat) (s0 : Binds) (sv av bv : Value) (t1 t2 : Trm) (r : Option Binds) (w : World) (hU : U n s0 [(t1, t2)] = some r) (hI : Uinv V s0 [(t1, t2)]) (hVl : V.length ≤ 1000000)
    (hs : Kd.bind.O 115 w b sv s0) (h1 : Kd.cell.S 47 w av t1) (h2 : Kd.cell.S 47 w bv t2) (hb : b ≤ w.heap.size) :
    Calls Tryz.prog 29 #[sv, av, bv] w (UniPost b w r) := by
  have HU := Lib.hid hU
  have HI := Lib.hid hI
  have HS := Lib.hid hs
  have H1 := Lib.hid h1
  have H2 := Lib.hid h2
  have Hb := Lib.hid hb
  obtain ⟨A1, c1, rfl, p1, p2, hC1⟩ := h1
  obtain ⟨A2, c2, rfl, p3, p4, hC2⟩ := h2
  obtain ⟨A0, c0, rfl, p5, p6, hC0⟩ := Kd.O_read hs
  clear hU hI hs hb hC0 hC1 hC2
  go_enter Tryz.func29, Tryz.ntmps29
  go_wp2
  go_loopg [0, 8, 9] n (fun k v0 v8 v9 wr => ∃ (s : Binds) (ps : List (Trm × Trm)) (L R : List Trm), Hid (U k s ps = some r) ∧ Hid (Uinv V s ps) ∧ Hid (L = (ps.map (·.1)).reverse) ∧ Hid (R = (ps.map (·.2)).reverse) ∧ Hid (Kd.bind.O 115 wr b v0 s) ∧ Hid (Kd.trm.O 28 wr w.heap.size v8 L) ∧ Hid (Kd.trm.O 28 wr w.heap.size v9 R) ∧ Hid (∀ k, v9.ownBlock = some k → v8.ownBlock ≠ some k) ∧ Hid (Wrote b 115 w wr))
  case atStart =>
    refine ⟨s0, [(t1, t2)], [t1], [t2], HU, HI, Lib.hid rfl, Lib.hid rfl, Lib.hid (Kd.O_alloc _ (Kd.O_alloc _ HS.out)), Lib.hid (Kd.O_alloc _ (Kd.O_lit Kd.trm _ (x := t1) (cs := [.slice A1 t1.length c1]) ⟨_, rfl, H1.out⟩ rfl (Nat.le_refl _))), Lib.hid (Kd.O_lit Kd.trm _ (x := t2) (cs := [.slice A2 t2.length c2]) ⟨_, rfl, Kd.S_alloc _ H2.out⟩ (by simp) (by omega)), Lib.hid (fun k hk e => by simp [Value.ownBlock] at hk e; omega), Lib.hid (.of_below Hb.out (bel_alloc (bel_alloc (Below.refl _ _) _) _))⟩
  case round =>
    obtain ⟨s, ps, L, R, HU, HI, HLe, HRe, HS, HL, HR, HNe, HW⟩ := hrel
    cases ps with
    | nil =>
      obtain rfl : L = [] := HLe.out
      obtain ⟨LB, lc, rfl, l1, l2, -⟩ := Kd.O_read HL.out
      have hr := Lib.hid (show r = some s by
        have := HU.out
        cases gk with
        | zero => simp [U] at this
        | succ k => rw [U] at this; exact (Option.some.inj this).symm)
      go_wp2
      go_ret2
      exact .yes hr.out HS.out HW.out
    | cons p ps =>
      obtain ⟨q1, q2⟩ := p
      obtain ⟨k, rfl⟩ : ∃ k, gk = k + 1 := by
        cases gk with
        | zero => have := HU.out; simp [U] at this
        | succ k => exact ⟨k, rfl⟩
      obtain ⟨x, xs, y, ys, wx, wy, okx, oky, vx, vy, fx, fy, hst⟩ := U_step HU.out HI.out
      have HST := Lib.hid hst
      have hslen := Nat.le_trans HI.out.b.len hVl
      have hplen := HI.out.len
      rw [List.length_cons] at hplen
      obtain ⟨L1, rfl⟩ : ∃ L1, L = L1 ++ [q1] := ⟨_, HLe.out.trans (by rw [List.map_cons, List.reverse_cons])⟩
      obtain ⟨R1, rfl⟩ : ∃ R1, R = R1 ++ [q2] := ⟨_, HRe.out.trans (by rw [List.map_cons, List.reverse_cons])⟩
      have HL1 := Lib.hid (show L1 = (ps.map (·.1)).reverse by have := HLe.out; rw [List.map_cons, List.reverse_cons] at this; exact List.append_cancel_right this)
      have HR1 := Lib.hid (show R1 = (ps.map (·.2)).reverse by have := HRe.out; rw [List.map_cons, List.reverse_cons] at this; exact List.append_cancel_right this)
      have hL1l : L1.length ≤ ps.length := by rw [HL1.out, List.length_reverse, List.length_map]; exact Nat.le_refl _
      have hR1l : R1.length ≤ ps.length := by rw [HR1.out, List.length_reverse, List.length_map]; exact Nat.le_refl _
      obtain ⟨LB, lc, rfl, l1, l2, hLC⟩ := Kd.O_read HL.out
      obtain ⟨RB, rc, rfl, r1, r2, hRC⟩ := Kd.O_read HR.out
      obtain ⟨SB, sc, rfl, s1, s2, hSC⟩ := Kd.O_read HS.out
      obtain ⟨la, lv, rfl, lcell, hq1⟩ := trm_at hLC (i := L1.length) (t := q1) (by rw [List.getElem?_append_right (Nat.le_refl _)]; simp)
      obtain ⟨ra, rv, rfl, rcell, hq2⟩ := trm_at hRC (i := R1.length) (t := q2) (by rw [List.getElem?_append_right (Nat.le_refl _)]; simp)
      have HQ2 := Lib.hid hq2
      have HSC := Lib.hid hSC
      have hne : ∀ v t, getB s v = some t → t ≠ [] := fun v t hg e => by have := HI.out.b.trm v t hg; rw [e] at this; simp [trmOk] at this
      have HWx := Lib.hid (walk_c k s SB sc q1 (x :: xs) lv wr hSC (by omega) hq1 wx hne)
      have HWy := Lib.hid (fun W hb => walk_c k s SB sc q2 (y :: ys) rv W (Kd.C_ext (w' := W) hb hSC) (by omega) (Kd.S_ext hb hq2) wy hne)
      have HzL := Lib.hid (take_snoc' L1 q1)
      have HzR := Lib.hid (take_snoc' R1 q2)
      have HRc := Lib.hid (fun W (hb : Below wr.heap.size wr W) => cell_keep hb rcell)
      have HB40 := Lib.hid (trmOk_iff.1 okx)
      have HB41 := Lib.hid (trmOk_iff.1 oky)
      have HF := Lib.hid (And.intro fx fy)
      have HVv := Lib.hid (And.intro vx vy)
      have HOk := Lib.hid (And.intro okx oky)
      have HNE := Lib.hid hne
      clear hSC hq1 hq2 hLC hRC wx wy okx oky fx fy vx vy hst hne rcell
      have HNb := Lib.hid (show la.block ≠ ra.block from fun e => HNe.out ra.block rfl (congrArg some e))
      clear HNe
      rw [List.length_append, List.length_singleton] at HL HR l1 r1 ⊢
      rw [List.length_append, List.length_singleton]
      obtain ⟨m1, hm1⟩ : ∃ m, L1.length = m := ⟨_, rfl⟩
      obtain ⟨m2, hm2⟩ : ∃ m, R1.length = m := ⟨_, rfl⟩
      rw [hm1] at HL HzL lcell l1 hL1l ⊢
      rw [hm2] at HR HzR HRc r1 hR1l ⊢
      have HM1 := Lib.hid hm1
      have HM2 := Lib.hid hm2
      clear hm1 hm2
      go_upto_region 14 with (first | (go_at_call 55; (with_reducible refine HWx.out.mono ?_); rintro e w1 ⟨xv, rfl, hX, hb⟩; obtain ⟨xa, nx, kx, rfl, hnx, hnx2, hnx3, hnx4⟩ := S_open hX; have HX := Lib.hid hX; have HB1 := Lib.hid hb; have rcell := HRc.out _ hb; clear hX hb)
                                    | (go_at_call 55; (with_reducible refine (HWy.out _ HB1.out).mono ?_); rintro e w2 ⟨yv, rfl, hY, hb⟩; obtain ⟨ya, ny, ky, rfl, hny, hny2, hny3, hny4⟩ := S_open hY; have HY := Lib.hid hY; have HB2 := Lib.hid hb; clear hY hb)
                                    | (refine wp_sub_own AppI.trm rfl rfl (Kd.O_ext (bel_trans HB1.out HB2.out) HL.out) rfl rfl (by omega) (by rw [List.length_append, HM1.out]; simp; omega) ?_; intro v8 hv8 hb8; rw [HzL.out _ (by omega)] at hv8; have HL2 := Lib.hid hv8; have HLb := Lib.hid hb8; clear hv8 hb8)
                                    | (refine wp_sub_own AppI.trm rfl rfl (Kd.O_ext (bel_trans HB1.out HB2.out) HR.out) rfl rfl (by omega) (by rw [List.length_append, HM2.out]; simp; omega) ?_; intro v9 hv9 hb9; rw [HzR.out _ (by omega)] at hv9; have HR2 := Lib.hid hv9; have HRb := Lib.hid hb9; clear hv9 hb9))
      have HX2 := Lib.hid (Kd.S_ext HB2.out HX.out)
      obtain ⟨cx1, cx2, cx3⟩ := S_cells HX2.out
      obtain ⟨cy1, cy2, cy3⟩ := S_cells HY.out
      have HB := Lib.hid (bel_trans HB1.out HB2.out)
      have HS2 := Lib.hid (Kd.O_ext HB.out HS.out)
      have HW2 := Lib.hid (HW.out.call Hb.out HB.out)
      have hw2 := Lib.hid (Nat.le_trans Hb.out HW2.out.bel.size)
      have HN2 := Lib.hid (show ∀ k, v9.ownBlock = some k → v8.ownBlock ≠ some k from fun k h e => HNb.out (by
        rw [HRb.out] at h; rw [HLb.out] at e
        have h : some ra.block = some k := h
        have e : some la.block = some k := e
        rw [← e] at h; exact (Option.some.inj h).symm))
      clear HX HB1 HLb HRb HNb
      have hv2 := HI.out.b.vin
      have HVin := Lib.hid hv2
      clear hv2
      have hsl : ∀ v u, getB s v = some u → u.length ≤ 1000000000 := fun v u hg => by have := (trmOk_iff.1 (HI.out.b.trm v u hg)).2.1; omega
      have hxl : (x :: xs).length ≤ 40 := HB40.out.2.1
      have hyl : (y :: ys).length ≤ 40 := HB41.out.2.1
      have HBnL := Lib.hid (fun W (hb : Below w2.heap.size w2 W) => bind_no V b s _ x.n (y :: ys) _ W (Kd.O_ext hb HS2.out) hslen (Kd.S_ext hb HY.out) HVin.out HVv.out.2 hVl (by omega) hsl (Nat.le_trans hw2.out hb.size))
      have HByL := Lib.hid (fun W (hb : Below w2.heap.size w2 W) => bind_yes V b s _ x.n (y :: ys) _ W (Kd.O_ext hb HS2.out) hslen (Kd.S_ext hb HY.out) HVin.out HVv.out.2 hVl (by omega) hsl (Nat.le_trans hw2.out hb.size))
      have HBnR := Lib.hid (fun W (hb : Below w2.heap.size w2 W) => bind_no V b s _ y.n (x :: xs) _ W (Kd.O_ext hb HS2.out) hslen (Kd.S_ext hb HX2.out) HVin.out HVv.out.1 hVl (by omega) hsl (Nat.le_trans hw2.out hb.size))
      have HByR := Lib.hid (fun W (hb : Below w2.heap.size w2 W) => bind_yes V b s _ y.n (x :: xs) _ W (Kd.O_ext hb HS2.out) hslen (Kd.S_ext hb HX2.out) HVin.out HVv.out.1 hVl (by omega) hsl (Nat.le_trans hw2.out hb.size))
      clear hsl
      rcases HST.out with ⟨k1, rfl, hU1, hI1⟩ | ⟨k1, hne, hR, hr⟩ | ⟨k1, hne, hR, hU1, hI1⟩ | ⟨k1, k2, hR, hr⟩ | ⟨k1, k2, hR, hU1, hI1⟩ | ⟨k1, k2, hne, hr⟩ | ⟨k1, k2, rfl, hU1, hI1⟩
      · -- the same variable
        have e1 : (x.k == 1) = true := beq_iff_eq.2 k1
        have HU1 := Lib.hid hU1
        have HI1 := Lib.hid hI1
        clear k1 hU1 hI1
        go_quiet (fail)
        go_wp2
        go_roundg k
        case measure => omega
        case rel => exact ⟨s, ps, L1, R1, HU1, HI1, HL1, HR1, Lib.hid (Kd.O_ext (bel_drewN (Below.refl _ _) _) HS2.out), Lib.hid (Kd.O_ext (bel_drewN (Below.refl _ _) _) HL2.out), Lib.hid (Kd.O_ext (bel_drewN (Below.refl _ _) _) HR2.out), HN2, Lib.hid (HW2.out.call Hb.out (bel_drewN (Below.refl _ _) _))⟩
      · -- a variable that leads to itself
        have e1 : (x.k == 1) = true := beq_iff_eq.2 k1
        have HRr := Lib.hid hR
        have hr := Lib.hid hr
        have hcc := cell_neb (Ne.symm hne)
        clear k1 hne hR
        rcases hcc with e2 | ⟨e2, e3⟩ | ⟨e2, e3, e4⟩
        all_goals
          go_quiet (fail)
          go_wp2_with (go_at_call 56; (with_reducible refine (HBnL.out _ (bel_drewN (Below.refl _ _) _) HRr.out).mono ?_); rintro e w3 ⟨rv, rfl, hw3⟩; have HW3 := Lib.hid hw3; clear hw3)
          go_ret2
          exact .no hr.out (((HW2.out.call Hb.out (bel_drewN (Below.refl _ _) _)).trans HW3.out).alloc Hb.out _)
      · -- a variable is bound
        have e1 : (x.k == 1) = true := beq_iff_eq.2 k1
        have HRr := Lib.hid hR
        have HU1 := Lib.hid hU1
        have HI1 := Lib.hid hI1
        have hcc := cell_neb (Ne.symm hne)
        clear k1 hne hR hU1 hI1
        rcases hcc with e2 | ⟨e2, e3⟩ | ⟨e2, e3, e4⟩
        all_goals
          go_quiet (fail)
          go_wp2_with (go_at_call 56; (with_reducible refine (HByL.out _ (bel_drewN (Below.refl _ _) _) HRr.out).mono ?_); rintro e w3 ⟨rv, rfl, ho3, hw3⟩; have HO3 := Lib.hid ho3; have HW3 := Lib.hid hw3; clear ho3 hw3)
          go_roundg k
          case measure => omega
          case rel => exact ⟨_, ps, L1, R1, HU1, HI1, HL1, HR1, HO3, Lib.hid (HW3.out.O (Kd.O_ext (bel_drewN (Below.refl _ _) _) HL2.out) trmE), Lib.hid (HW3.out.O (Kd.O_ext (bel_drewN (Below.refl _ _) _) HR2.out) trmE), HN2, Lib.hid ((HW2.out.call Hb.out (bel_drewN (Below.refl _ _) _)).trans HW3.out)⟩
      · have e1 : (x.k == 1) = false := beq_eq_false_iff_ne.2 k1
        have e2 : (y.k == 1) = true := beq_iff_eq.2 k2
        have HRr := Lib.hid hR
        have hr := Lib.hid hr
        clear k1 k2 hR
        all_goals
          go_quiet (fail)
          go_wp2_with (go_at_call 56; (with_reducible refine (HBnR.out _ (bel_drewN (Below.refl _ _) _) HRr.out).mono ?_); rintro e w3 ⟨rv, rfl, hw3⟩; have HW3 := Lib.hid hw3; clear hw3)
          go_ret2
          exact .no hr.out (((HW2.out.call Hb.out (bel_drewN (Below.refl _ _) _)).trans HW3.out).alloc Hb.out _)
      · have e1 : (x.k == 1) = false := beq_eq_false_iff_ne.2 k1
        have e2 : (y.k == 1) = true := beq_iff_eq.2 k2
        have HRr := Lib.hid hR
        have HU1 := Lib.hid hU1
        have HI1 := Lib.hid hI1
        clear k1 k2 hR hU1 hI1
        all_goals
          go_quiet (fail)
          go_wp2_with (go_at_call 56; (with_reducible refine (HByR.out _ (bel_drewN (Below.refl _ _) _) HRr.out).mono ?_); rintro e w3 ⟨rv, rfl, ho3, hw3⟩; have HO3 := Lib.hid ho3; have HW3 := Lib.hid hw3; clear ho3 hw3)
          go_roundg k
          case measure => omega
          case rel => exact ⟨_, ps, L1, R1, HU1, HI1, HL1, HR1, HO3, Lib.hid (HW3.out.O (Kd.O_ext (bel_drewN (Below.refl _ _) _) HL2.out) trmE), Lib.hid (HW3.out.O (Kd.O_ext (bel_drewN (Below.refl _ _) _) HR2.out) trmE), HN2, Lib.hid ((HW2.out.call Hb.out (bel_drewN (Below.refl _ _) _)).trans HW3.out)⟩
      · -- two names
        have e1 : (x.k == 1) = false := beq_eq_false_iff_ne.2 k1
        have e0 : (y.k == 1) = false := beq_eq_false_iff_ne.2 k2
        have hr := Lib.hid hr
        have hcc := cell_neb hne
        clear k1 k2 hne
        rcases hcc with e2 | ⟨e2, e3⟩ | ⟨e2, e3, e4⟩
        all_goals
          go_quiet (fail)
          go_upto_region 19 with (fail)
          go_quiet (fail)
          go_wp2
          go_ret2
          exact .no hr.out ((HW2.out.call Hb.out (bel_drewN (Below.refl _ _) _)).alloc Hb.out _)
      · -- one name: its arguments
        have e1 : (x.k == 1) = false := beq_eq_false_iff_ne.2 k1
        have HU1 := Lib.hid hU1
        have HI1 := Lib.hid hI1
        have hcx := List.all_eq_true.1 HB40.out.2.2 x List.mem_cons_self
        have hnb := cellOk_n hcx
        clear k1 k2 hU1 hI1 HBnL HByL HBnR HByR
        by_cases k3 : x.k = 3
        · have e3 : (x.k == 3) = true := beq_iff_eq.2 k3
          have har : ar x = x.n := by unfold ar; rw [if_pos k3]
          have hr03 := ar_of_ok hcx
          obtain ⟨m, hm⟩ := Int.eq_ofNat_of_zero_le hr03.1
          have hxn : x.n = (m : Int) := by rw [← har, hm]
          have hm3 : m ≤ 3 := by omega
          obtain ⟨aX, haX⟩ : ∃ l, argsOf (ar x).toNat xs = l := ⟨_, rfl⟩
          obtain ⟨aY, haY⟩ : ∃ l, argsOf (ar x).toNat ys = l := ⟨_, rfl⟩
          have hlX : aX.length = m := by rw [← haX, argsOf_len, hm]; rfl
          have hlY : aY.length = m := by rw [← haY, argsOf_len, hm]; rfl
          have HAx := Lib.hid (fun (j : Nat) (a : Trm) (hj : aX[j]? = some a) W (hS : Kd.cell.S 47 W _ (x :: xs)) => arg_c x xs a j (.slice (some xa) nx kx) W hS HOk.out.1 (by rw [haX]; exact hj))
          have HAy := Lib.hid (fun (j : Nat) (a : Trm) (hj : aY[j]? = some a) W (hS : Kd.cell.S 47 W _ (x :: ys)) => arg_c x ys a j (.slice (some ya) ny ky) W hS HOk.out.2 (by rw [haY]; exact hj))
          rw [haX, haY] at HU1 HI1
          rw [hxn] at cx2 cy2
          have HlX := Lib.hid hlX
          have HlY := Lib.hid hlY
          clear haX haY hm har hxn hnb k3 hlX hlY hr03
          go_quiet (fail)
          go_upto_region 19 with (fail)
          go_quiet (fail)
          go_wp2
          go_loopw [8, 9, 13] (fun v8 v9 v13 wr => ∃ (j : Nat) (LL RR : List Trm), v13 = .int .i64 ((j : Int) - 1) ∧ j ≤ m ∧ Hid (LL = L1 ++ (aX.drop j).reverse) ∧ Hid (RR = R1 ++ (aY.drop j).reverse) ∧ Hid (Kd.trm.O 28 wr w.heap.size v8 LL) ∧ Hid (Kd.trm.O 28 wr w.heap.size v9 RR) ∧ Hid (∀ k, v9.ownBlock = some k → v8.ownBlock ≠ some k) ∧ Hid (Wrote b 115 w wr) ∧ Hid (Kd.cell.S 47 wr (.slice (some xa) nx kx) (x :: xs)) ∧ Hid (Kd.cell.S 47 wr (.slice (some ya) ny ky) (x :: ys)) ∧ Hid (Kd.bind.O 115 wr b (.slice SB s.length sc) s)) (fun _ _ v13 _ => (intOf v13 + 1).toNat)
          case atStart => exact ⟨m, L1, R1, by go_num, Nat.le_refl _, Lib.hid (by rw [List.drop_of_length_le (by rw [HlX.out]; exact Nat.le_refl _)]; simp), Lib.hid (by rw [List.drop_of_length_le (by rw [HlY.out]; exact Nat.le_refl _)]; simp), Lib.hid (Kd.O_ext (bel_drewN (Below.refl _ _) _) HL2.out), Lib.hid (Kd.O_ext (bel_drewN (Below.refl _ _) _) HR2.out), HN2, Lib.hid (HW2.out.call Hb.out (bel_drewN (Below.refl _ _) _)), Lib.hid (Kd.S_ext (bel_drewN (Below.refl _ _) _) HX2.out), Lib.hid (Kd.S_ext (bel_drewN (Below.refl _ _) _) HY.out), Lib.hid (Kd.O_ext (bel_drewN (Below.refl _ _) _) HS2.out)⟩
          case round =>
            clear cx1 cx2 cx3 cy1 cy2 cy3
            obtain ⟨j, LL, RR, rfl, hj, HLL, HRR, HOL, HOR, HN, HWr, HXr, HYr, HSr⟩ := hrel
            obtain ⟨dx1, dx2, dx3⟩ := S_cells HXr.out
            cases j with
            | zero =>
              have ez : decide ((0 : Int) ≤ -1) = false := by decide
              go_wp2
              go_roundg k
              case measure => omega
              case rel =>
                exact ⟨s, _, LL, RR, HU1, HI1, Lib.hid (by rw [HLL.out, List.drop_zero, List.map_append, List.reverse_append, zip_fst (by rw [HlX.out, HlY.out]), HL1.out]), Lib.hid (by rw [HRR.out, List.drop_zero, List.map_append, List.reverse_append, zip_snd (by rw [HlX.out, HlY.out]), HR1.out]), HSr, HOL, HOR, HN, HWr⟩
            | succ j =>
              obtain ⟨a1, ha1⟩ : ∃ a, aX[j]? = some a := ⟨_, List.getElem?_eq_getElem (by rw [HlX.out]; omega)⟩
              obtain ⟨a2, ha2⟩ : ∃ a, aY[j]? = some a := ⟨_, List.getElem?_eq_getElem (by rw [HlY.out]; omega)⟩
              have HA1 := Lib.hid (HAx.out j a1 ha1)
              have HA2 := Lib.hid (HAy.out j a2 ha2)
              have HLL2 := Lib.hid (show LL ++ [a1] = L1 ++ (aX.drop j).reverse by rw [HLL.out, drop_snoc ha1, List.append_assoc])
              have HRR2 := Lib.hid (show RR ++ [a2] = R1 ++ (aY.drop j).reverse by rw [HRR.out, drop_snoc ha2, List.append_assoc])
              have hLLl : LL.length ≤ ps.length + 3 := by rw [HLL.out, List.length_append, List.length_reverse, List.length_drop, HlX.out, HM1.out]; omega
              have hRRl : RR.length ≤ ps.length + 3 := by rw [HRR.out, List.length_append, List.length_reverse, List.length_drop, HlY.out, HM2.out]; omega
              clear ha1 ha2
              go_wp2_with (first | (go_at_call 57; (with_reducible refine (HA1.out _ HXr.out).mono ?_); rintro e w5 ⟨av, rfl, hO5, hb5⟩; have HS5 := Lib.hid (Kd.O_read hO5); obtain ⟨AB, cA, rfl, g1, g2, -⟩ := Kd.O_read hO5; have HB5 := Lib.hid hb5; have HY5 := Lib.hid (Kd.S_ext hb5 HYr.out); have hsz5 := Lib.hid (HWr.out.bel.size); clear hO5 hb5)
                                 | (go_at_call 57; (with_reducible refine (HA2.out _ HY6.out).mono ?_); rintro e w7 ⟨bv, rfl, hO7, hb7⟩; have HS7 := Lib.hid (Kd.O_read hO7); obtain ⟨BB, cB, rfl, g3, g4, -⟩ := Kd.O_read hO7; have HB7 := Lib.hid hb7; clear hO7 hb7)
                                 | (at_builtin; refine wp_app AppI.trm rfl rfl (Kd.O_alloc _ (Kd.O_ext HB5.out HOL.out)) rfl (Kd.S_lit Kd.trm _ (x := a1) (cs := [.slice AB a1.length cA]) ⟨_, rfl, HS5.out⟩ rfl) rfl ?c1 ?c2 ?_; (case c1 => simp; omega); (case c2 => have h1 := hsz5.out; have h2 := HB5.out.size; simp; omega); intro v8b w6 hg; have HG6 := Lib.hid hg; have HY6 := Lib.hid ((hg.but (Kd.O_alloc _ (Kd.O_ext HB5.out HOL.out))).S (Kd.S_alloc _ HY5.out) cellE); have hsz6 := Lib.hid hg.grown.size; clear hg)
                                 | (at_builtin; refine wp_app AppI.trm rfl rfl (Kd.O_alloc _ (Kd.O_ext HB7.out (HG6.out.O_far' (Kd.O_alloc _ (Kd.O_ext HB5.out HOL.out)) (Kd.O_alloc _ (Kd.O_ext HB5.out HOR.out)) HN.out trmS))) rfl (Kd.S_lit Kd.trm _ (x := a2) (cs := [.slice BB a2.length cB]) ⟨_, rfl, HS7.out⟩ rfl) rfl ?c3 ?c4 ?_; (case c3 => simp; omega); (case c4 => have h1 := hsz5.out; have h2 := HB5.out.size; have h3 := hsz6.out; have h4 := HB7.out.size; simp at h3 ⊢; omega); intro v9b w8 hg; have HG8 := Lib.hid hg; clear hg))
              have HOL5 := Lib.hid (Kd.O_alloc (.cells #[.slice AB a1.length cA] 28) (Kd.O_ext HB5.out HOL.out))
              have HOR5 := Lib.hid (Kd.O_alloc (.cells #[.slice AB a1.length cA] 28) (Kd.O_ext HB5.out HOR.out))
              have HOR6 := Lib.hid (HG6.out.O_far' HOL5.out HOR5.out HN.out trmS)
              have HN6 := Lib.hid (HG6.out.apart HOR5.out HN.out)
              have HOR7 := Lib.hid (Kd.O_alloc (.cells #[.slice BB a2.length cB] 28) (Kd.O_ext HB7.out HOR6.out))
              have HOL7 := Lib.hid (Kd.O_alloc (.cells #[.slice BB a2.length cB] 28) (Kd.O_ext HB7.out HG6.out.own))
              have HN7 := fun (k : Nat) (h : v8b.ownBlock = some k) => fun e => HN6.out k e h
              have HOL8 := Lib.hid (HG8.out.O_far' HOR7.out HOL7.out HN7 trmS)
              have HN8 := HG8.out.apart HOL7.out HN7
              have HW5 := (HWr.out.call Hb.out HB5.out).alloc Hb.out (.cells #[.slice AB a1.length cA] 28)
              have HW6 := HW5.above HG6.out HOL5.out Hb.out
              have HW7 := (HW6.call Hb.out HB7.out).alloc Hb.out (.cells #[.slice BB a2.length cB] 28)
              have HW8 := HW7.above HG8.out HOR7.out Hb.out
              have kb6 := HG6.out.but HOL5.out
              have kb8 := HG8.out.but HOR7.out
              refine ⟨⟨j, LL ++ [a1], RR ++ [a2], by go_num, by omega, HLL2, HRR2, HOL8, Lib.hid HG8.out.own, Lib.hid (fun k h e => HN8 k e h), Lib.hid HW8, Lib.hid ?_, Lib.hid ?_, Lib.hid ?_⟩, by simp [intOf]⟩
              · exact kb8.S (Kd.S_alloc _ (Kd.S_ext HB7.out (kb6.S (Kd.S_alloc _ (Kd.S_ext HB5.out HXr.out)) cellE))) cellE
              · exact kb8.S (Kd.S_alloc _ (Kd.S_ext HB7.out HY6.out)) cellE
              · exact kb8.O (Kd.O_alloc _ (Kd.O_ext HB7.out (kb6.O (Kd.O_alloc _ (Kd.O_ext HB5.out HSr.out)) bindE))) bindE
        · have e3 : (x.k == 3) = false := beq_eq_false_iff_ne.2 k3
          have har : (ar x).toNat = 0 := by unfold ar; rw [if_neg k3]; rfl
          rw [har] at HU1 HI1
          have HU1 : Hid (U k s ps = some r) := HU1
          have HI1 : Hid (Uinv V s ps) := HI1
          clear har k3 hcx
          go_quiet (fail)
          go_upto_region 19 with (fail)
          go_quiet (fail)
          go_wp2
          go_loopw [8, 9, 13] (fun v8 v9 v13 wr => Hid (Kd.trm.O 28 w2 w.heap.size v8 L1) ∧ Hid (Kd.trm.O 28 w2 w.heap.size v9 R1) ∧ Hid (∀ k, v9.ownBlock = some k → v8.ownBlock ≠ some k) ∧ Hid (Below w2.heap.size w2 wr)) (fun _ _ _ _ => 0)
          case atStart => exact ⟨HL2, HR2, HN2, Lib.hid (bel_drewN (Below.refl _ _) _)⟩
          case round =>
            obtain ⟨HL2, HR2, HN2, HBw⟩ := hrel
            clear cx1 cx2 cx3 cy1 cy2 cy3
            obtain ⟨dx1, dx2, dx3⟩ := S_cells (Kd.S_ext HBw.out HX2.out)
            go_wp2
            go_roundg k
            case measure => omega
            case rel => exact ⟨s, ps, L1, R1, HU1, HI1, HL1, HR1, Lib.hid (Kd.O_ext HBw.out HS2.out), Lib.hid (Kd.O_ext HBw.out HL2.out), Lib.hid (Kd.O_ext HBw.out HR2.out), HN2, Lib.hid (HW2.out.call Hb.out HBw.out)⟩
end Go.Proofs.YtjnangiggnmkoaaGreatDoor
