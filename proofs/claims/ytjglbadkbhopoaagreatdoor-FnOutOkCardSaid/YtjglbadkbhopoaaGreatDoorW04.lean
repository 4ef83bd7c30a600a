/- Lemmas and contracts for FnOutOk, part 4. -/
import Derived.Test.YtjglbadkbhopoaaGreatDoorW03
import Derived.Shelf.Strings.Builder1
import Derived.Shelf.Strings.Trim
import Derived.Shelf.Small.Utf8
import Derived.Shelf.Small.Strs
import Derived.Shelf.Strings.BuilderF
import Derived.Shelf.Strings.BuilderK
import Derived.Shelf.Strconv.Itoa0
import Derived.Shelf.Strconv.Itoa1
import Derived.Shelf.LaysM
import Derived.Shelf.Strconv.Itoa2
import Derived.Shelf.Strconv.Itoa3
import Derived.Shelf.Strings.Search1
import Derived.Shelf.Unicode.Decode
import Derived.Shelf.Strings.Runes
import Derived.Shelf.Strings.AsciiSet
import Derived.Shelf.Unicode.DecodeSlow
import Derived.Shelf.Unicode.DecodeAny
import Derived.Shelf.Slices.Turned
import Derived.Test.YtjglbadkbhopoaaGreatDoorProg
import Derived.Lib.SlTrimSet
import Derived.Shelf.Strings.SlTrimAscii
import Derived.Test.YtjglbadkbhopoaaGreatDoorW02
namespace Go.Proofs.YtjglbadkbhopoaaGreatDoor
open Go.RowKit
set_option maxRecDepth 100000
set_option maxHeartbeats 2000000
set_option linter.unusedVariables false
abbrev Kd.trm : Kd Trm := Kd.slice 47 Kd.cell
theorem AppI.trm : AppI Tryz.prog 78 23 Kd.trm := ⟨Tryz.underlying78, ⟨.slice none 0 0, 24, by kernel_rfl, rfl, by decide⟩, by decide, fun q hq => by
  have : q = 47 := by simpa [Kd.slice, Kd.cell] using hq
  rw [this]; decide⟩
theorem trm_at {e : Nat} {w : World} {A : Option Addr} {L : List Trm} (h : Kd.trm.C e w A L) {i : Nat} {t : Trm} (hi : L[i]? = some t) :
    ∃ ad v, A = some ad ∧ w.cell? (ad.add i) = some v ∧ Kd.cell.S 47 w v t := by
  obtain ⟨ad, cs, _, _, ea, _, hk, hc⟩ := h i t hi
  obtain ⟨v, rfl, hS⟩ := hk
  have := hc 0 _ rfl
  rw [show i * Kd.trm.sz + 0 = i from by show i * 1 + 0 = i; omega] at this
  exact ⟨ad, v, ea, this, hS⟩
def UniPost (b : Nat) (w : World) (r : Option Binds) (e : Ending) (w' : World) : Prop :=
  ∃ rv, (match r with
    | none => e = .returned (.tuple #[rv, .bool false])
    | some s' => e = .returned (.tuple #[rv, .bool true]) ∧ Kd.bind.O 107 w' b rv s') ∧ Wrote b 107 w w'
theorem UniPost.no {b : Nat} {w w' : World} {rv : Value} {r : Option Binds} (hr : r = none) (h : Wrote b 107 w w') : UniPost b w r (.returned (.tuple #[rv, .bool false])) w' := by subst hr; exact ⟨rv, rfl, h⟩
theorem UniPost.yes {b : Nat} {w w' : World} {rv : Value} {r : Option Binds} {s' : Binds} (hr : r = some s') (ho : Kd.bind.O 107 w' b rv s') (h : Wrote b 107 w w') : UniPost b w r (.returned (.tuple #[rv, .bool true])) w' := by subst hr; exact ⟨rv, ⟨rfl, ho⟩, h⟩
theorem cell_ne {x y : Cell} (h : x ≠ y) : (x.k == y.k) = false ∨ (x.k = y.k ∧ (x.n == y.n) = false) ∨ (x.k = y.k ∧ x.n = y.n ∧ (x.s.toList == y.s.toList) = false) := by
  by_cases h1 : x.k = y.k
  · by_cases h2 : x.n = y.n
    · refine .inr (.inr ⟨h1, h2, ?_⟩)
      rw [Lib.toList_data, Lib.toList_data]
      refine beq_eq_false_iff_ne.2 (fun e => h ?_)
      obtain ⟨k1, n1, s1⟩ := x
      obtain ⟨k2, n2, s2⟩ := y
      obtain rfl : k1 = k2 := h1
      obtain rfl : n1 = n2 := h2
      have e : s1 = s2 := ByteArray.ext (Array.toList_inj.1 e)
      rw [e]
    · exact .inr (.inl ⟨h1, beq_eq_false_iff_ne.2 h2⟩)
  · exact .inl (beq_eq_false_iff_ne.2 h1)
theorem cell_neb {x y : Cell} (h : x ≠ y) : (x.k == y.k) = false ∨ ((x.k == y.k) = true ∧ (x.n == y.n) = false) ∨ ((x.k == y.k) = true ∧ (x.n == y.n) = true ∧ (x.s.toList == y.s.toList) = false) := by
  rcases cell_ne h with h | ⟨h1, h2⟩ | ⟨h1, h2, h3⟩
  · exact .inl h
  · exact .inr (.inl ⟨beq_iff_eq.2 h1, h2⟩)
  · exact .inr (.inr ⟨beq_iff_eq.2 h1, beq_iff_eq.2 h2, h3⟩)
theorem trmE : ∀ q ∈ 23 :: Kd.trm.E, q ≠ 107 := by
  intro q hq
  simp [Kd.slice, Kd.cell] at hq
  rcases hq with rfl | rfl <;> decide
theorem trmS : ∀ q ∈ Kd.trm.E, q ≠ 23 := by
  intro q hq
  simp [Kd.slice, Kd.cell] at hq
  subst hq; decide
theorem cellE : ∀ q ∈ 47 :: Kd.cell.E, q ≠ 23 := by
  intro q hq
  simp [Kd.cell] at hq
  subst hq; decide
theorem bindE : ∀ q ∈ 107 :: Kd.bind.E, q ≠ 23 := by
  intro q hq
  simp [Kd.pair, Kd.int, Kd.slice, Kd.cell] at hq
  rcases hq with rfl | rfl <;> decide
theorem cellOk_n {c : Cell} (h : cellOk c = true) : -99999 ≤ c.n ∧ c.n ≤ 99999 := by
  unfold cellOk at h
  split at h
  · simp at h; omega
  · split at h
    · simp at h; omega
    · split at h
      · simp at h; omega
      · cases h
theorem zip_fst {α β : Type} {l : List α} {m : List β} (h : l.length = m.length) : (l.zip m).map (·.1) = l := by
  rw [← List.unzip_fst, List.unzip_zip h]
theorem zip_snd {α β : Type} {l : List α} {m : List β} (h : l.length = m.length) : (l.zip m).map (·.2) = m := by
  rw [← List.unzip_snd, List.unzip_zip h]
theorem drop_snoc {α : Type} {l : List α} {j : Nat} {a : α} (h : l[j]? = some a) : (l.drop j).reverse = (l.drop (j + 1)).reverse ++ [a] := by
  obtain ⟨hl, e⟩ := List.getElem?_eq_some_iff.1 h
  rw [List.drop_eq_getElem_cons hl, e, List.reverse_cons]
theorem S_open {w : World} {v : Value} {c : Cell} {r : Trm} (h : Kd.cell.S 47 w v (c :: r)) : ∃ ad n k, v = .slice (some ad) n k ∧ 0 < n ∧ n ≤ k ∧ k ≤ maxLen ∧ Hid (n = r.length + 1) := by
  obtain ⟨A, k, rfl, h1, h2, hC⟩ := h
  obtain ⟨ad, rfl, -⟩ := cell_hd hC
  exact ⟨ad, _, k, rfl, by simp, h1, h2, Lib.hid (by simp)⟩
theorem S_cells {w : World} {ad : Addr} {n k : Nat} {c : Cell} {r : Trm} (h : Kd.cell.S 47 w (.slice (some ad) n k) (c :: r)) :
    w.cell? ad = some (.int .i64 c.k) ∧ w.cell? ⟨ad.block, ad.off + 1, none⟩ = some (.int .i64 c.n) ∧ w.cell? ⟨ad.block, ad.off + 2, none⟩ = some (.string c.s) := by
  obtain ⟨A, k, ev, h1, h2, hC⟩ := h
  obtain ⟨ad, rfl, h⟩ := cell_hd hC
  injection ev with e1 _ _
  injection e1 with e1
  subst e1; exact h
theorem take_snoc' {α : Type} (l : List α) (a : α) : ∀ z, z = l.length → (l ++ [a]).take z = l := by
  rintro z rfl
  rw [List.take_left']; rfl
theorem unify_c (V : List Int) (n b : Nat) (s0 : Binds) (sv av bv : Value) (t1 t2 : Trm) (r : Option Binds) (w : World) (hU : U n s0 [(t1, t2)] = some r) (hI : Uinv V s0 [(t1, t2)]) (hVl : V.length ≤ 4000000)
    (hs : Kd.bind.O 107 w b sv s0) (h1 : Kd.cell.S 47 w av t1) (h2 : Kd.cell.S 47 w bv t2) (hb : b ≤ w.heap.size) :
    Calls Tryz.prog 24 #[sv, av, bv] w (UniPost b w r) := by
  have HU := Lib.hid hU
  have HI := Lib.hid hI
  have HS := Lib.hid hs
  have H1 := Lib.hid h1
  have H2 := Lib.hid h2
  have Hb := Lib.hid hb
  obtain ⟨A1, c1, rfl, p1, p2, hC1⟩ := h1
  obtain ⟨A2, c2, rfl, p3, p4, hC2⟩ := h2
  obtain ⟨A0, c0, rfl, p5, p6, hC0⟩ := Kd.O_read hs
  clear hU hI hs hb hC0 hC1 hC2
  go_enter Tryz.func24, Tryz.ntmps24
  go_wp2
  go_loopg [0, 8, 9] n (fun k v0 v8 v9 wr => ∃ (s : Binds) (ps : List (Trm × Trm)) (L R : List Trm), Hid (U k s ps = some r) ∧ Hid (Uinv V s ps) ∧ Hid (L = (ps.map (·.1)).reverse) ∧ Hid (R = (ps.map (·.2)).reverse) ∧ Hid (Kd.bind.O 107 wr b v0 s) ∧ Hid (Kd.trm.O 23 wr w.heap.size v8 L) ∧ Hid (Kd.trm.O 23 wr w.heap.size v9 R) ∧ Hid (∀ k, v9.ownBlock = some k → v8.ownBlock ≠ some k) ∧ Hid (Wrote b 107 w wr))
  case atStart =>
    refine ⟨s0, [(t1, t2)], [t1], [t2], HU, HI, Lib.hid rfl, Lib.hid rfl, Lib.hid (Kd.O_alloc _ (Kd.O_alloc _ HS.out)), Lib.hid (Kd.O_alloc _ (Kd.O_lit Kd.trm _ (x := t1) (cs := [.slice A1 t1.length c1]) ⟨_, rfl, H1.out⟩ rfl (Nat.le_refl _))), Lib.hid (Kd.O_lit Kd.trm _ (x := t2) (cs := [.slice A2 t2.length c2]) ⟨_, rfl, Kd.S_alloc _ H2.out⟩ (by simp) (by omega)), Lib.hid (fun k hk e => by simp [Value.ownBlock] at hk e; omega), Lib.hid (.of_below Hb.out (bel_alloc (bel_alloc (Below.refl _ _) _) _))⟩
  case round =>
    obtain ⟨s, ps, L, R, HU, HI, HLe, HRe, HS, HL, HR, HNe, HW⟩ := hrel
    cases ps with
    | nil =>
      obtain rfl : L = [] := HLe.out
      obtain ⟨LB, lc, rfl, l1, l2, -⟩ := Kd.O_read HL.out
      have hr := Lib.hid (show r = some s by
        have := HU.out
        cases gk with
        | zero => simp [U] at this
        | succ k => rw [U] at this; exact (Option.some.inj this).symm)
      go_wp2
      go_ret2
      exact .yes hr.out HS.out HW.out
    | cons p ps =>
      obtain ⟨q1, q2⟩ := p
      obtain ⟨k, rfl⟩ : ∃ k, gk = k + 1 := by
        cases gk with
        | zero => have := HU.out; simp [U] at this
        | succ k => exact ⟨k, rfl⟩
      obtain ⟨x, xs, y, ys, wx, wy, okx, oky, vx, vy, fx, fy, hst⟩ := U_step HU.out HI.out
      have HST := Lib.hid hst
      have hslen := Nat.le_trans HI.out.b.len hVl
      have hplen := HI.out.len
      rw [List.length_cons] at hplen
      obtain ⟨L1, rfl⟩ : ∃ L1, L = L1 ++ [q1] := ⟨_, HLe.out.trans (by rw [List.map_cons, List.reverse_cons])⟩
      obtain ⟨R1, rfl⟩ : ∃ R1, R = R1 ++ [q2] := ⟨_, HRe.out.trans (by rw [List.map_cons, List.reverse_cons])⟩
      have HL1 := Lib.hid (show L1 = (ps.map (·.1)).reverse by have := HLe.out; rw [List.map_cons, List.reverse_cons] at this; exact List.append_cancel_right this)
      have HR1 := Lib.hid (show R1 = (ps.map (·.2)).reverse by have := HRe.out; rw [List.map_cons, List.reverse_cons] at this; exact List.append_cancel_right this)
      have hL1l : L1.length ≤ ps.length := by rw [HL1.out, List.length_reverse, List.length_map]; exact Nat.le_refl _
      have hR1l : R1.length ≤ ps.length := by rw [HR1.out, List.length_reverse, List.length_map]; exact Nat.le_refl _
      obtain ⟨LB, lc, rfl, l1, l2, hLC⟩ := Kd.O_read HL.out
      obtain ⟨RB, rc, rfl, r1, r2, hRC⟩ := Kd.O_read HR.out
      obtain ⟨SB, sc, rfl, s1, s2, hSC⟩ := Kd.O_read HS.out
      obtain ⟨la, lv, rfl, lcell, hq1⟩ := trm_at hLC (i := L1.length) (t := q1) (by rw [List.getElem?_append_right (Nat.le_refl _)]; simp)
      obtain ⟨ra, rv, rfl, rcell, hq2⟩ := trm_at hRC (i := R1.length) (t := q2) (by rw [List.getElem?_append_right (Nat.le_refl _)]; simp)
      have HQ2 := Lib.hid hq2
      have HSC := Lib.hid hSC
      have hne : ∀ v t, getB s v = some t → t ≠ [] := fun v t hg e => by have := HI.out.b.trm v t hg; rw [e] at this; simp [trmOk] at this
      have HWx := Lib.hid (walk_c k s SB sc q1 (x :: xs) lv wr hSC (by omega) hq1 wx hne)
      have HWy := Lib.hid (fun W hb => walk_c k s SB sc q2 (y :: ys) rv W (Kd.C_ext (w' := W) hb hSC) (by omega) (Kd.S_ext hb hq2) wy hne)
      have HzL := Lib.hid (take_snoc' L1 q1)
      have HzR := Lib.hid (take_snoc' R1 q2)
      have HRc := Lib.hid (fun W (hb : Below wr.heap.size wr W) => cell_keep hb rcell)
      have HB40 := Lib.hid (trmOk_iff.1 okx)
      have HB41 := Lib.hid (trmOk_iff.1 oky)
      have HF := Lib.hid (And.intro fx fy)
      have HVv := Lib.hid (And.intro vx vy)
      have HOk := Lib.hid (And.intro okx oky)
      have HNE := Lib.hid hne
      clear hSC hq1 hq2 hLC hRC wx wy okx oky fx fy vx vy hst hne rcell
      have HNb := Lib.hid (show la.block ≠ ra.block from fun e => HNe.out ra.block rfl (congrArg some e))
      clear HNe
      rw [List.length_append, List.length_singleton] at HL HR l1 r1 ⊢
      rw [List.length_append, List.length_singleton]
      obtain ⟨m1, hm1⟩ : ∃ m, L1.length = m := ⟨_, rfl⟩
      obtain ⟨m2, hm2⟩ : ∃ m, R1.length = m := ⟨_, rfl⟩
      rw [hm1] at HL HzL lcell l1 hL1l ⊢
      rw [hm2] at HR HzR HRc r1 hR1l ⊢
      have HM1 := Lib.hid hm1
      have HM2 := Lib.hid hm2
      clear hm1 hm2
      go_upto_region 14 with (first | (go_at_call 54; (with_reducible refine HWx.out.mono ?_); rintro e w1 ⟨xv, rfl, hX, hb⟩; obtain ⟨xa, nx, kx, rfl, hnx, hnx2, hnx3, hnx4⟩ := S_open hX; have HX := Lib.hid hX; have HB1 := Lib.hid hb; have rcell := HRc.out _ hb; clear hX hb)
                                    | (go_at_call 54; (with_reducible refine (HWy.out _ HB1.out).mono ?_); rintro e w2 ⟨yv, rfl, hY, hb⟩; obtain ⟨ya, ny, ky, rfl, hny, hny2, hny3, hny4⟩ := S_open hY; have HY := Lib.hid hY; have HB2 := Lib.hid hb; clear hY hb)
                                    | (refine wp_sub_own AppI.trm rfl rfl (Kd.O_ext (bel_trans HB1.out HB2.out) HL.out) rfl rfl (by omega) (by rw [List.length_append, HM1.out]; simp; omega) ?_; intro v8 hv8 hb8; rw [HzL.out _ (by omega)] at hv8; have HL2 := Lib.hid hv8; have HLb := Lib.hid hb8; clear hv8 hb8)
                                    | (refine wp_sub_own AppI.trm rfl rfl (Kd.O_ext (bel_trans HB1.out HB2.out) HR.out) rfl rfl (by omega) (by rw [List.length_append, HM2.out]; simp; omega) ?_; intro v9 hv9 hb9; rw [HzR.out _ (by omega)] at hv9; have HR2 := Lib.hid hv9; have HRb := Lib.hid hb9; clear hv9 hb9))
      have HX2 := Lib.hid (Kd.S_ext HB2.out HX.out)
      obtain ⟨cx1, cx2, cx3⟩ := S_cells HX2.out
      obtain ⟨cy1, cy2, cy3⟩ := S_cells HY.out
      have HB := Lib.hid (bel_trans HB1.out HB2.out)
      have HS2 := Lib.hid (Kd.O_ext HB.out HS.out)
      have HW2 := Lib.hid (HW.out.call Hb.out HB.out)
      have hw2 := Lib.hid (Nat.le_trans Hb.out HW2.out.bel.size)
      have HN2 := Lib.hid (show ∀ k, v9.ownBlock = some k → v8.ownBlock ≠ some k from fun k h e => HNb.out (by
        rw [HRb.out] at h; rw [HLb.out] at e
        have h : some ra.block = some k := h
        have e : some la.block = some k := e
        rw [← e] at h; exact (Option.some.inj h).symm))
      clear HX HB1 HLb HRb HNb
      have hv2 := HI.out.b.vin
      have HVin := Lib.hid hv2
      clear hv2
      have hsl : ∀ v u, getB s v = some u → u.length ≤ 1000000000 := fun v u hg => by have := (trmOk_iff.1 (HI.out.b.trm v u hg)).2.1; omega
      have hxl : (x :: xs).length ≤ 40 := HB40.out.2.1
      have hyl : (y :: ys).length ≤ 40 := HB41.out.2.1
      have HBnL := Lib.hid (fun W (hb : Below w2.heap.size w2 W) => bind_no V b s _ x.n (y :: ys) _ W (Kd.O_ext hb HS2.out) hslen (Kd.S_ext hb HY.out) HVin.out HVv.out.2 hVl (by omega) hsl (Nat.le_trans hw2.out hb.size))
      have HByL := Lib.hid (fun W (hb : Below w2.heap.size w2 W) => bind_yes V b s _ x.n (y :: ys) _ W (Kd.O_ext hb HS2.out) hslen (Kd.S_ext hb HY.out) HVin.out HVv.out.2 hVl (by omega) hsl (Nat.le_trans hw2.out hb.size))
      have HBnR := Lib.hid (fun W (hb : Below w2.heap.size w2 W) => bind_no V b s _ y.n (x :: xs) _ W (Kd.O_ext hb HS2.out) hslen (Kd.S_ext hb HX2.out) HVin.out HVv.out.1 hVl (by omega) hsl (Nat.le_trans hw2.out hb.size))
      have HByR := Lib.hid (fun W (hb : Below w2.heap.size w2 W) => bind_yes V b s _ y.n (x :: xs) _ W (Kd.O_ext hb HS2.out) hslen (Kd.S_ext hb HX2.out) HVin.out HVv.out.1 hVl (by omega) hsl (Nat.le_trans hw2.out hb.size))
      clear hsl
      rcases HST.out with ⟨k1, rfl, hU1, hI1⟩ | ⟨k1, hne, hR, hr⟩ | ⟨k1, hne, hR, hU1, hI1⟩ | ⟨k1, k2, hR, hr⟩ | ⟨k1, k2, hR, hU1, hI1⟩ | ⟨k1, k2, hne, hr⟩ | ⟨k1, k2, rfl, hU1, hI1⟩
      · -- the same variable
        have e1 : (x.k == 1) = true := beq_iff_eq.2 k1
        have HU1 := Lib.hid hU1
        have HI1 := Lib.hid hI1
        clear k1 hU1 hI1
        go_quiet (fail)
        go_wp2
        go_roundg k
        case measure => omega
        case rel => exact ⟨s, ps, L1, R1, HU1, HI1, HL1, HR1, Lib.hid (Kd.O_ext (bel_drewN (Below.refl _ _) _) HS2.out), Lib.hid (Kd.O_ext (bel_drewN (Below.refl _ _) _) HL2.out), Lib.hid (Kd.O_ext (bel_drewN (Below.refl _ _) _) HR2.out), HN2, Lib.hid (HW2.out.call Hb.out (bel_drewN (Below.refl _ _) _))⟩
      · -- a variable that leads to itself
        have e1 : (x.k == 1) = true := beq_iff_eq.2 k1
        have HRr := Lib.hid hR
        have hr := Lib.hid hr
        have hcc := cell_neb (Ne.symm hne)
        clear k1 hne hR
        rcases hcc with e2 | ⟨e2, e3⟩ | ⟨e2, e3, e4⟩
        all_goals
          go_quiet (fail)
          go_wp2_with (go_at_call 55; (with_reducible refine (HBnL.out _ (bel_drewN (Below.refl _ _) _) HRr.out).mono ?_); rintro e w3 ⟨rv, rfl, hw3⟩; have HW3 := Lib.hid hw3; clear hw3)
          go_ret2
          exact .no hr.out (((HW2.out.call Hb.out (bel_drewN (Below.refl _ _) _)).trans HW3.out).alloc Hb.out _)
      · -- a variable is bound
        have e1 : (x.k == 1) = true := beq_iff_eq.2 k1
        have HRr := Lib.hid hR
        have HU1 := Lib.hid hU1
        have HI1 := Lib.hid hI1
        have hcc := cell_neb (Ne.symm hne)
        clear k1 hne hR hU1 hI1
        rcases hcc with e2 | ⟨e2, e3⟩ | ⟨e2, e3, e4⟩
        all_goals
          go_quiet (fail)
          go_wp2_with (go_at_call 55; (with_reducible refine (HByL.out _ (bel_drewN (Below.refl _ _) _) HRr.out).mono ?_); rintro e w3 ⟨rv, rfl, ho3, hw3⟩; have HO3 := Lib.hid ho3; have HW3 := Lib.hid hw3; clear ho3 hw3)
          go_roundg k
          case measure => omega
          case rel => exact ⟨_, ps, L1, R1, HU1, HI1, HL1, HR1, HO3, Lib.hid (HW3.out.O (Kd.O_ext (bel_drewN (Below.refl _ _) _) HL2.out) trmE), Lib.hid (HW3.out.O (Kd.O_ext (bel_drewN (Below.refl _ _) _) HR2.out) trmE), HN2, Lib.hid ((HW2.out.call Hb.out (bel_drewN (Below.refl _ _) _)).trans HW3.out)⟩
      · have e1 : (x.k == 1) = false := beq_eq_false_iff_ne.2 k1
        have e2 : (y.k == 1) = true := beq_iff_eq.2 k2
        have HRr := Lib.hid hR
        have hr := Lib.hid hr
        clear k1 k2 hR
        all_goals
          go_quiet (fail)
          go_wp2_with (go_at_call 55; (with_reducible refine (HBnR.out _ (bel_drewN (Below.refl _ _) _) HRr.out).mono ?_); rintro e w3 ⟨rv, rfl, hw3⟩; have HW3 := Lib.hid hw3; clear hw3)
          go_ret2
          exact .no hr.out (((HW2.out.call Hb.out (bel_drewN (Below.refl _ _) _)).trans HW3.out).alloc Hb.out _)
      · have e1 : (x.k == 1) = false := beq_eq_false_iff_ne.2 k1
        have e2 : (y.k == 1) = true := beq_iff_eq.2 k2
        have HRr := Lib.hid hR
        have HU1 := Lib.hid hU1
        have HI1 := Lib.hid hI1
        clear k1 k2 hR hU1 hI1
        all_goals
          go_quiet (fail)
          go_wp2_with (go_at_call 55; (with_reducible refine (HByR.out _ (bel_drewN (Below.refl _ _) _) HRr.out).mono ?_); rintro e w3 ⟨rv, rfl, ho3, hw3⟩; have HO3 := Lib.hid ho3; have HW3 := Lib.hid hw3; clear ho3 hw3)
          go_roundg k
          case measure => omega
          case rel => exact ⟨_, ps, L1, R1, HU1, HI1, HL1, HR1, HO3, Lib.hid (HW3.out.O (Kd.O_ext (bel_drewN (Below.refl _ _) _) HL2.out) trmE), Lib.hid (HW3.out.O (Kd.O_ext (bel_drewN (Below.refl _ _) _) HR2.out) trmE), HN2, Lib.hid ((HW2.out.call Hb.out (bel_drewN (Below.refl _ _) _)).trans HW3.out)⟩
      · -- two names
        have e1 : (x.k == 1) = false := beq_eq_false_iff_ne.2 k1
        have e0 : (y.k == 1) = false := beq_eq_false_iff_ne.2 k2
        have hr := Lib.hid hr
        have hcc := cell_neb hne
        clear k1 k2 hne
        rcases hcc with e2 | ⟨e2, e3⟩ | ⟨e2, e3, e4⟩
        all_goals
          go_quiet (fail)
          go_upto_region 19 with (fail)
          go_quiet (fail)
          go_wp2
          go_ret2
          exact .no hr.out ((HW2.out.call Hb.out (bel_drewN (Below.refl _ _) _)).alloc Hb.out _)
      · -- one name: its arguments
        have e1 : (x.k == 1) = false := beq_eq_false_iff_ne.2 k1
        have HU1 := Lib.hid hU1
        have HI1 := Lib.hid hI1
        have hcx := List.all_eq_true.1 HB40.out.2.2 x List.mem_cons_self
        have hnb := cellOk_n hcx
        clear k1 k2 hU1 hI1 HBnL HByL HBnR HByR
        by_cases k3 : x.k = 3
        · have e3 : (x.k == 3) = true := beq_iff_eq.2 k3
          have har : ar x = x.n := by unfold ar; rw [if_pos k3]
          have hr03 := ar_of_ok hcx
          obtain ⟨m, hm⟩ := Int.eq_ofNat_of_zero_le hr03.1
          have hxn : x.n = (m : Int) := by rw [← har, hm]
          have hm3 : m ≤ 3 := by omega
          obtain ⟨aX, haX⟩ : ∃ l, argsOf (ar x).toNat xs = l := ⟨_, rfl⟩
          obtain ⟨aY, haY⟩ : ∃ l, argsOf (ar x).toNat ys = l := ⟨_, rfl⟩
          have hlX : aX.length = m := by rw [← haX, argsOf_len, hm]; rfl
          have hlY : aY.length = m := by rw [← haY, argsOf_len, hm]; rfl
          have HAx := Lib.hid (fun (j : Nat) (a : Trm) (hj : aX[j]? = some a) W (hS : Kd.cell.S 47 W _ (x :: xs)) => arg_c x xs a j (.slice (some xa) nx kx) W hS HOk.out.1 (by rw [haX]; exact hj))
          have HAy := Lib.hid (fun (j : Nat) (a : Trm) (hj : aY[j]? = some a) W (hS : Kd.cell.S 47 W _ (x :: ys)) => arg_c x ys a j (.slice (some ya) ny ky) W hS HOk.out.2 (by rw [haY]; exact hj))
          rw [haX, haY] at HU1 HI1
          rw [hxn] at cx2 cy2
          have HlX := Lib.hid hlX
          have HlY := Lib.hid hlY
          clear haX haY hm har hxn hnb k3 hlX hlY hr03
          go_quiet (fail)
          go_upto_region 19 with (fail)
          go_quiet (fail)
          go_wp2
          go_loopw [8, 9, 13] (fun v8 v9 v13 wr => ∃ (j : Nat) (LL RR : List Trm), v13 = .int .i64 ((j : Int) - 1) ∧ j ≤ m ∧ Hid (LL = L1 ++ (aX.drop j).reverse) ∧ Hid (RR = R1 ++ (aY.drop j).reverse) ∧ Hid (Kd.trm.O 23 wr w.heap.size v8 LL) ∧ Hid (Kd.trm.O 23 wr w.heap.size v9 RR) ∧ Hid (∀ k, v9.ownBlock = some k → v8.ownBlock ≠ some k) ∧ Hid (Wrote b 107 w wr) ∧ Hid (Kd.cell.S 47 wr (.slice (some xa) nx kx) (x :: xs)) ∧ Hid (Kd.cell.S 47 wr (.slice (some ya) ny ky) (x :: ys)) ∧ Hid (Kd.bind.O 107 wr b (.slice SB s.length sc) s)) (fun _ _ v13 _ => (intOf v13 + 1).toNat)
          case atStart => exact ⟨m, L1, R1, by go_num, Nat.le_refl _, Lib.hid (by rw [List.drop_of_length_le (by rw [HlX.out]; exact Nat.le_refl _)]; simp), Lib.hid (by rw [List.drop_of_length_le (by rw [HlY.out]; exact Nat.le_refl _)]; simp), Lib.hid (Kd.O_ext (bel_drewN (Below.refl _ _) _) HL2.out), Lib.hid (Kd.O_ext (bel_drewN (Below.refl _ _) _) HR2.out), HN2, Lib.hid (HW2.out.call Hb.out (bel_drewN (Below.refl _ _) _)), Lib.hid (Kd.S_ext (bel_drewN (Below.refl _ _) _) HX2.out), Lib.hid (Kd.S_ext (bel_drewN (Below.refl _ _) _) HY.out), Lib.hid (Kd.O_ext (bel_drewN (Below.refl _ _) _) HS2.out)⟩
          case round =>
            clear cx1 cx2 cx3 cy1 cy2 cy3
            obtain ⟨j, LL, RR, rfl, hj, HLL, HRR, HOL, HOR, HN, HWr, HXr, HYr, HSr⟩ := hrel
            obtain ⟨dx1, dx2, dx3⟩ := S_cells HXr.out
            cases j with
            | zero =>
              have ez : decide ((0 : Int) ≤ -1) = false := by decide
              go_wp2
              go_roundg k
              case measure => omega
              case rel =>
                exact ⟨s, _, LL, RR, HU1, HI1, Lib.hid (by rw [HLL.out, List.drop_zero, List.map_append, List.reverse_append, zip_fst (by rw [HlX.out, HlY.out]), HL1.out]), Lib.hid (by rw [HRR.out, List.drop_zero, List.map_append, List.reverse_append, zip_snd (by rw [HlX.out, HlY.out]), HR1.out]), HSr, HOL, HOR, HN, HWr⟩
            | succ j =>
              obtain ⟨a1, ha1⟩ : ∃ a, aX[j]? = some a := ⟨_, List.getElem?_eq_getElem (by rw [HlX.out]; omega)⟩
              obtain ⟨a2, ha2⟩ : ∃ a, aY[j]? = some a := ⟨_, List.getElem?_eq_getElem (by rw [HlY.out]; omega)⟩
              have HA1 := Lib.hid (HAx.out j a1 ha1)
              have HA2 := Lib.hid (HAy.out j a2 ha2)
              have HLL2 := Lib.hid (show LL ++ [a1] = L1 ++ (aX.drop j).reverse by rw [HLL.out, drop_snoc ha1, List.append_assoc])
              have HRR2 := Lib.hid (show RR ++ [a2] = R1 ++ (aY.drop j).reverse by rw [HRR.out, drop_snoc ha2, List.append_assoc])
              have hLLl : LL.length ≤ ps.length + 3 := by rw [HLL.out, List.length_append, List.length_reverse, List.length_drop, HlX.out, HM1.out]; omega
              have hRRl : RR.length ≤ ps.length + 3 := by rw [HRR.out, List.length_append, List.length_reverse, List.length_drop, HlY.out, HM2.out]; omega
              clear ha1 ha2
              go_wp2_with (first | (go_at_call 56; (with_reducible refine (HA1.out _ HXr.out).mono ?_); rintro e w5 ⟨av, rfl, hO5, hb5⟩; have HS5 := Lib.hid (Kd.O_read hO5); obtain ⟨AB, cA, rfl, g1, g2, -⟩ := Kd.O_read hO5; have HB5 := Lib.hid hb5; have HY5 := Lib.hid (Kd.S_ext hb5 HYr.out); have hsz5 := Lib.hid (HWr.out.bel.size); clear hO5 hb5)
                                 | (go_at_call 56; (with_reducible refine (HA2.out _ HY6.out).mono ?_); rintro e w7 ⟨bv, rfl, hO7, hb7⟩; have HS7 := Lib.hid (Kd.O_read hO7); obtain ⟨BB, cB, rfl, g3, g4, -⟩ := Kd.O_read hO7; have HB7 := Lib.hid hb7; clear hO7 hb7)
                                 | (at_builtin; refine wp_app AppI.trm rfl rfl (Kd.O_alloc _ (Kd.O_ext HB5.out HOL.out)) rfl (Kd.S_lit Kd.trm _ (x := a1) (cs := [.slice AB a1.length cA]) ⟨_, rfl, HS5.out⟩ rfl) rfl ?c1 ?c2 ?_; (case c1 => simp; omega); (case c2 => have h1 := hsz5.out; have h2 := HB5.out.size; simp; omega); intro v8b w6 hg; have HG6 := Lib.hid hg; have HY6 := Lib.hid ((hg.but (Kd.O_alloc _ (Kd.O_ext HB5.out HOL.out))).S (Kd.S_alloc _ HY5.out) cellE); have hsz6 := Lib.hid hg.grown.size; clear hg)
                                 | (at_builtin; refine wp_app AppI.trm rfl rfl (Kd.O_alloc _ (Kd.O_ext HB7.out (HG6.out.O_far' (Kd.O_alloc _ (Kd.O_ext HB5.out HOL.out)) (Kd.O_alloc _ (Kd.O_ext HB5.out HOR.out)) HN.out trmS))) rfl (Kd.S_lit Kd.trm _ (x := a2) (cs := [.slice BB a2.length cB]) ⟨_, rfl, HS7.out⟩ rfl) rfl ?c3 ?c4 ?_; (case c3 => simp; omega); (case c4 => have h1 := hsz5.out; have h2 := HB5.out.size; have h3 := hsz6.out; have h4 := HB7.out.size; simp at h3 ⊢; omega); intro v9b w8 hg; have HG8 := Lib.hid hg; clear hg))
              have HOL5 := Lib.hid (Kd.O_alloc (.cells #[.slice AB a1.length cA] 23) (Kd.O_ext HB5.out HOL.out))
              have HOR5 := Lib.hid (Kd.O_alloc (.cells #[.slice AB a1.length cA] 23) (Kd.O_ext HB5.out HOR.out))
              have HOR6 := Lib.hid (HG6.out.O_far' HOL5.out HOR5.out HN.out trmS)
              have HN6 := Lib.hid (HG6.out.apart HOR5.out HN.out)
              have HOR7 := Lib.hid (Kd.O_alloc (.cells #[.slice BB a2.length cB] 23) (Kd.O_ext HB7.out HOR6.out))
              have HOL7 := Lib.hid (Kd.O_alloc (.cells #[.slice BB a2.length cB] 23) (Kd.O_ext HB7.out HG6.out.own))
              have HN7 := fun (k : Nat) (h : v8b.ownBlock = some k) => fun e => HN6.out k e h
              have HOL8 := Lib.hid (HG8.out.O_far' HOR7.out HOL7.out HN7 trmS)
              have HN8 := HG8.out.apart HOL7.out HN7
              have HW5 := (HWr.out.call Hb.out HB5.out).alloc Hb.out (.cells #[.slice AB a1.length cA] 23)
              have HW6 := HW5.above HG6.out HOL5.out Hb.out
              have HW7 := (HW6.call Hb.out HB7.out).alloc Hb.out (.cells #[.slice BB a2.length cB] 23)
              have HW8 := HW7.above HG8.out HOR7.out Hb.out
              have kb6 := HG6.out.but HOL5.out
              have kb8 := HG8.out.but HOR7.out
              refine ⟨⟨j, LL ++ [a1], RR ++ [a2], by go_num, by omega, HLL2, HRR2, HOL8, Lib.hid HG8.out.own, Lib.hid (fun k h e => HN8 k e h), Lib.hid HW8, Lib.hid ?_, Lib.hid ?_, Lib.hid ?_⟩, by simp [intOf]⟩
              · exact kb8.S (Kd.S_alloc _ (Kd.S_ext HB7.out (kb6.S (Kd.S_alloc _ (Kd.S_ext HB5.out HXr.out)) cellE))) cellE
              · exact kb8.S (Kd.S_alloc _ (Kd.S_ext HB7.out HY6.out)) cellE
              · exact kb8.O (Kd.O_alloc _ (Kd.O_ext HB7.out (kb6.O (Kd.O_alloc _ (Kd.O_ext HB5.out HSr.out)) bindE))) bindE
        · have e3 : (x.k == 3) = false := beq_eq_false_iff_ne.2 k3
          have har : (ar x).toNat = 0 := by unfold ar; rw [if_neg k3]; rfl
          rw [har] at HU1 HI1
          have HU1 : Hid (U k s ps = some r) := HU1
          have HI1 : Hid (Uinv V s ps) := HI1
          clear har k3 hcx
          go_quiet (fail)
          go_upto_region 19 with (fail)
          go_quiet (fail)
          go_wp2
          go_loopw [8, 9, 13] (fun v8 v9 v13 wr => Hid (Kd.trm.O 23 w2 w.heap.size v8 L1) ∧ Hid (Kd.trm.O 23 w2 w.heap.size v9 R1) ∧ Hid (∀ k, v9.ownBlock = some k → v8.ownBlock ≠ some k) ∧ Hid (Below w2.heap.size w2 wr)) (fun _ _ _ _ => 0)
          case atStart => exact ⟨HL2, HR2, HN2, Lib.hid (bel_drewN (Below.refl _ _) _)⟩
          case round =>
            obtain ⟨HL2, HR2, HN2, HBw⟩ := hrel
            clear cx1 cx2 cx3 cy1 cy2 cy3
            obtain ⟨dx1, dx2, dx3⟩ := S_cells (Kd.S_ext HBw.out HX2.out)
            go_wp2
            go_roundg k
            case measure => omega
            case rel => exact ⟨s, ps, L1, R1, HU1, HI1, HL1, HR1, Lib.hid (Kd.O_ext HBw.out HS2.out), Lib.hid (Kd.O_ext HBw.out HL2.out), Lib.hid (Kd.O_ext HBw.out HR2.out), HN2, Lib.hid (HW2.out.call Hb.out HBw.out)⟩
end Go.Proofs.YtjglbadkbhopoaaGreatDoor
namespace Go.Proofs
set_option linter.unusedVariables false
open Go.Shelf
def Tryz.lays160_ren : Go.Shelf.Ren := ⟨fun | 160 => 108 | 232 => 128 | 231 => 127 | 227 => 129 | 234 => 131 | 233 => 130 | 236 => 133 | 235 => 132 | 228 => 147 | 271 => 150 | 151 => 149 | 197 => 148 | 120 => 160 | 152 => 159 | 260 => 158 | 137 => 164 | 119 => 165 | 224 => 166 | 225 => 167 | 217 => 168 | 266 => 169 | n => n, fun | 9 => 9 | 4 => 4 | 3 => 3 | 5 => 5 | 117 => 181 | 116 => 180 | 0 => 0 | 124 => 184 | 21 => 21 | 105 => 202 | 46 => 209 | 119 => 216 | 139 => 219 | 138 => 218 | n => n, fun | 3 => 1 | 4 => 2 | n => n⟩
theorem Tryz.lays160 : Go.Proofs.Lays.n160 Tryz.prog Tryz.lays160_ren := {
  mixed := by kernel_rfl
  f119 := Tryz.func165.trans (congrArg some (by kernel_rfl))
  f120 := Tryz.func160.trans (congrArg some (by kernel_rfl))
  f137 := Tryz.func164.trans (congrArg some (by kernel_rfl))
  f151 := Tryz.func149.trans (congrArg some (by kernel_rfl))
  f152 := Tryz.func159.trans (congrArg some (by kernel_rfl))
  f160 := Tryz.func108.trans (congrArg some (by kernel_rfl))
  f197 := Tryz.func148.trans (congrArg some (by kernel_rfl))
  f217 := Tryz.func168.trans (congrArg some (by kernel_rfl))
  f224 := Tryz.func166.trans (congrArg some (by kernel_rfl))
  f225 := Tryz.func167.trans (congrArg some (by kernel_rfl))
  f227 := Tryz.func129.trans (congrArg some (by kernel_rfl))
  f228 := Tryz.func147.trans (congrArg some (by kernel_rfl))
  f231 := Tryz.func127.trans (congrArg some (by kernel_rfl))
  f232 := Tryz.func128.trans (congrArg some (by kernel_rfl))
  f233 := Tryz.func130.trans (congrArg some (by kernel_rfl))
  f234 := Tryz.func131.trans (congrArg some (by kernel_rfl))
  f235 := Tryz.func132.trans (congrArg some (by kernel_rfl))
  f236 := Tryz.func133.trans (congrArg some (by kernel_rfl))
  f260 := Tryz.func158.trans (congrArg some (by kernel_rfl))
  f266 := Tryz.func169.trans (congrArg some (by kernel_rfl))
  f271 := Tryz.func150.trans (congrArg some (by kernel_rfl))
  t0 := Tryz.underlying0
  a0 := Tryz.isAgg0
  z0 := Tryz.sizeOf0
  v0 := Tryz.zeroValue0
  t3 := Tryz.underlying3
  a3 := Tryz.isAgg3
  z3 := Tryz.sizeOf3
  v3 := Tryz.zeroValue3
  t4 := Tryz.underlying4
  a4 := Tryz.isAgg4
  z4 := Tryz.sizeOf4
  v4 := Tryz.zeroValue4
  t5 := Tryz.underlying5
  a5 := Tryz.isAgg5
  z5 := Tryz.sizeOf5
  v5 := Tryz.zeroValue5
  t9 := Tryz.underlying9
  a9 := Tryz.isAgg9
  z9 := Tryz.sizeOf9
  v9 := Tryz.zeroValue9
  t21 := Tryz.underlying21
  a21 := Tryz.isAgg21
  z21 := Tryz.sizeOf21
  v21 := Tryz.zeroValue21
  t46 := Tryz.underlying209
  a46 := Tryz.isAgg209
  z46 := Tryz.sizeOf209
  v46 := Tryz.zeroValue209
  t105 := Tryz.underlying202
  a105 := Tryz.isAgg202
  z105 := Tryz.sizeOf202
  v105 := Tryz.zeroValue202
  t116 := Tryz.underlying180
  a116 := Tryz.isAgg180
  z116 := Tryz.sizeOf180
  t117 := Tryz.underlying181
  a117 := Tryz.isAgg181
  z117 := Tryz.sizeOf181
  v117 := Tryz.zeroValue181
  t119 := Tryz.underlying216
  a119 := Tryz.isAgg216
  z119 := Tryz.sizeOf216
  t124 := Tryz.underlying184
  a124 := Tryz.isAgg184
  z124 := Tryz.sizeOf184
  v124 := Tryz.zeroValue184
  t138 := Tryz.underlying218
  a138 := Tryz.isAgg218
  z138 := Tryz.sizeOf218
  v138 := Tryz.zeroValue218
  t139 := Tryz.underlying219
  a139 := Tryz.isAgg219
  z139 := Tryz.sizeOf219
  v139 := Tryz.zeroValue219
  g3 := by kernel_rfl
  g4 := by kernel_rfl }
def Tryz.laysM171_ren : Go.Shelf.Ren := ⟨fun | 171 => 62 | 243 => 91 | 246 => 110 | 283 => 134 | 284 => 135 | 285 => 136 | 286 => 137 | 129 => 152 | 317 => 151 | 318 => 153 | 319 => 154 | 320 => 155 | 337 => 161 | 338 => 162 | n => n, fun | 3 => 3 | 9 => 9 | 2 => 2 | 4 => 4 | 171 => 185 | 0 => 0 | 53 => 186 | 37 => 22 | 5 => 5 | 173 => 189 | 212 => 206 | 51 => 207 | 20 => 20 | 213 => 208 | 46 => 209 | 232 => 223 | 233 => 224 | n => n, fun | 17 => 0 | 18 => 3 | 19 => 4 | n => n⟩
theorem Tryz.laysM171 : Go.Proofs.LaysM.n171 Tryz.prog Tryz.laysM171_ren := {
  mixed := by kernel_rfl
  f129 := Tryz.func152.trans (congrArg some (by kernel_rfl))
  f171 := Tryz.func62.trans (congrArg some (by kernel_rfl))
  f243 := Tryz.func91.trans (congrArg some (by kernel_rfl))
  f246 := Tryz.func110.trans (congrArg some (by kernel_rfl))
  f283 := Tryz.func134.trans (congrArg some (by kernel_rfl))
  f284 := Tryz.func135.trans (congrArg some (by kernel_rfl))
  f285 := Tryz.func136.trans (congrArg some (by kernel_rfl))
  f286 := Tryz.func137.trans (congrArg some (by kernel_rfl))
  f317 := Tryz.func151.trans (congrArg some (by kernel_rfl))
  f318 := Tryz.func153.trans (congrArg some (by kernel_rfl))
  f319 := Tryz.func154.trans (congrArg some (by kernel_rfl))
  f320 := Tryz.func155.trans (congrArg some (by kernel_rfl))
  f337 := Tryz.func161.trans (congrArg some (by kernel_rfl))
  f338 := Tryz.func162.trans (congrArg some (by kernel_rfl))
  t0 := Tryz.underlying0
  a0 := Tryz.isAgg0
  z0 := Tryz.sizeOf0
  v0 := Tryz.zeroValue0
  t2 := Tryz.underlying2
  a2 := Tryz.isAgg2
  z2 := Tryz.sizeOf2
  v2 := Tryz.zeroValue2
  t3 := Tryz.underlying3
  a3 := Tryz.isAgg3
  z3 := Tryz.sizeOf3
  v3 := Tryz.zeroValue3
  t4 := Tryz.underlying4
  a4 := Tryz.isAgg4
  z4 := Tryz.sizeOf4
  v4 := Tryz.zeroValue4
  t5 := Tryz.underlying5
  a5 := Tryz.isAgg5
  z5 := Tryz.sizeOf5
  v5 := Tryz.zeroValue5
  t9 := Tryz.underlying9
  a9 := Tryz.isAgg9
  z9 := Tryz.sizeOf9
  v9 := Tryz.zeroValue9
  t20 := Tryz.underlying20
  a20 := Tryz.isAgg20
  z20 := Tryz.sizeOf20
  v20 := Tryz.zeroValue20
  t37 := Tryz.underlying22
  a37 := Tryz.isAgg22
  z37 := Tryz.sizeOf22
  v37 := Tryz.zeroValue22
  t46 := Tryz.underlying209
  a46 := Tryz.isAgg209
  z46 := Tryz.sizeOf209
  v46 := Tryz.zeroValue209
  t51 := Tryz.underlying207
  a51 := Tryz.isAgg207
  z51 := Tryz.sizeOf207
  v51 := Tryz.zeroValue207
  t53 := Tryz.underlying186
  a53 := Tryz.isAgg186
  z53 := Tryz.sizeOf186
  v53 := Tryz.zeroValue186
  t171 := Tryz.underlying185
  a171 := Tryz.isAgg185
  z171 := Tryz.sizeOf185
  v171 := Tryz.zeroValue185
  t173 := Tryz.underlying189
  a173 := Tryz.isAgg189
  z173 := Tryz.sizeOf189
  v173 := Tryz.zeroValue189
  t212 := Tryz.underlying206
  a212 := Tryz.isAgg206
  z212 := Tryz.sizeOf206
  v212 := Tryz.zeroValue206
  t213 := Tryz.underlying208
  a213 := Tryz.isAgg208
  z213 := Tryz.sizeOf208
  t232 := Tryz.underlying223
  a232 := Tryz.isAgg223
  z232 := Tryz.sizeOf223
  v232 := Tryz.zeroValue223
  t233 := Tryz.underlying224
  a233 := Tryz.isAgg224
  z233 := Tryz.sizeOf224
  v233 := Tryz.zeroValue224
  g17 := by kernel_rfl
  g18 := by kernel_rfl
  g19 := by kernel_rfl
  i0 := by kernel_rfl
  i2 := by kernel_rfl
  i3 := by kernel_rfl
  i4 := by kernel_rfl
  i5 := by kernel_rfl
  i9 := by kernel_rfl
  i20 := by kernel_rfl
  i37 := by kernel_rfl
  i46 := by kernel_rfl
  i51 := by kernel_rfl
  i53 := by kernel_rfl
  i171 := by kernel_rfl
  i173 := by kernel_rfl
  i212 := by kernel_rfl
  i232 := by kernel_rfl
  i233 := by kernel_rfl
  m17 := by kernel_rfl
  m18 := by kernel_rfl
  m19 := by kernel_rfl }
open Go.RowKit Go.Sort Go.Lib in
theorem Tryz.strconv_Itoa (n : Int) (h0 : -9223372036854775808 ≤ n) (h1 : n ≤ 9223372036854775807) (w : World) (htab : Lib.TabIs Tryz.prog w "internal/strconv.uint64pow10" .u64 Lib.pow10Tab) :
    Calls Tryz.prog 62 #[.int .i64 n] w fun e w' => e = .returned (.string ⟨(Lib.itoa n).toArray⟩) ∧ ∃ k os, w' = grow (w.drewN k) os := Any.strconv_Itoa Tryz.laysM171 n h0 h1 w htab
def Tryz.lays107_ren : Go.Shelf.Ren := ⟨fun | 107 => 82 | 108 => 47 | n => n, fun | 28 => 72 | 3 => 3 | 4 => 4 | 0 => 0 | n => n, fun | n => n⟩
theorem Tryz.lays107 : Go.Proofs.Lays.n107 Tryz.prog Tryz.lays107_ren := {
  mixed := by kernel_rfl
  f107 := Tryz.func82.trans (congrArg some (by kernel_rfl))
  f108 := Tryz.func47.trans (congrArg some (by kernel_rfl))
  t0 := Tryz.underlying0
  a0 := Tryz.isAgg0
  z0 := Tryz.sizeOf0
  v0 := Tryz.zeroValue0
  t3 := Tryz.underlying3
  a3 := Tryz.isAgg3
  z3 := Tryz.sizeOf3
  v3 := Tryz.zeroValue3
  t4 := Tryz.underlying4
  a4 := Tryz.isAgg4
  z4 := Tryz.sizeOf4
  v4 := Tryz.zeroValue4
  t28 := Tryz.underlying72
  a28 := Tryz.isAgg72
  z28 := Tryz.sizeOf72
  v28 := Tryz.zeroValue72 }
open Go.Lib in
theorem Tryz.slices_Contains_int (b off n c : Nat) (zs : List Int) (x : Int) (w : World) (hz : n ≤ zs.length) (hbig : n ≤ 9223372036854775807) (hc : ∀ j, j < zs.length → w.cell? ⟨b, off + j, none⟩ = some (.int .i64 (zs.getD j 0))) :
    Calls Tryz.prog 82 #[.slice (some ⟨b, off, none⟩) n c, .int .i64 x] w fun e w' => e = .returned (.bool ((zs.take n).contains x)) ∧ w' = w := Any.slices_Contains_int Tryz.lays107 b off n c zs x w hz hbig hc
open Go.Lib in
theorem Tryz.slices_Contains_int_empty (a : Option Addr) (c : Nat) (x : Int) (w : World) :
    Calls Tryz.prog 82 #[.slice a 0 c, .int .i64 x] w fun e w' => e = .returned (.bool false) ∧ w' = w := Any.slices_Contains_int_empty Tryz.lays107 a c x w

end Go.Proofs
namespace Go.Proofs.YtjglbadkbhopoaaGreatDoor
open Go.RowKit
set_option maxRecDepth 100000
set_option maxHeartbeats 4000000
set_option linter.unusedVariables false
theorem imIn_c (a lo hi : Int) (w : World) : Calls Tryz.prog 38 #[.int .i64 a, .int .i64 lo, .int .i64 hi] w fun e w' => e = .returned (.bool (decide (lo ≤ a) && decide (a ≤ hi))) ∧ w = w' := by
  by_cases h1 : lo ≤ a
  · by_cases h2 : a ≤ hi
    · have hb := Lib.hid (show (decide (lo ≤ a) && decide (a ≤ hi)) = true by rw [decide_eq_true h1, decide_eq_true h2]; rfl)
      rw [hb.out]
      go_enter Tryz.func38, Tryz.ntmps38
      go_wp2
      go_ret
      exact ⟨rfl, rfl⟩
    · have hb := Lib.hid (show (decide (lo ≤ a) && decide (a ≤ hi)) = false by rw [decide_eq_true h1, decide_eq_false h2]; rfl)
      rw [hb.out]
      go_enter Tryz.func38, Tryz.ntmps38
      go_wp2
      go_ret
      exact ⟨rfl, rfl⟩
  · have hb := Lib.hid (show (decide (lo ≤ a) && decide (a ≤ hi)) = false by rw [decide_eq_false h1]; rfl)
    rw [hb.out]
    go_enter Tryz.func38, Tryz.ntmps38
    go_wp2
    go_ret
    exact ⟨rfl, rfl⟩
def abc : ByteArray := ⟨#[97, 98, 99, 100, 101, 102, 103, 104, 105, 106, 107, 108, 109, 110, 111, 112, 113, 114, 115, 116, 117, 118, 119, 120, 121, 122]⟩
theorem abc_lower (b : UInt8) : abc.data.toList.contains b = lower b := by
  have : ∀ n : Fin 256, abc.data.toList.contains (UInt8.ofNat n.val) = lower (UInt8.ofNat n.val) := by decide +kernel
  have h := this ⟨b.toNat, b.toNat_lt⟩
  simpa using h
theorem drop_idem {α : Type} (p : α → Bool) : ∀ l : List α, (l.dropWhile p).dropWhile p = l.dropWhile p
  | [] => rfl
  | x :: l => by
    cases h : p x with
    | true => rw [List.dropWhile_cons, if_pos h]; exact drop_idem p l
    | false => rw [List.dropWhile_cons, if_neg (by rw [h]; simp), List.dropWhile_cons, if_neg (by rw [h]; simp)]
theorem drop_nil {α : Type} (p : α → Bool) (l : List α) : l.dropWhile p = [] ↔ l.all p = true := by
  induction l with
  | nil => simp
  | cons x l ih =>
    cases h : p x with
    | true => rw [List.dropWhile_cons, if_pos h, ih]; simp [h]
    | false => rw [List.dropWhile_cons, if_neg (by rw [h]; simp)]; simp [h]
theorem trim_nil (l : List UInt8) : Lib.trimS l abc.data.toList = [] ↔ l.all lower = true := by
  have hp : (fun b => abc.data.toList.contains b) = lower := funext abc_lower
  unfold Lib.trimS Lib.trimLeftS Lib.trimRightS
  rw [hp, drop_nil, List.all_reverse, ← drop_nil, drop_idem, drop_nil, List.all_reverse]
theorem trimAbc_c (s : ByteArray) (w : World) (hs : s.size ≤ 9223372036854775807) : Calls Tryz.prog 108 #[.string s, .string abc] w fun e w' => e = .returned (.string (B (Lib.trimS (L s) abc.data.toList))) ∧ Below w.heap.size w w' :=
  Any.strings_Trim_laid Tryz.lays160 (by kernel_rfl) s abc w hs (by decide) (ascii_of_all (by decide))
theorem nameOk_c (s : ByteArray) (w : World) (hs : s.size ≤ 9223372036854775807) : Calls Tryz.prog 88 #[.string s] w fun e w' => e = .returned (.bool (nameOk s)) ∧ Below w.heap.size w w' := by
  have HI := Lib.hid (fun W => imIn_c (s.size : Int) 1 8 W)
  have HT := Lib.hid (fun W => trimAbc_c s W hs)
  have hI : (decide ((1 : Int) ≤ s.size) && decide ((s.size : Int) ≤ 8)) = (decide (1 ≤ s.size) && decide (s.size ≤ 8)) := by
    congr 1 <;> exact decide_eq_decide.2 (by omega)
  rw [hI] at HI
  cases h1 : (decide (1 ≤ s.size) && decide (s.size ≤ 8)) with
  | false =>
    have HV := Lib.hid (show nameOk s = false by unfold nameOk; rw [h1]; rfl)
    rw [h1] at HI
    clear hI h1 HT
    go_enter Tryz.func88, Tryz.ntmps88
    go_wp2_with (go_at_call 38; refine (HI.out _).mono ?_; rintro e w1 ⟨rfl, rfl⟩)
    go_ret
    exact ⟨ret_bool HV.out.symm, Below.refl _ _⟩
  | true =>
    rw [h1] at HI
    have hV : nameOk s = (s.data.toList.all lower && !(s.data.toList == [97, 110, 100])) := by unfold nameOk; rw [h1]; rfl
    obtain ⟨Z, hZ⟩ : ∃ Z, B (Lib.trimS (L s) abc.data.toList) = Z := ⟨_, rfl⟩
    have hz : Z.toList.isEmpty = s.data.toList.all lower := by
      rw [← hZ, Lib.toList_data]
      have := trim_nil s.data.toList
      show (Lib.trimS s.data.toList abc.data.toList).isEmpty = _
      cases h2 : s.data.toList.all lower with
      | true => rw [this.2 h2]; rfl
      | false =>
        cases h3 : Lib.trimS s.data.toList abc.data.toList with
        | nil => rw [this.1 h3] at h2; cases h2
        | cons b r => rfl
    rw [← hz] at hV
    have HV := Lib.hid (show nameOk s = (Z.toList.isEmpty && !(s.toList == [97, 110, 100])) by rw [hV, Lib.toList_data s])
    rw [hZ] at HT
    clear hI h1 hV hz hZ
    go_enter Tryz.func88, Tryz.ntmps88
    go_wp2_with (first | (go_at_call 38; refine (HI.out _).mono ?_; rintro e w1 ⟨rfl, rfl⟩) | (go_at_call 108; refine (HT.out _).mono ?_; rintro e w1 ⟨rfl, hb⟩))
    all_goals (go_ret; exact ⟨ret_bool (by rw [HV.out]; simp_all), hb⟩)
theorem ok_c (c : Cell) (w : World) (hs : c.s.size ≤ 9223372036854775807) : Calls Tryz.prog 58 #[.agg #[.int .i64 c.k, .int .i64 c.n, .string c.s]] w fun e w' => e = .returned (.bool (cellOk c)) ∧ Below w.heap.size w w' := by
  have HN := Lib.hid (fun W => nameOk_c c.s W hs)
  by_cases h1 : c.k = 1
  · have e1 : (c.k == 1) = true := beq_iff_eq.2 h1
    have HV := Lib.hid (show cellOk c = ((decide (0 ≤ c.n) && decide (c.n ≤ 99999)) && c.s.toList.isEmpty) by unfold cellOk; rw [if_pos h1, Lib.toList_data])
    obtain ⟨q, hq⟩ : ∃ q, (decide (0 ≤ c.n) && decide (c.n ≤ 99999)) = q := ⟨_, rfl⟩
    have HI2 := Lib.hid (fun W => imIn_c c.n (0) 99999 W)
    rw [hq] at HI2 HV
    clear HN hq
    cases q
    all_goals
      go_enter Tryz.func58, Tryz.ntmps58
      go_wp2_with (go_at_call 38; refine (HI2.out _).mono ?_; rintro e w1 ⟨rfl, rfl⟩)
      go_ret
      exact ⟨ret_bool (by rw [HV.out]; simp), bel_alloc (Below.refl _ _) _⟩
  by_cases h2 : c.k = 2
  · have e2 : (c.k == 2) = true := beq_iff_eq.2 h2
    have n1 : (c.k == 1) = false := beq_eq_false_iff_ne.2 (by omega)
    have HV := Lib.hid (show cellOk c = ((decide (-9999 ≤ c.n) && decide (c.n ≤ 9999)) && c.s.toList.isEmpty) by unfold cellOk; rw [if_neg (by omega)]; rw [if_pos h2, Lib.toList_data])
    obtain ⟨q, hq⟩ : ∃ q, (decide (-9999 ≤ c.n) && decide (c.n ≤ 9999)) = q := ⟨_, rfl⟩
    have HI2 := Lib.hid (fun W => imIn_c c.n (-9999) 9999 W)
    rw [hq] at HI2 HV
    clear HN hq
    cases q
    all_goals
      go_enter Tryz.func58, Tryz.ntmps58
      go_wp2_with (go_at_call 38; refine (HI2.out _).mono ?_; rintro e w1 ⟨rfl, rfl⟩)
      go_ret
      exact ⟨ret_bool (by rw [HV.out]; simp), bel_alloc (Below.refl _ _) _⟩
  by_cases h3 : c.k = 3
  · have e3 : (c.k == 3) = true := beq_iff_eq.2 h3
    have n1 : (c.k == 1) = false := beq_eq_false_iff_ne.2 (by omega)
    have n2 : (c.k == 2) = false := beq_eq_false_iff_ne.2 (by omega)
    have HV := Lib.hid (show cellOk c = ((decide (0 ≤ c.n) && decide (c.n ≤ 3)) && nameOk c.s) by unfold cellOk; rw [if_neg h1, if_neg h2, if_pos h3])
    obtain ⟨q, hq⟩ : ∃ q, (decide (0 ≤ c.n) && decide (c.n ≤ 3)) = q := ⟨_, rfl⟩
    have HI2 := Lib.hid (fun W => imIn_c c.n 0 3 W)
    rw [hq] at HI2 HV
    clear hq
    cases q
    all_goals
      go_enter Tryz.func58, Tryz.ntmps58
      go_wp2_with (first | (go_at_call 38; refine (HI2.out _).mono ?_; rintro e w1 ⟨rfl, rfl⟩) | (go_at_call 88; refine (HN.out _).mono ?_; rintro e w2 ⟨rfl, hb2⟩))
      go_ret
      exact ⟨ret_bool (by rw [HV.out]; simp), by first | exact bel_alloc (Below.refl _ _) _ | exact bel_trans (bel_alloc (Below.refl _ _) _) hb2⟩
  · have n1 : (c.k == 1) = false := beq_eq_false_iff_ne.2 h1
    have n2 : (c.k == 2) = false := beq_eq_false_iff_ne.2 h2
    have n3 : (c.k == 3) = false := beq_eq_false_iff_ne.2 h3
    have HV := Lib.hid (show cellOk c = false by unfold cellOk; rw [if_neg h1, if_neg h2, if_neg h3])
    go_enter Tryz.func58, Tryz.ntmps58
    go_wp2
    go_ret
    exact ⟨ret_bool HV.out.symm, bel_alloc (Below.refl _ _) _⟩
end Go.Proofs.YtjglbadkbhopoaaGreatDoor
namespace Go.Proofs.YtjglbadkbhopoaaGreatDoor
open Go.RowKit
set_option maxRecDepth 100000
set_option maxHeartbeats 4000000
set_option linter.unusedVariables false
def sized (t : Trm) : Prop := ∀ c ∈ t, c.s.size ≤ 9223372036854775807
theorem wrong_c (c : Cell) (w : World) (hs : c.s.size ≤ 9223372036854775807) : Calls Tryz.prog 57 #[.agg #[.int .i64 c.k, .int .i64 c.n, .string c.s]] w fun e w' => e = .returned (.bool (!cellOk c)) ∧ Below w.heap.size w w' := by
  have HO := Lib.hid (fun W => ok_c c W hs)
  go_enter Tryz.func57, Tryz.ntmps57
  go_wp2_with (go_at_call 58; refine (HO.out _).mono ?_; rintro e w1 ⟨rfl, hb⟩)
  go_ret
  exact ⟨rfl, bel_trans (bel_alloc (Below.refl _ _) _) hb⟩
theorem ixf_c (t : Trm) (A : Option Addr) (c : Nat) (w : World) (h : Kd.cell.C 47 w A t) (hl : t.length ≤ 1000000000) (hz : sized t) :
    Calls Tryz.prog 89 #[.slice A t.length c, .func (.func 57) #[] #[]] w fun e w' => ∃ z : Int, e = .returned (.int .i64 z) ∧ (0 ≤ z ↔ t.all cellOk = false) ∧ Below w.heap.size w w' := by
  have H := Lib.hid h
  have HZ := Lib.hid hz
  clear h hz
  go_enter Tryz.func89, Tryz.ntmps89
  go_wp2
  go_loopw [8] (fun v8 wr => ∃ k : Nat, v8 = .int .i64 k ∧ k ≤ t.length ∧ Hid (∀ j c, j < k → t[j]? = some c → cellOk c = true) ∧ Hid (Below w.heap.size w wr)) (fun v8 _ => t.length - (intOf v8).toNat)
  case atStart => exact ⟨0, rfl, Nat.zero_le _, Lib.hid (fun j c h => by omega), Lib.hid (Below.refl _ _)⟩
  case round =>
    obtain ⟨k, rfl, hk, HJ, HB⟩ := hrel
    by_cases hlt : k < t.length
    · obtain ⟨cc, hc⟩ : ∃ cc, t[k]? = some cc := ⟨_, List.getElem?_eq_getElem hlt⟩
      obtain ⟨ad, rfl, a1, a2, a3⟩ := cell_at (Kd.C_ext HB.out H.out) hc
      have HA := Lib.hid (fun W => wrong_c cc W (HZ.out cc (List.mem_of_getElem? hc)))
      cases hq : cellOk cc with
      | false =>
        have HV := Lib.hid (show t.all cellOk = false by
          rw [Bool.eq_false_iff]; intro ha
          have := List.all_eq_true.1 ha cc (List.mem_of_getElem? hc)
          rw [hq] at this; cases this)
        rw [hq] at HA
        have HA : Hid (∀ W, Calls Tryz.prog 57 #[.agg #[.int .i64 cc.k, .int .i64 cc.n, .string cc.s]] W fun e w' => e = .returned (.bool true) ∧ Below W.heap.size W w') := HA
        clear hq hc
        go_wp2_with (go_at_call 57; refine (HA.out _).mono ?_; rintro e w1 ⟨rfl, hb⟩)
        go_ret
        exact ⟨_, rfl, ⟨fun _ => HV.out, fun _ => by omega⟩, bel_trans HB.out hb⟩
      | true =>
        have HN := Lib.hid (show ∀ j c, j < k + 1 → t[j]? = some c → cellOk c = true from fun j c' hj hc' => by
          rcases Nat.lt_or_ge j k with h' | h'
          · exact HJ.out j c' h' hc'
          · obtain rfl : j = k := by omega
            rw [hc] at hc'; obtain rfl := Option.some.inj hc'; exact hq)
        rw [hq] at HA
        have HA : Hid (∀ W, Calls Tryz.prog 57 #[.agg #[.int .i64 cc.k, .int .i64 cc.n, .string cc.s]] W fun e w' => e = .returned (.bool false) ∧ Below W.heap.size W w') := HA
        clear hq hc
        go_wp2_with (go_at_call 57; refine (HA.out _).mono ?_; rintro e w1 ⟨rfl, hb⟩)
        exact ⟨⟨k + 1, by go_num, by omega, HN, Lib.hid (bel_trans HB.out hb)⟩, by simp [intOf]; omega⟩
    · have HV := Lib.hid (show t.all cellOk = true from List.all_eq_true.2 (fun c hc => by
        obtain ⟨j, hj, rfl⟩ := List.mem_iff_getElem.1 hc
        exact HJ.out j _ (by omega) (List.getElem?_eq_getElem hj)))
      go_wp2
      go_ret
      exact ⟨-1, rfl, ⟨fun h => by omega, fun h => by rw [HV.out] at h; cases h⟩, HB.out⟩
theorem contains_c (t : Trm) (A : Option Addr) (c : Nat) (w : World) (h : Kd.cell.C 47 w A t) (hl : t.length ≤ 1000000000) (hz : sized t) :
    Calls Tryz.prog 59 #[.slice A t.length c, .func (.func 57) #[] #[]] w fun e w' => e = .returned (.bool (!t.all cellOk)) ∧ Below w.heap.size w w' := by
  have HX := Lib.hid (ixf_c t A c w h hl hz)
  clear h hz
  go_enter Tryz.func59, Tryz.ntmps59
  go_wp2_with (go_at_call 89; refine HX.out.mono ?_; rintro e w1 ⟨z, rfl, hzz, hb⟩; have HZ := Lib.hid hzz; clear hzz)
  go_ret
  refine ⟨ret_bool ?_, hb⟩
  cases hq : t.all cellOk with
  | true => exact decide_eq_false (fun h => by have := HZ.out.1 h; rw [hq] at this; cases this)
  | false => exact decide_eq_true (HZ.out.2 hq)
theorem imOk_c (t : Trm) (A : Option Addr) (c : Nat) (w : World) (h : Kd.cell.C 47 w A t) (hl : t.length ≤ 1000000000) (hz : sized t) :
    Calls Tryz.prog 26 #[.slice A t.length c] w fun e w' => e = .returned (.bool (trmOk t)) ∧ Below w.heap.size w w' := by
  have H := Lib.hid h
  have HX := Lib.hid (contains_c t A c w h hl hz)
  have HI := Lib.hid (fun W => imIn_c (t.length : Int) 1 40 W)
  have hI : (decide ((1 : Int) ≤ t.length) && decide ((t.length : Int) ≤ 40)) = (decide (1 ≤ t.length) && decide (t.length ≤ 40)) := by
    congr 1 <;> exact decide_eq_decide.2 (by omega)
  rw [hI] at HI
  clear h hz hI
  cases h1 : (decide (1 ≤ t.length) && decide (t.length ≤ 40)) with
  | false =>
    have HV := Lib.hid (show trmOk t = false by unfold trmOk; rw [h1]; rfl)
    rw [h1] at HI
    clear h1 HX
    go_enter Tryz.func26, Tryz.ntmps26
    go_wp2_with (go_at_call 38; refine (HI.out _).mono ?_; rintro e w1 ⟨rfl, rfl⟩)
    go_ret
    exact ⟨ret_bool HV.out.symm, Below.refl _ _⟩
  | true =>
    rw [h1] at HI
    have h40 : t.length ≤ 40 := by simp only [Bool.and_eq_true, decide_eq_true_eq] at h1; exact h1.2
    cases h2 : t.all cellOk with
    | false =>
      have HV := Lib.hid (show trmOk t = false by unfold trmOk; rw [h1, h2]; rfl)
      rw [h2] at HX
      have HX : Hid (Calls Tryz.prog 59 #[.slice A t.length c, .func (.func 57) #[] #[]] w fun e w' => e = .returned (.bool true) ∧ Below w.heap.size w w') := HX
      clear h1 h2
      go_enter Tryz.func26, Tryz.ntmps26
      go_wp2_with (first | (go_at_call 38; refine (HI.out _).mono ?_; rintro e w1 ⟨rfl, rfl⟩) | (go_at_call 59; refine HX.out.mono ?_; rintro e w2 ⟨rfl, hb⟩))
      go_ret
      exact ⟨ret_bool HV.out.symm, hb⟩
    | true =>
      have HV := Lib.hid (show trmOk t = decide (skip 1 t = some t.length) by unfold trmOk; rw [h1, h2]; rfl)
      rw [h2] at HX
      have HX : Hid (Calls Tryz.prog 59 #[.slice A t.length c, .func (.func 57) #[] #[]] w fun e w' => e = .returned (.bool false) ∧ Below w.heap.size w w') := HX
      have HS := Lib.hid (fun W hb => size_c t A c W (Kd.C_ext (w' := W) hb H.out) h2 h40)
      have hsz : (sizeOf' t = t.length) ↔ skip 1 t = some t.length := by
        unfold sizeOf'
        cases hk : skip 1 t with
        | none => constructor
                  · intro e; have e : t.length + 1 = t.length := e; omega
                  · intro e; cases e
        | some n => constructor
                    · intro e; have e : n = t.length := e; rw [e]
                    · intro e; exact Option.some.inj e
      by_cases hs : skip 1 t = some t.length
      · have hV2 : trmOk t = true := by rw [HV.out, decide_eq_true hs]
        have HV := Lib.hid hV2
        rw [hsz.2 hs] at HS
        clear h1 h2 hs hsz hV2
        go_enter Tryz.func26, Tryz.ntmps26
        go_wp2_with (first | (go_at_call 38; refine (HI.out _).mono ?_; rintro e w1 ⟨rfl, rfl⟩) | (go_at_call 59; refine HX.out.mono ?_; rintro e w2 ⟨rfl, hb⟩; have HB := Lib.hid hb; clear hb) | (go_at_call 60; refine (HS.out _ HB.out).mono ?_; rintro e w3 ⟨rfl, hb3⟩))
        go_ret
        exact ⟨ret_bool (by rw [HV.out]), bel_trans HB.out hb3⟩
      · have hV2 : trmOk t = false := by rw [HV.out, decide_eq_false hs]
        have HV := Lib.hid hV2
        obtain ⟨z, hz⟩ : ∃ z, sizeOf' t = z := ⟨_, rfl⟩
        have hne : ((z : Int) == (t.length : Int)) = false := beq_eq_false_iff_ne.2 (fun e => hs (hsz.1 (by rw [hz]; omega)))
        rw [hz] at HS
        clear h1 h2 hs hsz hV2 hz
        go_enter Tryz.func26, Tryz.ntmps26
        go_wp2_with (first | (go_at_call 38; refine (HI.out _).mono ?_; rintro e w1 ⟨rfl, rfl⟩) | (go_at_call 59; refine HX.out.mono ?_; rintro e w2 ⟨rfl, hb⟩; have HB := Lib.hid hb; clear hb) | (go_at_call 60; refine (HS.out _ HB.out).mono ?_; rintro e w3 ⟨rfl, hb3⟩))
        go_ret
        exact ⟨ret_bool (by rw [HV.out]), bel_trans HB.out hb3⟩
end Go.Proofs.YtjglbadkbhopoaaGreatDoor
namespace Go.Proofs.YtjglbadkbhopoaaGreatDoor
open Go.RowKit
set_option maxRecDepth 100000
set_option maxHeartbeats 4000000
set_option linter.unusedVariables false
theorem own_form {α : Type} {d : Kd α} {e base : Nat} {w : World} {v : Value} {xs : List α} (h : d.O e w base v xs) : (v = .slice none 0 0 ∧ xs = []) ∨ ∃ g cap, v = .slice (some ⟨g, 0, none⟩) xs.length cap ∧ base ≤ g := by
  obtain ⟨cs, ⟨_, h1⟩, _⟩ := h
  rcases h1 with ⟨rfl, hn⟩ | ⟨g, cap, cur, rfl, hb, _⟩
  · exact .inl ⟨rfl, List.eq_nil_of_length_eq_zero hn⟩
  · exact .inr ⟨g, cap, rfl, hb⟩
theorem cells_own {e base : Nat} {w : World} {g cap : Nat} {xs : List Int} (h : (Kd.int .i64).O e w base (.slice (some ⟨g, 0, none⟩) xs.length cap) xs) : ∀ j, j < xs.length → w.cell? ⟨g, 0 + j, none⟩ = some (.int .i64 (xs.getD j 0)) := fun j hj => by
  obtain ⟨A, c, ev, _, _, hC⟩ := Kd.O_read h
  injection ev with eA _ _
  obtain ⟨ad, ea, hc⟩ := int_at hC (List.getElem?_eq_getElem hj)
  rw [← eA] at ea
  injection ea with ea
  subst ea
  rw [List.getD_eq_getElem?_getD, List.getElem?_eq_getElem hj]
  have : (⟨g, 0, none⟩ : Addr).add j = ⟨g, 0 + j, none⟩ := by unfold Addr.add; split <;> simp_all
  rw [← this]; exact hc
theorem imHas_c (xs : List Int) (v : Value) (base : Nat) (n : Int) (w : World) (h : (Kd.int .i64).O 3 w base v xs) (hl : xs.length ≤ 1000000000) :
    Calls Tryz.prog 82 #[v, .int .i64 n] w fun e w' => e = .returned (.bool (decide (n ∈ xs))) ∧ w' = w := by
  rcases own_form h with ⟨rfl, rfl⟩ | ⟨g, cap, rfl, _⟩
  · refine (Tryz.slices_Contains_int_empty none 0 n w).mono ?_
    rintro e w' ⟨rfl, rfl⟩
    exact ⟨by simp, rfl⟩
  · refine (Tryz.slices_Contains_int g 0 xs.length cap xs n w (Nat.le_refl _) (by omega) (cells_own h)).mono ?_
    rintro e w' ⟨rfl, rfl⟩
    exact ⟨by rw [List.take_length, List.contains_eq_mem], rfl⟩
theorem litg {α : Type} (d : Kd α) (e : Nat) {w : World} {o : Obj} {x : α} {cs : List Value} (h : d.K (w.alloc o) x cs) : d.C e ((w.alloc o).alloc (.cells cs.toArray e)) (some ⟨w.heap.size + 1, 0, none⟩) [x] := by
  have := Kd.C_lit d e h
  rwa [show (w.alloc o).heap.size = w.heap.size + 1 from by show (w.heap.push o).size = _; rw [Array.size_push]] at this
theorem imFree_c (t : Trm) (A : Option Addr) (c : Nat) (w : World) (h : Kd.cell.C 47 w A t) (hl : t.length ≤ 1000000000) :
    Calls Tryz.prog 45 #[.slice A t.length c] w fun e w' => ∃ v, e = .returned v ∧ (Kd.int .i64).O 3 w' w.heap.size v (free t) ∧ Below w.heap.size w w' := by
  have H := Lib.hid h
  clear h
  go_enter Tryz.func45, Tryz.ntmps45
  go_wp2
  go_loopw [3, 8] (fun v3 v8 wr => ∃ (k : Nat) (D : List Int), v8 = .int .i64 k ∧ k ≤ t.length ∧ D.length ≤ k ∧ Hid ((t.take k).foldl freeStep [] = D) ∧ Hid ((Kd.int .i64).O 3 wr w.heap.size v3 D) ∧ Hid (Below w.heap.size w wr)) (fun _ v8 _ => t.length - (intOf v8).toNat)
  case atStart => exact ⟨0, [], rfl, Nat.zero_le _, Nat.zero_le _, Lib.hid rfl, Lib.hid (Kd.O_nil (Kd.int .i64) _ w _), Lib.hid (Below.refl _ _)⟩
  case round =>
    obtain ⟨k, D, rfl, hk, hD, HS, HO, HB⟩ := hrel
    by_cases hlt : k < t.length
    · obtain ⟨cc, hc⟩ : ∃ cc, t[k]? = some cc := ⟨_, List.getElem?_eq_getElem hlt⟩
      obtain ⟨ad, rfl, a1, a2, a3⟩ := cell_at (Kd.C_ext HB.out H.out) hc
      have HT := Lib.hid (free_take hc)
      rw [HS.out] at HT
      have HH := Lib.hid (fun o => imHas_c D _ _ cc.n (wr.alloc o) (Kd.O_alloc o HO.out) (by omega))
      clear hc
      by_cases h1 : cc.k = 1
      · have e1 : (cc.k == 1) = true := beq_iff_eq.2 h1
        by_cases hm : cc.n ∈ D
        · have HN := Lib.hid (show (t.take (k + 1)).foldl freeStep [] = D by rw [HT.out, freeStep, if_neg (fun h => h.2 hm)])
          rw [decide_eq_true hm] at HH
          clear hm h1
          go_wp2_with (go_at_call 82; refine (HH.out _).mono ?_; rintro e w1 ⟨rfl, rfl⟩)
          exact ⟨⟨k + 1, D, by go_num, by omega, by omega, HN, Lib.hid (Kd.O_alloc _ HO.out), Lib.hid (bel_alloc HB.out _)⟩, by simp [intOf]; omega⟩
        · have HN := Lib.hid (show (t.take (k + 1)).foldl freeStep [] = D ++ [cc.n] by rw [HT.out, freeStep, if_pos ⟨h1, hm⟩])
          rw [decide_eq_false hm] at HH
          clear hm h1
          go_wp2_with (first | (go_at_call 82; refine (HH.out _).mono ?_; rintro e w1 ⟨rfl, rfl⟩) | (at_builtin; refine wp_append (d := Kd.int .i64) _ rfl (.tmp 22) (.tmp 25) 72 rfl w.heap.size 3 _ 8 Tryz.underlying72 infoInt rfl (by decide) _ D rfl (Kd.O_alloc _ (Kd.O_alloc _ HO.out)) _ [cc.n] _ _ rfl rfl (litg (Kd.int .i64) _ (x := cc.n) (cs := [.int .i64 cc.n]) rfl) ?c1 ?c2 ?c3 (fun q hq => by simp [Kd.int] at hq) ?_; (case c1 => simp [maxLen]; omega); (case c2 => simp; omega); (case c3 => simp; have := HB.out.size; omega); intro v' w' ho hg hat; have hb := Lib.hid (bel_grown (bel_alloc (bel_alloc HB.out _) _) (Kd.O_alloc _ (Kd.O_alloc _ HO.out)) hg); have ho' := Lib.hid ho; clear ho hg hat))
          exact ⟨⟨k + 1, D ++ [cc.n], by go_num, by omega, by simp; omega, HN, ho', hb⟩, by simp [intOf]; omega⟩
      · have e1 : (cc.k == 1) = false := beq_eq_false_iff_ne.2 h1
        have HN := Lib.hid (show (t.take (k + 1)).foldl freeStep [] = D by rw [HT.out, freeStep, if_neg (fun h => h1 h.1)])
        clear h1
        go_wp2
        exact ⟨⟨k + 1, D, by go_num, by omega, by omega, HN, Lib.hid (Kd.O_alloc _ HO.out), Lib.hid (bel_alloc HB.out _)⟩, by simp [intOf]; omega⟩
    · have HV := Lib.hid (show free t = D by rw [← HS.out, List.take_of_length_le (by omega)]; rfl)
      go_wp2
      go_ret
      exact ⟨_, rfl, by rw [HV.out]; exact HO.out, HB.out⟩
end Go.Proofs.YtjglbadkbhopoaaGreatDoor
