/- Lemmas and contracts for FnOutOk, part 23. -/
import Derived.Test.YtjglbadkbhopoaaGreatDoorW17
import Derived.Test.YtjglbadkbhopoaaGreatDoorW21
import Derived.Test.YtjglbadkbhopoaaGreatDoorW02
import Derived.Test.YtjglbadkbhopoaaGreatDoorW22
import Derived.Test.YtjglbadkbhopoaaGreatDoorW09
import Derived.Test.YtjglbadkbhopoaaGreatDoorW20
namespace Go.Proofs.YtjglbadkbhopoaaGreatDoor
open Go.RowKit
set_option maxRecDepth 100000
set_option maxHeartbeats 8000000
set_option linter.unusedVariables false
theorem out4_c (s : TSt) (gv bv cv tv ov : Value) (B : Nat) (w : World) (hs : StV B w s gv bv cv tv ov) (hl : s.out.length ≤ 1000000) :
    Calls Tryz.prog 102 #[.agg #[.int .i64 s.st, gv, bv, .int .i64 s.vars, cv, tv, ov]] w fun e w' => ∃ v, e = .returned (.agg #[.int .i64 s.st, v]) ∧ T0 w' v s.out ∧ Below w.heap.size w w' := by
  have HO := Lib.hid hs.o
  obtain ⟨GA, gn, rfl, -, -, -⟩ := hs.g
  obtain ⟨BA, bn, rfl, -, -, -⟩ := hs.b
  obtain ⟨CA, cn, ec, -, -, -⟩ := Kd.O_read hs.c
  rw [List.length_map] at ec
  obtain rfl := ec
  obtain ⟨TA, tn, rfl, -, -, -⟩ := hs.t
  obtain ⟨OA, on, rfl, -, -, -⟩ := hs.o
  have HB0 := Lib.hid (show Below w.heap.size w ((w.alloc (.cells #[.int .i64 s.st, .slice GA s.goals.length gn, .slice BA s.binds.length bn, .int .i64 s.vars, .slice CA s.ch.length cn, .slice TA s.top.length tn, .slice OA s.out.length on] 139)).alloc (.cells #[.int .i64 0, .slice none 0 0] 25)) from bel_alloc (bel_alloc (Below.refl _ _) _) _)
  have HS0 := Lib.hid (show Bx ((w.alloc (.cells #[.int .i64 s.st, .slice GA s.goals.length gn, .slice BA s.binds.length bn, .int .i64 s.vars, .slice CA s.ch.length cn, .slice TA s.top.length tn, .slice OA s.out.length on] 139)).alloc (.cells #[.int .i64 0, .slice none 0 0] 25)) (w.heap.size) 139 #[.int .i64 s.st, .slice GA s.goals.length gn, .slice BA s.binds.length bn, .int .i64 s.vars, .slice CA s.ch.length cn, .slice TA s.top.length tn, .slice OA s.out.length on] from by have h := Bx.alloc (Bx.new w 139 #[.int .i64 s.st, .slice GA s.goals.length gn, .slice BA s.binds.length bn, .int .i64 s.vars, .slice CA s.ch.length cn, .slice TA s.top.length tn, .slice OA s.out.length on]) (.cells #[.int .i64 0, .slice none 0 0] 25); simpa only [size_alloc] using h)
  have HR0 := Lib.hid (show Bx ((w.alloc (.cells #[.int .i64 s.st, .slice GA s.goals.length gn, .slice BA s.binds.length bn, .int .i64 s.vars, .slice CA s.ch.length cn, .slice TA s.top.length tn, .slice OA s.out.length on] 139)).alloc (.cells #[.int .i64 0, .slice none 0 0] 25)) (w.heap.size + 1) 25 #[.int .i64 0, .slice none 0 0] from by have h := Bx.new (w.alloc (.cells #[.int .i64 s.st, .slice GA s.goals.length gn, .slice BA s.binds.length bn, .int .i64 s.vars, .slice CA s.ch.length cn, .slice TA s.top.length tn, .slice OA s.out.length on] 139)) 25 #[.int .i64 0, .slice none 0 0]; simpa only [size_alloc] using h)
  clear hs
  go_enter Tryz.func102, Tryz.ntmps102
  go_upto_region 1 with (fail)
  generalize ((w.alloc (.cells #[.int .i64 s.st, .slice GA s.goals.length gn, .slice BA s.binds.length bn, .int .i64 s.vars, .slice CA s.ch.length cn, .slice TA s.top.length tn, .slice OA s.out.length on] 139)).alloc (.cells #[.int .i64 0, .slice none 0 0] 25)) = w0 at *
  have hsz : w.heap.size + 1 < w0.heap.size := (Array.getElem?_eq_some_iff.1 HR0.out).1
  have hst : ∀ W1 W2, Below W1.heap.size W1 W2 → (W1.cell? ⟨w.heap.size, 0, none⟩ = some (.int .i64 s.st) ∧ W1.cell? ⟨w.heap.size, 6, none⟩ = some (.slice OA s.out.length on) ∧ Hid (Below w.heap.size w W1)) → (W2.cell? ⟨w.heap.size, 0, none⟩ = some (.int .i64 s.st) ∧ W2.cell? ⟨w.heap.size, 6, none⟩ = some (.slice OA s.out.length on) ∧ Hid (Below w.heap.size w W2)) := fun W1 W2 hb h => ⟨cell_keep hb h.1, cell_keep hb h.2.1, Lib.hid (bel_trans h.2.2.out hb)⟩
  have hS0 := hst w0 w0.drew (bel_drew (Below.refl _ _)) ⟨Bx.at' HS0.out 0 _ rfl, Bx.at' HS0.out 6 _ rfl, HB0⟩
  go_region_held3 (fun W => W.cell? ⟨w.heap.size, 0, none⟩ = some (.int .i64 s.st) ∧ W.cell? ⟨w.heap.size, 6, none⟩ = some (.slice OA s.out.length on) ∧ Hid (Below w.heap.size w W)) (first | (with_reducible assumption) | exact hst _ _ (bel_alloc (Below.refl _ _) _) (by assumption)) (first | (refine step_app AppI.cell rfl rfl (O_empty_at Kd.cell _ w0.drew (g := w0.heap.size) rfl (base := w0.drew.heap.size) (Nat.le_refl _)) rfl (Kd.S_alloc _ (Kd.S_ext hS0.2.2.out HO.out)) rfl (by simp; omega) (bel_alloc (Below.refl _ _) _).size ?_; intro v1 w2 hg; have hB2 := hg.below (bel_alloc (Below.refl _ w0.drew) _) (O_empty_at Kd.cell _ w0.drew (g := w0.heap.size) rfl (base := w0.drew.heap.size) (Nat.le_refl _)); have hS2 := hst _ _ hB2 hS0; have hown := hg.own; rw [List.nil_append] at hown; have HV := Lib.hid (Kd.O_read hown); obtain ⟨VA, vn, rfl, -, -, -⟩ := Kd.O_read hown; have hb02 := bel_trans (bel_drew (Below.refl _ w0)) hB2; have HR2 := Lib.hid (Bx.below HR0.out hb02); have HS2 := Lib.hid (Bx.below HS0.out hb02); obtain ⟨m0, m1, m2, m3, HE⟩ := put_2 HR2.out (.int .i64 s.st) (.slice VA s.out.length vn); have h18 : (((w2.setCell ⟨w.heap.size + 1, 0, none⟩ (.int .i64 s.st)).setCell ⟨w.heap.size + 1, 1, none⟩ (.slice VA s.out.length vn)).cell? ⟨w.heap.size, 0, none⟩ = some (.int .i64 s.st) ∧ ((w2.setCell ⟨w.heap.size + 1, 0, none⟩ (.int .i64 s.st)).setCell ⟨w.heap.size + 1, 1, none⟩ (.slice VA s.out.length vn)).cell? ⟨w.heap.size, 6, none⟩ = some (.slice OA s.out.length on) ∧ Hid (Below w.heap.size w ((w2.setCell ⟨w.heap.size + 1, 0, none⟩ (.int .i64 s.st)).setCell ⟨w.heap.size + 1, 1, none⟩ (.slice VA s.out.length vn)))) := ⟨Bx.at' (Bx.far (Bx.far HS2.out (g' := w.heap.size + 1) (by omega) 0 (.int .i64 s.st)) (g' := w.heap.size + 1) (by omega) 1 (.slice VA s.out.length vn)) 0 (.int .i64 s.st) rfl, Bx.at' (Bx.far (Bx.far HS2.out (g' := w.heap.size + 1) (by omega) 0 (.int .i64 s.st)) (g' := w.heap.size + 1) (by omega) 1 (.slice VA s.out.length vn)) 6 (.slice OA s.out.length on) rfl, Lib.hid (HE.out.2.2 w.heap.size w (by omega) hS2.2.2.out)⟩; clear hg hown hB2) | fail)
  all_goals
    go_wp2
    refine bodyPost_ret (results_cell_row rfl _ _ (w.heap.size + 1) 25 _ (0, 0) _ rfl HE.out.1 Tryz.underlying25 rfl (by kernel_rfl)) rfl ?_
    exact ⟨_, rfl, HE.out.2.1.S HV.out (by decide), h18.2.2.out⟩
theorem new4_c (top : Trm) (tv : Value) (w : World) (h : T0 w tv top) (hq : isQ top = true) :
    Calls Tryz.prog 99 #[tv] w fun e w' => ∃ gv bv cv tv ov, e = .returned (.agg #[.int .i64 (tNew top).st, gv, bv, .int .i64 (tNew top).vars, cv, tv, ov]) ∧ StV w.heap.size w' (tNew top) gv bv cv tv ov ∧ Below w.heap.size w w' := by
  have HT := Lib.hid h
  have hl := isQ_len4 hq
  have e : tNew top = ⟨1, [⟨⟨1, top, [], []⟩, 0⟩], [], (free top).length, [], top, []⟩ := by unfold tNew; rw [if_pos hq]
  have HQ := Lib.hid (show ∀ W A c, Below w.heap.size w W → T0 W (.slice A top.length c) top → Calls Tryz.prog 19 #[.slice A top.length c] W fun e w' => e = .returned (.bool true) ∧ Below W.heap.size W w' from fun W A c hb ht => by
    obtain ⟨A', c', ev, -, -, hC⟩ := ht
    injection ev with v1 v2 v3
    subst v1
    have h := top_c top A c W hC (by omega)
    rw [hq] at h
    exact h)
  have HFr := Lib.hid (show ∀ W A c, T0 W (.slice A top.length c) top → Calls Tryz.prog 52 #[.slice A top.length c] W fun e w' => ∃ n A k, n = (free top).length ∧ e = .returned (.slice A n k) ∧ Below W.heap.size W w' from fun W A c ht => by
    obtain ⟨A', c', ev, -, -, hC⟩ := ht
    injection ev with v1 v2 v3
    subst v1
    refine (free_c top A c W hC (by omega)).mono ?_
    rintro e w' ⟨v, rfl, ho, hb⟩
    obtain ⟨B, k, rfl, -, -, -⟩ := Kd.O_read ho
    exact ⟨_, B, k, rfl, rfl, hb⟩)
  rw [e]
  dsimp only
  obtain ⟨TA, tn, rfl, -, -, -⟩ := h
  clear hq e
  have HB0 := Lib.hid (show Below w.heap.size w (w.alloc (.cells #[.int .i64 0, .slice none 0 0, .slice none 0 0, .int .i64 0, .slice none 0 0, .slice none 0 0, .slice none 0 0] 139)) from bel_alloc (Below.refl _ _) _)
  have HR0 := Lib.hid (show Bx (w.alloc (.cells #[.int .i64 0, .slice none 0 0, .slice none 0 0, .int .i64 0, .slice none 0 0, .slice none 0 0, .slice none 0 0] 139)) (w.heap.size) 139 #[.int .i64 0, .slice none 0 0, .slice none 0 0, .int .i64 0, .slice none 0 0, .slice none 0 0, .slice none 0 0] from Bx.new w 139 #[.int .i64 0, .slice none 0 0, .slice none 0 0, .int .i64 0, .slice none 0 0, .slice none 0 0, .slice none 0 0])
  go_enter Tryz.func99, Tryz.ntmps99
  go_upto_region 3 with (first | (go_at_call 19; (with_reducible refine (HQ.out _ _ _ HB0.out (Kd.S_ext HB0.out HT.out)).mono ?_); rintro e w1 ⟨rfl, hb'⟩; have HB1 := Lib.hid (bel_trans HB0.out hb'); have HR1 := Lib.hid (Bx.below HR0.out hb'); have HT1 := Lib.hid (Kd.S_ext HB1.out HT.out); clear hb') | fail)
  go_wp2_with (first | (at_builtin; refine wp_app AppI.cell rfl rfl (Kd.O_empty Kd.cell _ w1 (Nat.le_refl _)) rfl (Kd.S_alloc _ HT1.out) rfl (by simp; omega) (bel_alloc (Below.refl _ _) _).size ?_; intro v2 w2 hg; have hb' := hg.below (bel_alloc (Below.refl _ w1) _) (Kd.O_empty Kd.cell _ w1 (Nat.le_refl _)); have HB2 := Lib.hid (bel_trans HB1.out hb'); have HR2 := Lib.hid (Bx.below HR1.out hb'); have hown := hg.own; rw [List.nil_append] at hown; have HG2 := Lib.hid (Kd.O_read hown); obtain ⟨VA, vn, rfl, -, -, -⟩ := Kd.O_read hown; have HT2 := Lib.hid (Kd.S_ext hb' HT1.out); have HBa := Lib.hid (bel_alloc HB2.out (.cells #[.int .i64 1, .slice VA top.length vn, .slice none 0 0, .slice none 0 0, .int .i64 0] 168)); have HRa := Lib.hid (Bx.alloc HR2.out (.cells #[.int .i64 1, .slice VA top.length vn, .slice none 0 0, .slice none 0 0, .int .i64 0] 168)); have HTa := Lib.hid (Kd.S_alloc (.cells #[.int .i64 1, .slice VA top.length vn, .slice none 0 0, .slice none 0 0, .int .i64 0] 168) HT2.out); have HGo := Lib.hid (Kd.S_lit Kd.sgoal 168 (w := w2) (x := (⟨⟨1, top, [], []⟩, 0⟩ : SGoal)) (cs := [.int .i64 1, .slice VA top.length vn, .slice none 0 0, .slice none 0 0, .int .i64 0]) ⟨_, _, _, rfl, HG2.out, Kd.S_nil _ _ _, Kd.S_nil _ _ _⟩ rfl); clear hg hb' hown) | (go_at_call 52; (with_reducible refine (HFr.out _ _ _ HTa.out).mono ?_); rintro e w3 ⟨n3, A3, k3, hn3, rfl, hb'⟩; have HN3 := Lib.hid hn3; have HB3 := Lib.hid (bel_trans HBa.out hb'); have HR3 := Lib.hid (Bx.below HRa.out hb'); have HT3 := Lib.hid (Kd.S_ext hb' HTa.out); have HGo3 := Lib.hid (Kd.S_ext hb' HGo.out); clear hb' hn3) | (at_builtin; refine wp_app AppI.cell rfl rfl (Kd.O_empty Kd.cell _ w3 (Nat.le_refl _)) rfl (Kd.S_alloc _ HT3.out) rfl (by simp; omega) (bel_alloc (Below.refl _ _) _).size ?_; intro v4 w4 hg; have hb' := hg.below (bel_alloc (Below.refl _ w3) _) (Kd.O_empty Kd.cell _ w3 (Nat.le_refl _)); have HB4 := Lib.hid (bel_trans HB3.out hb'); have HR4 := Lib.hid (Bx.below HR3.out hb'); have hown := hg.own; rw [List.nil_append] at hown; have HT4 := Lib.hid (Kd.O_read hown); obtain ⟨VB, vm, rfl, -, -, -⟩ := Kd.O_read hown; have HGo4 := Lib.hid (Kd.S_ext hb' HGo3.out); obtain ⟨m0, m1, m2, m3, m4, m5, m6, m7, m8, m9, m10, m11, m12, m13, HE⟩ := put_7 HR4.out (.int .i64 1) (.slice (some ⟨w2.heap.size, 0, none⟩) 1 1) (.slice none 0 0) (.int .i64 (n3 : Int)) (.slice none 0 0) (.slice VB top.length vm) (.slice none 0 0); clear hg hb' hown) | fail)
  refine bodyPost_ret (results_cell_row rfl _ _ (w.heap.size) 139 _ (0, 0) _ rfl HE.out.1 Tryz.underlying139 rfl (by kernel_rfl)) rfl ?_
  exact ⟨_, _, _, _, _, by rw [HN3.out], StV.mk (HE.out.2.1.S HGo4.out (by decide)) (Kd.S_nil _ _ _) (Kd.O_nil _ _ _ _) (HE.out.2.1.S HT4.out (by decide)) (Kd.S_nil _ _ _), HE.out.2.2 w.heap.size w (Nat.le_refl _) HB4.out⟩
#print axioms new4_c
end Go.Proofs.YtjglbadkbhopoaaGreatDoor
namespace Go.Proofs.YtjglbadkbhopoaaGreatDoor
open Go.RowKit
set_option maxRecDepth 100000
set_option maxHeartbeats 8000000
set_option linter.unusedVariables false
theorem AppI.sout : AppI Tryz.prog 99 25 Kd.sout := ⟨Tryz.underlying99, ⟨.agg #[.int .i64 0, .slice none 0 0], 32, by kernel_rfl, rfl, by decide⟩, by decide, fun q hq => by
  have : q = 47 := by simpa [Kd.bind, Kd.pair, Kd.int, Kd.slice, Kd.cell] using hq
  rw [this]; decide⟩
theorem StV.base {B B' : Nat} {w : World} {s : TSt} {gv bv cv tv ov : Value} (h : StV B w s gv bv cv tv ov) (hb : B' ≤ B) : StV B' w s gv bv cv tv ov := ⟨h.g, h.b, Kd.O_base h.c hb, h.t, h.o⟩
theorem StV.butO {B : Nat} {w w' : World} {s : TSt} {gv bv cv tv ov : Value} (h : StV B w s gv bv cv tv ov) (hk : KeepBut 25 w w') : StV B w' s gv bv cv tv ov := ⟨hk.S h.g (by decide), hk.S h.b (by decide), hk.O h.c (by decide), hk.S h.t (by decide), hk.S h.o (by decide)⟩
theorem outsL_stop {p : Prog} {most : Int} {left : Nat} {x : TSt} {outs : List SOut} (h : ¬ (outs.length : Int) < most ∨ left = 0) : outsL p most left x outs = (outs, 0) := by
  cases left with
  | zero => rfl
  | succ l =>
    unfold outsL
    rw [if_neg (by rcases h with h | h; exact h; cases h)]
theorem new_sz {top : Trm} (hq : isQ top = true) : SzB 1 (tNew top) := by
  have e : tNew top = ⟨1, [⟨⟨1, top, [], []⟩, 0⟩], [], (free top).length, [], top, []⟩ := by unfold tNew; rw [if_pos hq]
  rw [e]
  exact ⟨Nat.le_refl _, Nat.zero_le _, fun c hc => by cases hc⟩
structure OInv (p : Prog) (most : Int) (F : Nat) (Z1 : List SOut) (Z2 : Nat) (left : Nat) (outs : List SOut) (x : TSt) : Prop where
  tok : Tok true p (-1) x
  st : x.st = 1 ∨ x.st = 2
  sz : SzB (1 + 6 * (F - left)) x
  len : outs.length + left ≤ F
  r1 : (outsL p most left x outs).1 = Z1
  r2 : (outsL p most left x outs).2 + (F - left) = Z2
theorem sout_lit {w : World} {k : Int} {v : Value} {t : Trm} (h : T0 w v t) : Kd.sout.S 25 (w.alloc (.cells #[.int .i64 k, v] 25)) (.slice (some ⟨w.heap.size, 0, none⟩) 1 1) [(k, t)] :=
  Kd.S_lit Kd.sout 25 (w := w) (x := (k, t)) (cs := [.int .i64 k, v]) ⟨[.int .i64 k], [v], rfl, rfl, _, rfl, h⟩ rfl
theorem outs4_c {p : Prog} (top : Trm) (most : Int) (F : Nat) (p1 p2 tv : Value) (w : World) (hp : PrR w p p1 p2) (hfit : fitP p) (ht : T0 w tv top) (htl : top.length ≤ 1000000000) (hF : 1 ≤ F ∧ F ≤ 12000) :
    Calls Tryz.prog 70 #[.agg #[p1, p2], tv, .int .i64 most, .int .i64 (F : Int)] w fun e w' => ∃ v, e = .returned (.tuple #[v, .int .i64 ((slvOuts p top most F).2 : Int)]) ∧ Kd.sout.O 25 w' w.heap.size v (slvOuts p top most F).1 ∧ Below w.heap.size w w' := by
  have HPr := Lib.hid hp
  have HT := Lib.hid ht
  have hf0 : decide ((12000 : Int) < (F : Int)) = false := decide_eq_false (by omega)
  have HQ := Lib.hid (show ∀ W A c, T0 W (.slice A top.length c) top → Calls Tryz.prog 19 #[.slice A top.length c] W fun e w' => e = .returned (.bool (isQ top)) ∧ Below W.heap.size W w' from fun W A c ht => by
    obtain ⟨A', c', ev, -, -, hC⟩ := ht
    injection ev with v1 v2 v3
    subst v1
    exact top_c top A c W hC htl)
  have HPk := Lib.hid (fun W (hb : Below w.heap.size w W) => prgOkS_c p p1 p2 W (hp.ext hb).c (hp.ext hb).p hfit)
  have HNw := Lib.hid (fun W {fv : Value} (hf : T0 W fv top) (hq : isQ top = true) => new4_c top fv W hf hq)
  obtain ⟨Z1, Z2, hZ⟩ : ∃ Z1 Z2, slvOuts p top most F = (Z1, Z2) := ⟨_, _, rfl⟩
  rw [hZ]
  dsimp only
  unfold slvOuts at hZ
  have hin : inR (F : Int) 1 12000 = true := inR_iff.2 ⟨by omega, by omega⟩
  rw [hin, Bool.and_true, Int.toNat_natCast] at hZ
  obtain ⟨P1, q1, rfl, -, -, -⟩ := hp.c
  obtain ⟨P2, q2, rfl, -, -, -⟩ := hp.p
  obtain ⟨TA, tn, rfl, -, -, -⟩ := ht
  have HB0 := Lib.hid (show Below w.heap.size w ((w.alloc (.cells #[.slice P1 p.cl.length q1, .slice P2 p.pl.length q2] 58)).alloc (.cells #[] 25)) from bel_alloc (bel_alloc (Below.refl _ _) _) _)
  have HP0 := Lib.hid (show Bx ((w.alloc (.cells #[.slice P1 p.cl.length q1, .slice P2 p.pl.length q2] 58)).alloc (.cells #[] 25)) (w.heap.size) 58 #[.slice P1 p.cl.length q1, .slice P2 p.pl.length q2] from Bx.alloc (Bx.new w 58 #[.slice P1 p.cl.length q1, .slice P2 p.pl.length q2]) _)
  have HO0 := Lib.hid (show Kd.sout.O 25 ((w.alloc (.cells #[.slice P1 p.cl.length q1, .slice P2 p.pl.length q2] 58)).alloc (.cells #[] 25)) w.heap.size (.slice (some ⟨w.heap.size + 1, 0, none⟩) 0 0) [] from O_empty_at Kd.sout _ _ (g := w.heap.size + 1) (by rw [size_alloc]) (by rw [size_alloc]; omega))
  cases hqp : prgOk p with
  | false =>
    rw [hqp] at hZ
    have hZ := hZ.symm
    injection hZ with z1 z2
    subst z1
    subst z2
    have HQp := Lib.hid hqp
    clear hqp hin
    go_enter Tryz.func70, Tryz.ntmps70
    go_wp2_with (first | (go_at_call 94; (with_reducible refine (HPk.out _ HB0.out).mono ?_); rintro e w1 ⟨rfl, hb'⟩; rw [HQp.out]; have HB1 := Lib.hid (bel_trans HB0.out hb'); have HP1 := Lib.hid (Bx.below HP0.out hb'); have HO1 := Lib.hid (Kd.O_ext hb' HO0.out); have HT1 := Lib.hid (Kd.S_ext HB1.out HT.out); clear hb') | fail)
    go_ret2
    exact ⟨_, rfl, HO1.out, HB1.out⟩
  | true =>
    cases hqq : isQ top with
    | false =>
      rw [hqp, hqq] at hZ
      have hZ := hZ.symm
      injection hZ with z1 z2
      subst z1
      subst z2
      have HQp := Lib.hid hqp
      have HQq := Lib.hid hqq
      clear hqp hqq hin
      go_enter Tryz.func70, Tryz.ntmps70
      go_wp2_with (first | (go_at_call 94; (with_reducible refine (HPk.out _ HB0.out).mono ?_); rintro e w1 ⟨rfl, hb'⟩; rw [HQp.out]; have HB1 := Lib.hid (bel_trans HB0.out hb'); have HP1 := Lib.hid (Bx.below HP0.out hb'); have HO1 := Lib.hid (Kd.O_ext hb' HO0.out); have HT1 := Lib.hid (Kd.S_ext HB1.out HT.out); clear hb') | (go_at_call 19; (with_reducible refine (HQ.out _ _ _ HT1.out).mono ?_); rintro e w2 ⟨rfl, hb'⟩; rw [HQq.out]; have HB2 := Lib.hid (bel_trans HB1.out hb'); have HP2 := Lib.hid (Bx.below HP1.out hb'); have HO2 := Lib.hid (Kd.O_ext hb' HO1.out); have HT2 := Lib.hid (Kd.S_ext HB2.out HT.out); clear hb') | fail)
      go_ret2
      exact ⟨_, rfl, HO2.out, HB2.out⟩
    | true =>
      rw [hqp, hqq, Bool.and_true, if_pos rfl] at hZ
      have HQp := Lib.hid hqp
      have HQq := Lib.hid hqq
      obtain ⟨n1, n2, n3⟩ := tNew_ok (node := -1) hqp (by decide) hqq
      have n4 := new_sz hqq
      obtain ⟨s0, hs0⟩ : ∃ s0, tNew top = s0 := ⟨_, rfl⟩
      rw [hs0] at HNw hZ n1 n2 n3 n4
      have HI0 := Lib.hid (show OInv p most F Z1 Z2 F [] s0 from ⟨n1, .inl n3, by simpa using n4, by simp, by rw [hZ], by rw [hZ]; simp⟩)
      clear hqp hqq hZ n1 n2 n3 n4 hs0 hin
      go_enter Tryz.func70, Tryz.ntmps70
      go_wp2_with (first | (go_at_call 94; (with_reducible refine (HPk.out _ HB0.out).mono ?_); rintro e w1 ⟨rfl, hb'⟩; rw [HQp.out]; have HB1 := Lib.hid (bel_trans HB0.out hb'); have HP1 := Lib.hid (Bx.below HP0.out hb'); have HO1 := Lib.hid (Kd.O_ext hb' HO0.out); have HT1 := Lib.hid (Kd.S_ext HB1.out HT.out); have HB01 := Lib.hid hb'; clear hb') | (go_at_call 19; (with_reducible refine (HQ.out _ _ _ HT1.out).mono ?_); rintro e w2 ⟨rfl, hb'⟩; rw [HQq.out]; have HB2 := Lib.hid (bel_trans HB1.out hb'); have HP2 := Lib.hid (Bx.below HP1.out hb'); have HO2 := Lib.hid (Kd.O_ext hb' HO1.out); have HT2 := Lib.hid (Kd.S_ext HB2.out HT.out); have HB01 := Lib.hid (bel_trans HB01.out hb'); clear hb'; have HZ2 := Lib.hid (show w.heap.size + 1 < w2.heap.size from by have h1 := HB01.out.size; rw [size_alloc, size_alloc] at h1; omega)) | (go_at_call 99; (with_reducible refine (HNw.out _ HT2.out HQq.out).mono ?_); rintro e w3 ⟨sg, sb, sc, st, so, rfl, hst, hb'⟩; have HSa := Lib.hid ((hst.base HB2.out.size).ext (bel_alloc (Below.refl w3.heap.size w3) (.cells #[.int .i64 s0.st, sg, sb, .int .i64 s0.vars, sc, st, so] 139))); have hst := HSa.out; obtain ⟨SG, sg, rfl, -, -, -⟩ := hst.g; obtain ⟨SB, sb, rfl, -, -, -⟩ := hst.b; obtain ⟨SC, sc, erc, -, -, -⟩ := Kd.O_read hst.c; rw [List.length_map] at erc; obtain rfl := erc; obtain ⟨ST, st, rfl, -, -, -⟩ := hst.t; obtain ⟨SO, so, rfl, -, -, -⟩ := hst.o; have HB3 := Lib.hid (bel_alloc (bel_trans HB2.out hb') (.cells #[.int .i64 s0.st, .slice SG s0.goals.length sg, .slice SB s0.binds.length sb, .int .i64 s0.vars, .slice SC s0.ch.length sc, .slice ST s0.top.length st, .slice SO s0.out.length so] 139)); have HP3 := Lib.hid (Bx.alloc (Bx.below HP2.out hb') (.cells #[.int .i64 s0.st, .slice SG s0.goals.length sg, .slice SB s0.binds.length sb, .int .i64 s0.vars, .slice SC s0.ch.length sc, .slice ST s0.top.length st, .slice SO s0.out.length so] 139)); have HO3 := Lib.hid (Kd.O_alloc (.cells #[.int .i64 s0.st, .slice SG s0.goals.length sg, .slice SB s0.binds.length sb, .int .i64 s0.vars, .slice SC s0.ch.length sc, .slice ST s0.top.length st, .slice SO s0.out.length so] 139) (Kd.O_ext hb' HO2.out)); have HX3 := Lib.hid (Bx.new w3 139 #[.int .i64 s0.st, .slice SG s0.goals.length sg, .slice SB s0.binds.length sb, .int .i64 s0.vars, .slice SC s0.ch.length sc, .slice ST s0.top.length st, .slice SO s0.out.length so]); have hz3 : w.heap.size + 1 < w3.heap.size := Nat.lt_of_lt_of_le (by have := (Array.getElem?_eq_some_iff.1 HP2.out).1; have h2 := HZ2.out; omega) hb'.size; clear hb' hst) | fail)
      go_loopw [10, 12] (fun v10 v12 wr => ∃ (left : Nat) (outs : List SOut) (x : TSt) (OA : Option Addr) (oc : Nat) (XG XB XC XT XO : Option Addr) (xg xb xc xt xo : Nat), v10 = .slice OA outs.length oc ∧ v12 = .int .i64 (left : Int) ∧ left ≤ F ∧ Hid (Kd.sout.O 25 wr w.heap.size (.slice OA outs.length oc) outs) ∧ Hid (OInv p most F Z1 Z2 left outs x) ∧ Hid (StV w.heap.size wr x (.slice XG x.goals.length xg) (.slice XB x.binds.length xb) (.slice XC x.ch.length xc) (.slice XT x.top.length xt) (.slice XO x.out.length xo)) ∧ Hid (Below w.heap.size w wr) ∧ Hid (Bx wr (w.heap.size) 58 #[.slice P1 p.cl.length q1, .slice P2 p.pl.length q2]) ∧ Hid (Bx wr (w3.heap.size) 139 #[.int .i64 x.st, .slice XG x.goals.length xg, .slice XB x.binds.length xb, .int .i64 x.vars, .slice XC x.ch.length xc, .slice XT x.top.length xt, .slice XO x.out.length xo])) (fun _ v12 _ => (intOf v12).toNat)
      case atStart => exact ⟨F, [], s0, _, _, _, _, _, _, _, _, _, _, _, _, rfl, rfl, Nat.le_refl _, HO3, HI0, HSa, HB3, HP3, HX3⟩
      case round =>
        obtain ⟨left, outs, x, OA, oc, XG, XB, XC, XT, XO, xg, xb, xc, xt, xo, rfl, rfl, hlf, HOr, HIr, HSr, HBr, HPr', HXr⟩ := hrel
        clear HB0 HP0 HO0 HB1 HP1 HO1 HT1 HB2 HP2 HO2 HT2 HB3 HP3 HO3 HX3 HSa
        have hol : outs.length + left ≤ F := HIr.out.len
        have bx_0 := Bx.at' HXr.out 0 (.int .i64 x.st) rfl
        have bx_1 := Bx.at' HXr.out 1 (.slice XG x.goals.length xg) rfl
        have bx_2 := Bx.at' HXr.out 2 (.slice XB x.binds.length xb) rfl
        have bx_3 := Bx.at' HXr.out 3 (.int .i64 x.vars) rfl
        have bx_4 := Bx.at' HXr.out 4 (.slice XC x.ch.length xc) rfl
        have bx_5 := Bx.at' HXr.out 5 (.slice XT x.top.length xt) rfl
        have bx_6 := Bx.at' HXr.out 6 (.slice XO x.out.length xo) rfl
        have ax_0 := Bx.at' HPr'.out 0 (.slice P1 p.cl.length q1) rfl
        have ax_1 := Bx.at' HPr'.out 1 (.slice P2 p.pl.length q2) rfl
        by_cases hm : ¬ (outs.length : Int) < most
        · have fm : decide ((outs.length : Int) < most) = false := decide_eq_false hm
          have hz1 : outs = Z1 := by have h := HIr.out.r1; rw [outsL_stop (.inl hm)] at h; exact h
          have hz2 : F - left = Z2 := by have h := HIr.out.r2; rw [outsL_stop (.inl hm)] at h; omega
          subst hz1
          subst hz2
          go_wp2
          go_ret2
          exact ⟨_, by simp only [Ending.returned.injEq, Value.tuple.injEq]; first | rfl | (congr 3; go_num) | (simp; omega), HOr.out, HBr.out⟩
        have hm : (outs.length : Int) < most := Decidable.of_not_not hm
        have fm : decide ((outs.length : Int) < most) = true := decide_eq_true hm
        by_cases hl0 : left = 0
        · have fl : decide ((0 : Int) < (left : Int)) = false := decide_eq_false (by omega)
          have hz1 : outs = Z1 := by have h := HIr.out.r1; rw [outsL_stop (.inr hl0)] at h; exact h
          have hz2 : F - left = Z2 := by have h := HIr.out.r2; rw [outsL_stop (.inr hl0)] at h; omega
          subst hz1
          subst hz2
          go_wp2
          go_ret2
          exact ⟨_, by simp only [Ending.returned.injEq, Value.tuple.injEq]; first | rfl | (congr 3; go_num) | (simp; omega), HOr.out, HBr.out⟩
        have fl : decide ((0 : Int) < (left : Int)) = true := decide_eq_true (by omega)
        by_cases h2 : x.st = 2
        · have f2 : (x.st == 2) = true := beq_iff_eq.2 h2
          obtain ⟨l, rfl⟩ : ∃ l, left = l + 1 := ⟨left - 1, by omega⟩
          obtain ⟨r, hr⟩ : ∃ r, tStep p (-1) x = r := ⟨_, rfl⟩
          have HFn := Lib.hid (show (fin4 p most l (runL p l r) outs).1 = Z1 ∧ (fin4 p most l (runL p l r) outs).2 + (F - l) = Z2 from by
            have e := outsL_step p (r := l) (s := x) hm (fun h => outsL_run p l _ outs h hm)
            have e1 := HIr.out.r1
            have e2 := HIr.out.r2
            rw [e, hr] at e1 e2
            exact ⟨e1, by dsimp only at e2; omega⟩)
          have HTk := Lib.hid (prgOk_nd HQp.out HIr.out.tok hr.symm).1
          have HSz := Lib.hid (show SzB (1 + 6 * (F - l)) r from by have := step_sz HQp.out HIr.out.sz (hr ▸ tStep_eq p (-1) x); exact this.mono (by omega))
          have HSp := Lib.hid (step4_c (n := fuelOf p x) x r _ _ _ _ _ _ _ w.heap.size (1 + 6 * (F - (l + 1))) wr (hr ▸ tStep_eq p (-1) x) HIr.out.tok (HPr.out.ext HBr.out) HSr.out HBr.out.size HIr.out.sz (by omega))
          have HGo := Lib.hid (show l < l + 1 by omega)
          clear h2 hr
          go_upto_region 9 with (first | (go_at_call 100; (with_reducible refine (HSp.out).mono ?_); rintro e wp ⟨rg, rb, rc, rt, ro, rfl, hst, hw⟩; have HSTp := Lib.hid hst; obtain ⟨RG, rg, rfl, -, -, -⟩ := hst.g; obtain ⟨RB, rb, rfl, -, -, -⟩ := hst.b; obtain ⟨RC, rc, erc, -, -, -⟩ := Kd.O_read hst.c; rw [List.length_map] at erc; obtain rfl := erc; obtain ⟨RT, rt, rfl, -, -, -⟩ := hst.t; obtain ⟨RO, ro, rfl, -, -, -⟩ := hst.o; have HXp := Lib.hid (Bx.but HXr.out hw.but (by decide)); have HPp := Lib.hid (Bx.but HPr'.out hw.but (by decide)); have HOp := Lib.hid (hw.O HOr.out (by decide)); have HBp := Lib.hid (HBr.out.trans hw.bel); obtain ⟨m0, m1, m2, m3, m4, m5, m6, m7, m8, m9, m10, m11, m12, m13, HE⟩ := put_7 HXp.out (.int .i64 r.st) (.slice RG r.goals.length rg) (.slice RB r.binds.length rb) (.int .i64 r.vars) (.slice RC r.ch.length rc) (.slice RT r.top.length rt) (.slice RO r.out.length ro); have HXq := Lib.hid HE.out.1; have HPq := Lib.hid (Bx.but HPp.out HE.out.2.1 (by decide)); have HOq := Lib.hid (HE.out.2.1.O HOp.out (by decide)); have HSq := Lib.hid (hst.but HE.out.2.1); have HBq := Lib.hid (HE.out.2.2 w.heap.size w (by omega) HBp.out); clear hw hst) | fail)
          clear HE HXp HPp HOp HBp HSTp HXr HPr' HOr HBr HSr m0 m1 m2 m3 m4 m5 m6 m7 m8 m9 m10 m11 m12 m13 bx_0 bx_1 bx_2 bx_3 bx_4 bx_5 bx_6 ax_0 ax_1
          generalize World.setCell _ _ _ = wq at *
          have bq_0 := Bx.at' HXq.out 0 (.int .i64 r.st) rfl
          have bq_1 := Bx.at' HXq.out 1 (.slice RG r.goals.length rg) rfl
          have bq_2 := Bx.at' HXq.out 2 (.slice RB r.binds.length rb) rfl
          have bq_3 := Bx.at' HXq.out 3 (.int .i64 r.vars) rfl
          have bq_4 := Bx.at' HXq.out 4 (.slice RC r.ch.length rc) rfl
          have bq_5 := Bx.at' HXq.out 5 (.slice RT r.top.length rt) rfl
          have bq_6 := Bx.at' HXq.out 6 (.slice RO r.out.length ro) rfl
          have aq_0 := Bx.at' HPq.out 0 (.slice P1 p.cl.length q1) rfl
          have aq_1 := Bx.at' HPq.out 1 (.slice P2 p.pl.length q2) rfl
          obtain ⟨Y, N, hYN⟩ : ∃ Y N, runL p l r = (Y, N) := ⟨_, _, rfl⟩
          rw [hYN] at HFn
          have hTY := run_tok HQp.out l r HTk.out
          have hSY := run_sz HQp.out l r _ HSz.out
          have hNl := runL_le p l r
          have hall := run_all (p := p) (r := l) (s := r)
          have hpos := run_pos (p := p) (r := l) (s := r)
          have HRn := Lib.hid (run4_c r l _ _ _ _ _ _ _ w.heap.size (1 + 6 * (F - l)) wq HTk.out HQp.out (HPr.out.ext HBq.out) HSq.out HBq.out.size HSz.out (by omega))
          rw [hYN] at hTY hSY hNl hall hpos HRn
          dsimp only at hTY hSY hNl hall hpos HRn
          have hYl := tok_len hTY.1
          have HTY := Lib.hid hTY.1
          have HSY := Lib.hid hSY
          have HAl := Lib.hid hall
          have HPo := Lib.hid hpos
          clear hTY hSY hall hpos hYN
          go_upto_region 13 with (first | (go_at_call 101; (with_reducible refine (HRn.out).mono ?_); rintro e w4 ⟨yg, yb, yc, yt, yo, rfl, hst, hw⟩; have HW4 := Lib.hid hw; have HSY4 := Lib.hid hst; obtain ⟨YG, yg, rfl, -, -, -⟩ := hst.g; obtain ⟨YB, yb, rfl, -, -, -⟩ := hst.b; obtain ⟨YC, yc, erc, -, -, -⟩ := Kd.O_read hst.c; rw [List.length_map] at erc; obtain rfl := erc; obtain ⟨YT, yt, rfl, -, -, -⟩ := hst.t; obtain ⟨YO, yo, rfl, -, -, -⟩ := hst.o; have HX4 := Lib.hid (Bx.alloc (Bx.but HXq.out hw.but (by decide)) (.cells #[.int .i64 Y.st, .slice YG Y.goals.length yg, .slice YB Y.binds.length yb, .int .i64 Y.vars, .slice YC Y.ch.length yc, .slice YT Y.top.length yt, .slice YO Y.out.length yo] 139)); have HP4 := Lib.hid (Bx.alloc (Bx.but HPq.out hw.but (by decide)) (.cells #[.int .i64 Y.st, .slice YG Y.goals.length yg, .slice YB Y.binds.length yb, .int .i64 Y.vars, .slice YC Y.ch.length yc, .slice YT Y.top.length yt, .slice YO Y.out.length yo] 139)); have HO4 := Lib.hid (Kd.O_alloc (.cells #[.int .i64 Y.st, .slice YG Y.goals.length yg, .slice YB Y.binds.length yb, .int .i64 Y.vars, .slice YC Y.ch.length yc, .slice YT Y.top.length yt, .slice YO Y.out.length yo] 139) (hw.O HOq.out (by decide))); have HB4 := Lib.hid (bel_alloc (HBq.out.trans hw.bel) (.cells #[.int .i64 Y.st, .slice YG Y.goals.length yg, .slice YB Y.binds.length yb, .int .i64 Y.vars, .slice YC Y.ch.length yc, .slice YT Y.top.length yt, .slice YO Y.out.length yo] 139)); have HS4 := Lib.hid (hst.ext (bel_alloc (Below.refl _ w4) (.cells #[.int .i64 Y.st, .slice YG Y.goals.length yg, .slice YB Y.binds.length yb, .int .i64 Y.vars, .slice YC Y.ch.length yc, .slice YT Y.top.length yt, .slice YO Y.out.length yo] 139))); obtain ⟨m0, m1, m2, m3, m4, m5, m6, m7, m8, m9, m10, m11, m12, m13, HE⟩ := put_7 HX4.out (.int .i64 Y.st) (.slice YG Y.goals.length yg) (.slice YB Y.binds.length yb) (.int .i64 Y.vars) (.slice YC Y.ch.length yc) (.slice YT Y.top.length yt) (.slice YO Y.out.length yo); have HX5 := Lib.hid HE.out.1; have HP5 := Lib.hid (Bx.but HP4.out HE.out.2.1 (by decide)); have HO5 := Lib.hid (HE.out.2.1.O HO4.out (by decide)); have HS5 := Lib.hid (HS4.out.but HE.out.2.1); have HB5 := Lib.hid (HE.out.2.2 w.heap.size w (by omega) HB4.out); clear hw hst) | fail)
          clear HE HX4 HP4 HO4 HB4 HS4 HW4 HSY4 m0 m1 m2 m3 m4 m5 m6 m7 m8 m9 m10 m11 m12 m13
          generalize World.setCell _ _ _ = w5 at *
          have d5_0 := Bx.at' HX5.out 0 (.int .i64 Y.st) rfl
          have d5_1 := Bx.at' HX5.out 1 (.slice YG Y.goals.length yg) rfl
          have d5_2 := Bx.at' HX5.out 2 (.slice YB Y.binds.length yb) rfl
          have d5_3 := Bx.at' HX5.out 3 (.int .i64 Y.vars) rfl
          have d5_4 := Bx.at' HX5.out 4 (.slice YC Y.ch.length yc) rfl
          have d5_5 := Bx.at' HX5.out 5 (.slice YT Y.top.length yt) rfl
          have d5_6 := Bx.at' HX5.out 6 (.slice YO Y.out.length yo) rfl
          by_cases y1 : Y.st = 1
          · have g1 : (Y.st != 1) = false := by rw [y1]; rfl
            have g2 : decide ((2 : Int) < Y.st) = false := decide_eq_false (by omega)
            have hN : N = l := HAl.out y1
            have HI5 := Lib.hid (show OInv p most F Z1 Z2 (l - N) outs Y from ⟨HTY.out, .inl y1, HSY.out.mono (by omega), by omega, by have h := HFn.out.1; unfold fin4 at h; rw [if_pos y1] at h; rw [show l - N = 0 by omega]; exact h, by have h := HFn.out.2; unfold fin4 at h; rw [if_pos y1] at h; rw [show l - N = 0 by omega]; unfold outsL; dsimp only at h ⊢; omega⟩)
            clear y1 HFn
            go_wp2
            exact ⟨⟨l - N, outs, Y, OA, oc, YG, YB, YC, YT, YO, yg, yb, yc, yt, yo, rfl, by go_num, by omega, HO5, HI5, HS5, HB5, HP5, HX5⟩, by simp [intOf]; omega⟩
          have g1 : (Y.st != 1) = true := bne_iff_ne.2 y1
          have HOt := Lib.hid (out4_c Y _ _ _ _ _ w.heap.size w5 HS5.out (by omega))
          have HLo := Lib.hid (show outs.length ≤ 12000 by omega)
          by_cases y2 : Y.st = 2
          · have g2 : decide ((2 : Int) < Y.st) = false := decide_eq_false (by omega)
            have HF5 := Lib.hid (show (outsL p most (l - N) Y (outs ++ [(Y.st, Y.out)])).1 = Z1 ∧ (outsL p most (l - N) Y (outs ++ [(Y.st, Y.out)])).2 + (F - (l - N)) = Z2 from by have h := HFn.out; unfold fin4 at h; rw [if_neg y1, if_pos y2] at h; dsimp only at h; exact ⟨h.1, by have := h.2; omega⟩)
            have HY2 := Lib.hid y2
            clear y1 y2 HFn
            go_wp2_with (first | (go_at_call 102; (with_reducible refine (HOt.out).mono ?_); rintro e w6 ⟨v6, rfl, hv, hb'⟩; have HV6 := Lib.hid hv; obtain ⟨VA, vn, rfl, -, -, -⟩ := hv; have HX6 := Lib.hid (Bx.below HX5.out hb'); have HP6 := Lib.hid (Bx.below HP5.out hb'); have HO6 := Lib.hid (Kd.O_ext hb' HO5.out); have HB6 := Lib.hid (bel_trans HB5.out hb'); have HS6 := Lib.hid (HS5.out.ext hb'); have HLi := Lib.hid (sout_lit (k := Y.st) HV6.out); clear hb') | (at_builtin; refine wp_app AppI.sout rfl rfl (Kd.O_alloc _ HO6.out) rfl HLi.out rfl (by have := HLo.out; simp only [List.length_singleton]; omega) (Nat.le_trans HB6.out.size (bel_alloc (Below.refl _ _) _).size) ?_; intro v7 w7 hg; have hk := hg.but (Kd.O_alloc _ HO6.out); have hX := hg.own; obtain ⟨O2, hO2⟩ : ∃ O2, outs ++ [(Y.st, Y.out)] = O2 := ⟨_, rfl⟩; rw [hO2] at hX; have HO2 := Lib.hid hO2; have HO7 := Lib.hid hX; obtain ⟨OB, od, rfl, -, -, -⟩ := Kd.O_read hX; have HB7 := Lib.hid (hg.below (bel_alloc HB6.out (.cells #[.int .i64 Y.st, .slice VA Y.out.length vn] 25)) (Kd.O_alloc _ HO6.out)); have HX7 := Lib.hid (Bx.but (Bx.alloc HX6.out (.cells #[.int .i64 Y.st, .slice VA Y.out.length vn] 25)) hk (by decide)); have HP7 := Lib.hid (Bx.but (Bx.alloc HP6.out (.cells #[.int .i64 Y.st, .slice VA Y.out.length vn] 25)) hk (by decide)); have HS7 := Lib.hid ((HS6.out.ext (bel_alloc (Below.refl _ w6) (.cells #[.int .i64 Y.st, .slice VA Y.out.length vn] 25))).butO hk); have e7 := Bx.at' HX7.out 0 (.int .i64 Y.st) rfl; clear hg hk hX hO2) | fail)
            have hl2 : O2.length = outs.length + 1 := by rw [← HO2.out, List.length_append, List.length_singleton]
            exact ⟨⟨l - N, O2, Y, OB, od, YG, YB, YC, YT, YO, yg, yb, yc, yt, yo, rfl, by go_num, by omega, HO7, Lib.hid ⟨HTY.out, .inr HY2.out, HSY.out.mono (by omega), by have := HGo.out; omega, by rw [← HO2.out]; exact HF5.out.1, by rw [← HO2.out]; exact HF5.out.2⟩, HS7, HB7, HP7, HX7⟩, by simp [intOf]; have := HGo.out; omega⟩
          have hrg := (tok_out HTY.out y1 (no_wait HTY.out)).2
          have g2 : decide ((2 : Int) < Y.st) = true := decide_eq_true (by omega)
          have HF5 := Lib.hid (show outs ++ [(Y.st, Y.out)] = Z1 ∧ N + (F - l) = Z2 from by have h := HFn.out; unfold fin4 at h; rw [if_neg y1, if_neg y2] at h; exact h)
          clear y1 y2 HFn hrg
          go_wp2_with (first | (go_at_call 102; (with_reducible refine (HOt.out).mono ?_); rintro e w6 ⟨v6, rfl, hv, hb'⟩; have HV6 := Lib.hid hv; obtain ⟨VA, vn, rfl, -, -, -⟩ := hv; have HX6 := Lib.hid (Bx.below HX5.out hb'); have HP6 := Lib.hid (Bx.below HP5.out hb'); have HO6 := Lib.hid (Kd.O_ext hb' HO5.out); have HB6 := Lib.hid (bel_trans HB5.out hb'); have HS6 := Lib.hid (HS5.out.ext hb'); have HLi := Lib.hid (sout_lit (k := Y.st) HV6.out); clear hb') | (at_builtin; refine wp_app AppI.sout rfl rfl (Kd.O_alloc _ HO6.out) rfl HLi.out rfl (by have := HLo.out; simp only [List.length_singleton]; omega) (Nat.le_trans HB6.out.size (bel_alloc (Below.refl _ _) _).size) ?_; intro v7 w7 hg; have hk := hg.but (Kd.O_alloc _ HO6.out); have hX := hg.own; obtain ⟨O2, hO2⟩ : ∃ O2, outs ++ [(Y.st, Y.out)] = O2 := ⟨_, rfl⟩; rw [hO2] at hX; have HO2 := Lib.hid hO2; have HO7 := Lib.hid hX; obtain ⟨OB, od, rfl, -, -, -⟩ := Kd.O_read hX; have HB7 := Lib.hid (hg.below (bel_alloc HB6.out (.cells #[.int .i64 Y.st, .slice VA Y.out.length vn] 25)) (Kd.O_alloc _ HO6.out)); have HX7 := Lib.hid (Bx.but (Bx.alloc HX6.out (.cells #[.int .i64 Y.st, .slice VA Y.out.length vn] 25)) hk (by decide)); have HP7 := Lib.hid (Bx.but (Bx.alloc HP6.out (.cells #[.int .i64 Y.st, .slice VA Y.out.length vn] 25)) hk (by decide)); have HS7 := Lib.hid ((HS6.out.ext (bel_alloc (Below.refl _ w6) (.cells #[.int .i64 Y.st, .slice VA Y.out.length vn] 25))).butO hk); have e7 := Bx.at' HX7.out 0 (.int .i64 Y.st) rfl; clear hg hk hX hO2) | fail)
          have hz1 : O2 = Z1 := HO2.out.symm.trans HF5.out.1
          have hz2 := HF5.out.2
          subst hz1
          subst hz2
          go_ret2
          exact ⟨_, by first | rfl | (congr 3; go_num) | (simp; omega), HO7.out, HB7.out⟩
        have f2 : (x.st == 2) = false := beq_eq_false_iff_ne.2 h2
        have h1 : x.st = 1 := by have := HIr.out.st; omega
        have HFn := Lib.hid (show (fin4 p most left (runL p left x) outs).1 = Z1 ∧ (fin4 p most left (runL p left x) outs).2 + (F - left) = Z2 from by
          have e := outsL_run p left x outs h1 hm
          have e1 := HIr.out.r1
          have e2 := HIr.out.r2
          rw [e] at e1 e2
          exact ⟨e1, e2⟩)
        have HTk := Lib.hid HIr.out.tok
        have HSz := Lib.hid HIr.out.sz
        have HGo := Lib.hid (show 0 < (runL p left x).2 from run_pos h1 (by omega))
        clear h1 h2
        obtain ⟨Y, N, hYN⟩ : ∃ Y N, runL p left x = (Y, N) := ⟨_, _, rfl⟩
        rw [hYN] at HFn HGo
        have hTY := run_tok HQp.out left x HTk.out
        have hSY := run_sz HQp.out left x _ HSz.out
        have hNl := runL_le p left x
        have hall := run_all (p := p) (r := left) (s := x)
        have hpos := run_pos (p := p) (r := left) (s := x)
        have HRn := Lib.hid (run4_c x left _ _ _ _ _ _ _ w.heap.size (1 + 6 * (F - left)) wr HTk.out HQp.out (HPr.out.ext HBr.out) HSr.out HBr.out.size HSz.out (by omega))
        rw [hYN] at hTY hSY hNl hall hpos HRn
        dsimp only at hTY hSY hNl hall hpos HRn
        have hYl := tok_len hTY.1
        have HTY := Lib.hid hTY.1
        have HSY := Lib.hid hSY
        have HAl := Lib.hid hall
        have HPo := Lib.hid hpos
        clear hTY hSY hall hpos hYN
        go_upto_region 13 with (first | (go_at_call 101; (with_reducible refine (HRn.out).mono ?_); rintro e w4 ⟨yg, yb, yc, yt, yo, rfl, hst, hw⟩; have HW4 := Lib.hid hw; have HSY4 := Lib.hid hst; obtain ⟨YG, yg, rfl, -, -, -⟩ := hst.g; obtain ⟨YB, yb, rfl, -, -, -⟩ := hst.b; obtain ⟨YC, yc, erc, -, -, -⟩ := Kd.O_read hst.c; rw [List.length_map] at erc; obtain rfl := erc; obtain ⟨YT, yt, rfl, -, -, -⟩ := hst.t; obtain ⟨YO, yo, rfl, -, -, -⟩ := hst.o; have HX4 := Lib.hid (Bx.alloc (Bx.but HXr.out hw.but (by decide)) (.cells #[.int .i64 Y.st, .slice YG Y.goals.length yg, .slice YB Y.binds.length yb, .int .i64 Y.vars, .slice YC Y.ch.length yc, .slice YT Y.top.length yt, .slice YO Y.out.length yo] 139)); have HP4 := Lib.hid (Bx.alloc (Bx.but HPr'.out hw.but (by decide)) (.cells #[.int .i64 Y.st, .slice YG Y.goals.length yg, .slice YB Y.binds.length yb, .int .i64 Y.vars, .slice YC Y.ch.length yc, .slice YT Y.top.length yt, .slice YO Y.out.length yo] 139)); have HO4 := Lib.hid (Kd.O_alloc (.cells #[.int .i64 Y.st, .slice YG Y.goals.length yg, .slice YB Y.binds.length yb, .int .i64 Y.vars, .slice YC Y.ch.length yc, .slice YT Y.top.length yt, .slice YO Y.out.length yo] 139) (hw.O HOr.out (by decide))); have HB4 := Lib.hid (bel_alloc (HBr.out.trans hw.bel) (.cells #[.int .i64 Y.st, .slice YG Y.goals.length yg, .slice YB Y.binds.length yb, .int .i64 Y.vars, .slice YC Y.ch.length yc, .slice YT Y.top.length yt, .slice YO Y.out.length yo] 139)); have HS4 := Lib.hid (hst.ext (bel_alloc (Below.refl _ w4) (.cells #[.int .i64 Y.st, .slice YG Y.goals.length yg, .slice YB Y.binds.length yb, .int .i64 Y.vars, .slice YC Y.ch.length yc, .slice YT Y.top.length yt, .slice YO Y.out.length yo] 139))); obtain ⟨m0, m1, m2, m3, m4, m5, m6, m7, m8, m9, m10, m11, m12, m13, HE⟩ := put_7 HX4.out (.int .i64 Y.st) (.slice YG Y.goals.length yg) (.slice YB Y.binds.length yb) (.int .i64 Y.vars) (.slice YC Y.ch.length yc) (.slice YT Y.top.length yt) (.slice YO Y.out.length yo); have HX5 := Lib.hid HE.out.1; have HP5 := Lib.hid (Bx.but HP4.out HE.out.2.1 (by decide)); have HO5 := Lib.hid (HE.out.2.1.O HO4.out (by decide)); have HS5 := Lib.hid (HS4.out.but HE.out.2.1); have HB5 := Lib.hid (HE.out.2.2 w.heap.size w (by omega) HB4.out); clear hw hst) | fail)
        clear HE HX4 HP4 HO4 HB4 HS4 HW4 HSY4 m0 m1 m2 m3 m4 m5 m6 m7 m8 m9 m10 m11 m12 m13
        generalize World.setCell _ _ _ = w5 at *
        have d5_0 := Bx.at' HX5.out 0 (.int .i64 Y.st) rfl
        have d5_1 := Bx.at' HX5.out 1 (.slice YG Y.goals.length yg) rfl
        have d5_2 := Bx.at' HX5.out 2 (.slice YB Y.binds.length yb) rfl
        have d5_3 := Bx.at' HX5.out 3 (.int .i64 Y.vars) rfl
        have d5_4 := Bx.at' HX5.out 4 (.slice YC Y.ch.length yc) rfl
        have d5_5 := Bx.at' HX5.out 5 (.slice YT Y.top.length yt) rfl
        have d5_6 := Bx.at' HX5.out 6 (.slice YO Y.out.length yo) rfl
        by_cases y1 : Y.st = 1
        · have g1 : (Y.st != 1) = false := by rw [y1]; rfl
          have g2 : decide ((2 : Int) < Y.st) = false := decide_eq_false (by omega)
          have hN : N = left := HAl.out y1
          have HI5 := Lib.hid (show OInv p most F Z1 Z2 (left - N) outs Y from ⟨HTY.out, .inl y1, HSY.out.mono (by omega), by omega, by have h := HFn.out.1; unfold fin4 at h; rw [if_pos y1] at h; rw [show left - N = 0 by omega]; exact h, by have h := HFn.out.2; unfold fin4 at h; rw [if_pos y1] at h; rw [show left - N = 0 by omega]; unfold outsL; dsimp only at h ⊢; omega⟩)
          clear y1 HFn
          go_wp2
          exact ⟨⟨left - N, outs, Y, OA, oc, YG, YB, YC, YT, YO, yg, yb, yc, yt, yo, rfl, by go_num, by omega, HO5, HI5, HS5, HB5, HP5, HX5⟩, by simp [intOf]; omega⟩
        have g1 : (Y.st != 1) = true := bne_iff_ne.2 y1
        have HOt := Lib.hid (out4_c Y _ _ _ _ _ w.heap.size w5 HS5.out (by omega))
        have HLo := Lib.hid (show outs.length ≤ 12000 by omega)
        by_cases y2 : Y.st = 2
        · have g2 : decide ((2 : Int) < Y.st) = false := decide_eq_false (by omega)
          have HF5 := Lib.hid (show (outsL p most (left - N) Y (outs ++ [(Y.st, Y.out)])).1 = Z1 ∧ (outsL p most (left - N) Y (outs ++ [(Y.st, Y.out)])).2 + (F - (left - N)) = Z2 from by have h := HFn.out; unfold fin4 at h; rw [if_neg y1, if_pos y2] at h; dsimp only at h; exact ⟨h.1, by have := h.2; omega⟩)
          have HY2 := Lib.hid y2
          clear y1 y2 HFn
          go_wp2_with (first | (go_at_call 102; (with_reducible refine (HOt.out).mono ?_); rintro e w6 ⟨v6, rfl, hv, hb'⟩; have HV6 := Lib.hid hv; obtain ⟨VA, vn, rfl, -, -, -⟩ := hv; have HX6 := Lib.hid (Bx.below HX5.out hb'); have HP6 := Lib.hid (Bx.below HP5.out hb'); have HO6 := Lib.hid (Kd.O_ext hb' HO5.out); have HB6 := Lib.hid (bel_trans HB5.out hb'); have HS6 := Lib.hid (HS5.out.ext hb'); have HLi := Lib.hid (sout_lit (k := Y.st) HV6.out); clear hb') | (at_builtin; refine wp_app AppI.sout rfl rfl (Kd.O_alloc _ HO6.out) rfl HLi.out rfl (by have := HLo.out; simp only [List.length_singleton]; omega) (Nat.le_trans HB6.out.size (bel_alloc (Below.refl _ _) _).size) ?_; intro v7 w7 hg; have hk := hg.but (Kd.O_alloc _ HO6.out); have hX := hg.own; obtain ⟨O2, hO2⟩ : ∃ O2, outs ++ [(Y.st, Y.out)] = O2 := ⟨_, rfl⟩; rw [hO2] at hX; have HO2 := Lib.hid hO2; have HO7 := Lib.hid hX; obtain ⟨OB, od, rfl, -, -, -⟩ := Kd.O_read hX; have HB7 := Lib.hid (hg.below (bel_alloc HB6.out (.cells #[.int .i64 Y.st, .slice VA Y.out.length vn] 25)) (Kd.O_alloc _ HO6.out)); have HX7 := Lib.hid (Bx.but (Bx.alloc HX6.out (.cells #[.int .i64 Y.st, .slice VA Y.out.length vn] 25)) hk (by decide)); have HP7 := Lib.hid (Bx.but (Bx.alloc HP6.out (.cells #[.int .i64 Y.st, .slice VA Y.out.length vn] 25)) hk (by decide)); have HS7 := Lib.hid ((HS6.out.ext (bel_alloc (Below.refl _ w6) (.cells #[.int .i64 Y.st, .slice VA Y.out.length vn] 25))).butO hk); have e7 := Bx.at' HX7.out 0 (.int .i64 Y.st) rfl; clear hg hk hX hO2) | fail)
          have hl2 : O2.length = outs.length + 1 := by rw [← HO2.out, List.length_append, List.length_singleton]
          exact ⟨⟨left - N, O2, Y, OB, od, YG, YB, YC, YT, YO, yg, yb, yc, yt, yo, rfl, by go_num, by omega, HO7, Lib.hid ⟨HTY.out, .inr HY2.out, HSY.out.mono (by omega), by have := HGo.out; omega, by rw [← HO2.out]; exact HF5.out.1, by rw [← HO2.out]; exact HF5.out.2⟩, HS7, HB7, HP7, HX7⟩, by simp [intOf]; have := HGo.out; omega⟩
        have hrg := (tok_out HTY.out y1 (no_wait HTY.out)).2
        have g2 : decide ((2 : Int) < Y.st) = true := decide_eq_true (by omega)
        have HF5 := Lib.hid (show outs ++ [(Y.st, Y.out)] = Z1 ∧ N + (F - left) = Z2 from by have h := HFn.out; unfold fin4 at h; rw [if_neg y1, if_neg y2] at h; exact h)
        clear y1 y2 HFn hrg
        go_wp2_with (first | (go_at_call 102; (with_reducible refine (HOt.out).mono ?_); rintro e w6 ⟨v6, rfl, hv, hb'⟩; have HV6 := Lib.hid hv; obtain ⟨VA, vn, rfl, -, -, -⟩ := hv; have HX6 := Lib.hid (Bx.below HX5.out hb'); have HP6 := Lib.hid (Bx.below HP5.out hb'); have HO6 := Lib.hid (Kd.O_ext hb' HO5.out); have HB6 := Lib.hid (bel_trans HB5.out hb'); have HS6 := Lib.hid (HS5.out.ext hb'); have HLi := Lib.hid (sout_lit (k := Y.st) HV6.out); clear hb') | (at_builtin; refine wp_app AppI.sout rfl rfl (Kd.O_alloc _ HO6.out) rfl HLi.out rfl (by have := HLo.out; simp only [List.length_singleton]; omega) (Nat.le_trans HB6.out.size (bel_alloc (Below.refl _ _) _).size) ?_; intro v7 w7 hg; have hk := hg.but (Kd.O_alloc _ HO6.out); have hX := hg.own; obtain ⟨O2, hO2⟩ : ∃ O2, outs ++ [(Y.st, Y.out)] = O2 := ⟨_, rfl⟩; rw [hO2] at hX; have HO2 := Lib.hid hO2; have HO7 := Lib.hid hX; obtain ⟨OB, od, rfl, -, -, -⟩ := Kd.O_read hX; have HB7 := Lib.hid (hg.below (bel_alloc HB6.out (.cells #[.int .i64 Y.st, .slice VA Y.out.length vn] 25)) (Kd.O_alloc _ HO6.out)); have HX7 := Lib.hid (Bx.but (Bx.alloc HX6.out (.cells #[.int .i64 Y.st, .slice VA Y.out.length vn] 25)) hk (by decide)); have HP7 := Lib.hid (Bx.but (Bx.alloc HP6.out (.cells #[.int .i64 Y.st, .slice VA Y.out.length vn] 25)) hk (by decide)); have HS7 := Lib.hid ((HS6.out.ext (bel_alloc (Below.refl _ w6) (.cells #[.int .i64 Y.st, .slice VA Y.out.length vn] 25))).butO hk); have e7 := Bx.at' HX7.out 0 (.int .i64 Y.st) rfl; clear hg hk hX hO2) | fail)
        have hz1 : O2 = Z1 := HO2.out.symm.trans HF5.out.1
        have hz2 := HF5.out.2
        subst hz1
        subst hz2
        go_ret2
        exact ⟨_, by first | rfl | (congr 3; go_num) | (simp; omega), HO7.out, HB7.out⟩
#print axioms outs4_c
end Go.Proofs.YtjglbadkbhopoaaGreatDoor
namespace Go.Proofs.YtjglbadkbhopoaaGreatDoor
open Go.RowKit
set_option maxRecDepth 100000
set_option maxHeartbeats 8000000
set_option linter.unusedVariables false
theorem rq_new {w : World} {A : Option Addr} {n c : Nat} {bs : List Nat} (h : Bytes w A n c bs) (h2 : n ≤ 2000) : RQ w w.heap.size 0 (w.alloc (.cells #[.slice A n c, .int .i64 0] 92)) := by
  have hl := h.len
  subst hl
  exact ⟨0, bs, A, c, Nat.le_refl _, heap_alloc_new w _, h, h2, bel_alloc (Below.refl _ _) _, Nat.le_refl _⟩
theorem openQ_c (w : World) (A : Option Addr) (n c : Nat) (bs : List Nat) (h : Bytes w A n c bs) :
    Calls Tryz.prog 29 #[.slice A n c] w fun e w' => e = .returned (.pointer (some ⟨w.heap.size, 0, none⟩)) ∧ RQ w w.heap.size 0 w' ∧ Below w.heap.size w w' := by
  have hle := h.le
  have hcap : c ≤ 9223372036854775807 := h.cap
  by_cases hn : 2000 < n
  · have hh := Lib.hid (show Bytes w A 2000 c (bs.take 2000) from
      ⟨by rw [List.length_take, h.len]; omega, by omega, h.cap, fun hne => by
        obtain ⟨ad, ea, hc⟩ := h.row (fun e => hne (by rw [e]; rfl))
        exact ⟨ad, ea, fun i b hi => hc i b (by rw [List.getElem?_take] at hi; split at hi; exact hi; cases hi)⟩, fun b hb => h.small b (List.mem_of_mem_take hb)⟩)
    obtain ⟨ad, rfl, -⟩ := h.row (fun e => by have := h.len; rw [e] at this; simp at this; omega)
    clear h
    have hd : decide ((2000 : Int) < n) = true := decide_eq_true (by omega)
    go_enter Tryz.func29, Tryz.ntmps29
    go_wp2
    go_ret
    exact ⟨rfl, rq_new hh.out (Nat.le_refl _), bel_alloc (Below.refl _ _) _⟩
  · have hd : decide ((2000 : Int) < n) = false := decide_eq_false (by omega)
    have hh := Lib.hid (rq_new h (by omega))
    clear h
    go_enter Tryz.func29, Tryz.ntmps29
    go_wp2
    go_ret
    exact ⟨rfl, hh.out, bel_alloc (Below.refl _ _) _⟩
theorem fit_out {top t : Trm} {st : Int} (h : outOk top st t = true) : fitT t := by
  unfold outOk at h
  split at h
  · cases h
  · split at h
    · rw [List.isEmpty_iff.1 h]; exact fit_okT (.inl rfl)
    · split at h
      · cases h
      · split at h
        · cases h
        · rename_i h1
          exact fit_okT (.inr (by simpa using h1))
def OtP (w0 W : World) (g M : Nat) (e : Ending) (w' : World) : Prop := ∃ (st : Int) (v : Value) (t : Trm), e = .returned (.agg #[.int .i64 st, v]) ∧ T0 w' v t ∧ fitT t ∧ RQ w0 g M w' ∧ DW w0 W w'
theorem out_c {w0 W : World} {g M : Nat} (h : RQ w0 g M W) (hM : M ≤ 500000000) (p : Prog) (top : Trm) (p1 p2 tv : Value) (hp : PrR W p p1 p2) (hf : fitP p) (ht : T0 W tv top) (hft : fitT top) :
    Calls Tryz.prog 32 #[.pointer (some ⟨g, 0, none⟩), .agg #[p1, p2], tv] W (OtP w0 W g (M + 10)) := by
  have hsz := h.size
  obtain ⟨CA, cn, rfl, -, -, -⟩ := hp.c
  obtain ⟨PA, pn, rfl, -, -, -⟩ := hp.p
  have hb1 : Below W.heap.size W ((W.alloc (.cells #[.slice CA p.cl.length cn, .slice PA p.pl.length pn] 58)).alloc (.cells #[.int .i64 0, .slice none 0 0] 25)) := bel_alloc (bel_alloc (Below.refl _ _) _) _
  have HR1 := Lib.hid (h.ext hb1)
  have HD1 := Lib.hid (show DW w0 W ((W.alloc (.cells #[.slice CA p.cl.length cn, .slice PA p.pl.length pn] 58)).alloc (.cells #[.int .i64 0, .slice none 0 0] 25)) from Wrote.of_below h.size hb1)
  have HB1 := Lib.hid (bx2b W 58 25 #[.slice CA p.cl.length cn, .slice PA p.pl.length pn] #[.int .i64 0, .slice none 0 0])
  have hxp := bx2a W 58 25 #[.slice CA p.cl.length cn, .slice PA p.pl.length pn] #[.int .i64 0, .slice none 0 0]
  have x0 := Bx.at' hxp 0 (.slice CA p.cl.length cn) rfl
  have x1 := Bx.at' hxp 1 (.slice PA p.pl.length pn) rfl
  have HOu := Lib.hid (show Calls Tryz.prog 70 #[.agg #[.slice CA p.cl.length cn, .slice PA p.pl.length pn], tv, .int .i64 3, .int .i64 100] ((W.alloc (.cells #[.slice CA p.cl.length cn, .slice PA p.pl.length pn] 58)).alloc (.cells #[.int .i64 0, .slice none 0 0] 25)) _ from outs4_c top 3 100 _ _ tv ((W.alloc (.cells #[.slice CA p.cl.length cn, .slice PA p.pl.length pn] 58)).alloc (.cells #[.int .i64 0, .slice none 0 0] 25)) (hp.ext hb1) hf (Kd.S_ext hb1 ht) (fit_len hft) ⟨by decide, by decide⟩)
  obtain ⟨Z1, Z2, hZ⟩ : ∃ Z1 Z2, slvOuts p top 3 ((100 : Nat) : Int) = (Z1, Z2) := ⟨_, _, rfl⟩
  have hfn := slvOuts_fine p top 3 ((100 : Nat) : Int)
  rw [hZ] at HOu hfn
  have HFn := Lib.hid hfn
  clear h hp hf ht hft hb1 hxp hZ hfn
  go_enter Tryz.func32, Tryz.ntmps32
  go_upto_region 2 with (first | (go_at_call 70; (with_reducible refine HOu.out.mono ?_); rintro e w2 ⟨v, rfl, hO, hb'⟩; have HO2 := Lib.hid hO; obtain ⟨OA, oc, rfl, q1, q2, -⟩ := Kd.O_read hO; have HLc := Lib.hid (Nat.le_trans q1 q2); clear q1 q2; have HR2 := Lib.hid (HR1.out.ext hb'); have HD2 := Lib.hid (DW.ext HD1.out hb' hsz); have HB2 := Lib.hid (Bx.below HB1.out hb'); clear hO hb') | fail)
  clear x0 x1 HOu
  by_cases hz : Z1.length = 0
  · have fz : decide ((0 : Int) < (Z1.length : Int)) = false := decide_eq_false (by omega)
    have fn : ¬ 0 < Z1.length := by omega
    clear hz
    go_wp2_with (first | (go_at_call_of 34 (Value.int .i64 3); refine (rq_pick HR2.out (by omega) _ (by omega) (by omega)).mono ?_; rintro e wp3 ⟨v, rfl, hv, hR, hw⟩; obtain ⟨hv0, hv1, -⟩ := hv; have hv2 := hv1 (by omega); obtain ⟨k, rfl⟩ : ∃ i : Nat, v = i := ⟨v.toNat, by omega⟩; have hk : k < 3 := (by omega); have HR3 := Lib.hid hR; have HW3 := Lib.hid hw; have HB3 := Lib.hid (Bx.but HB2.out hw.but (by decide)); have HD3 := Lib.hid (HD2.out.trans hw); obtain ⟨m0, m1, m2, m3, HE⟩ := put_2 HB3.out (.int .i64 (3 + (k : Int))) (.slice none 0 0); clear hv0 hv1 hv2 hR hw) | fail)
    refine bodyPost_ret (results_cell_row rfl _ _ (W.heap.size + 1) 25 _ (0, 0) _ rfl HE.out.1 Tryz.underlying25 rfl (by kernel_rfl)) rfl ?_
    exact ⟨3 + (k : Int), _, [], rfl, Kd.S_nil _ _ _, fit_okT (.inl rfl), (HR3.out.wrote (b := w0.heap.size) ⟨HE.out.2.2 w0.heap.size _ (by omega) (Below.refl _ _), HE.out.2.1⟩ (Nat.le_refl _) (by decide)).mono (by omega), DW.own HD3.out (HE.out.2.2 W.heap.size _ (by omega) (Below.refl _ _)) hsz⟩
  have fz : decide ((0 : Int) < (Z1.length : Int)) = true := decide_eq_true (by omega)
  have fn : 0 < Z1.length := by omega
  clear hz
  have HL := Lib.hid (show (Z1.length : Int) ≤ 9223372036854775807 from by have := HLc.out; unfold maxLen at this; omega)
  go_wp2_with (first | (go_at_call_of 34 (Value.int .i64 4); refine (rq_pick HR2.out (by omega) _ (by omega) (by omega)).mono ?_; rintro e wp4 ⟨v, rfl, hv, hR, hw⟩; obtain ⟨hv0, hv1, -⟩ := hv; have hv2 := hv1 (by omega); obtain ⟨q, rfl⟩ : ∃ i : Nat, v = i := ⟨v.toNat, by omega⟩; have hq : q < 4 := (by omega); have HR4 := Lib.hid hR; have HW4 := Lib.hid hw; have HB4 := Lib.hid (Bx.but HB2.out hw.but (by decide)); have HD4 := Lib.hid (HD2.out.trans hw); have HO4 := Lib.hid (hw.O HO2.out (by decide)); clear hv0 hv1 hv2 hR hw) | (go_at_call_of 34 (Value.int .i64 3); refine (rq_pick HR4.out (by omega) _ (by omega) (by omega)).mono ?_; rintro e wp5 ⟨v, rfl, hv, hR, hw⟩; obtain ⟨hv0, hv1, -⟩ := hv; have hv2 := hv1 (by omega); obtain ⟨k, rfl⟩ : ∃ i : Nat, v = i := ⟨v.toNat, by omega⟩; have hk : k < 3 := (by omega); have HR5 := Lib.hid hR; have HW5 := Lib.hid hw; have HB5 := Lib.hid (Bx.but HB4.out hw.but (by decide)); have HD5 := Lib.hid (HD4.out.trans hw); obtain ⟨m0, m1, m2, m3, HE⟩ := put_2 HB5.out (.int .i64 (3 + (k : Int))) (.slice none 0 0); clear hv0 hv1 hv2 hR hw) | (go_at_call 34; refine (rq_pick HR4.out (by omega) (Z1.length : Int) (by omega) (by have := HL.out; omega)).mono ?_; rintro e wp6 ⟨v, rfl, hv, hR, hw⟩; obtain ⟨hv0, hv1, -⟩ := hv; have hv2 := hv1 (by omega); obtain ⟨i, rfl⟩ : ∃ i : Nat, v = i := ⟨v.toNat, by omega⟩; have hi : (i : Int) < (Z1.length : Int) := (by omega); have hin : i < Z1.length := (by omega); have HR6 := Lib.hid hR; have HB6 := Lib.hid (Bx.but HB4.out hw.but (by decide)); have HD6 := Lib.hid (HD4.out.trans hw); obtain ⟨o, hzo⟩ : ∃ o, Z1[i]? = some o := ⟨_, List.getElem?_eq_getElem hin⟩; obtain ⟨A', c', ev, -, -, hC⟩ := Kd.O_read (hw.O HO4.out (by decide)); injection ev with u1 u2 u3; obtain ⟨ad, Bv, c2, hAA, y1, y2, y3, y4, y5⟩ := bind_at hC hzo; obtain rfl := u1.trans hAA; have HFo := Lib.hid (fit_out (HFn.out i o hzo).1); have HTo := Lib.hid (show T0 wp6 (.slice Bv o.2.length c2) o.2 from ⟨Bv, c2, rfl, y3, y4, y5⟩); obtain ⟨m0, m1, m2, m3, HE⟩ := put_2 HB6.out (.int .i64 o.1) (.slice Bv o.2.length c2); clear hv0 hv1 hv2 hR hw hzo u1 u2 u3 hC hAA y3 y4 y5) | fail)
  · skip
    refine bodyPost_ret (results_cell_row rfl _ _ (W.heap.size + 1) 25 _ (0, 0) _ rfl HE.out.1 Tryz.underlying25 rfl (by kernel_rfl)) rfl ?_
    exact ⟨o.1, _, o.2, rfl, HE.out.2.1.S HTo.out (by decide), HFo.out, (HR6.out.wrote (b := w0.heap.size) ⟨HE.out.2.2 w0.heap.size _ (by omega) (Below.refl _ _), HE.out.2.1⟩ (Nat.le_refl _) (by decide)).mono (by omega), DW.own HD6.out (HE.out.2.2 W.heap.size _ (by omega) (Below.refl _ _)) hsz⟩
  · skip
    refine bodyPost_ret (results_cell_row rfl _ _ (W.heap.size + 1) 25 _ (0, 0) _ rfl HE.out.1 Tryz.underlying25 rfl (by kernel_rfl)) rfl ?_
    exact ⟨3 + (k : Int), _, [], rfl, Kd.S_nil _ _ _, fit_okT (.inl rfl), (HR5.out.wrote (b := w0.heap.size) ⟨HE.out.2.2 w0.heap.size _ (by omega) (Below.refl _ _), HE.out.2.1⟩ (Nat.le_refl _) (by decide)).mono (by omega), DW.own HD5.out (HE.out.2.2 W.heap.size _ (by omega) (Below.refl _ _)) hsz⟩
end Go.Proofs.YtjglbadkbhopoaaGreatDoor
