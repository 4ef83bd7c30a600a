/- Lemmas and contracts for FnOutOk, part 22. -/
import Derived.Test.YtjglbadkbhopoaaGreatDoorW21
import Derived.Test.YtjglbadkbhopoaaGreatDoorW19
namespace Go.Proofs.YtjglbadkbhopoaaGreatDoor
open Go.RowKit
set_option maxRecDepth 100000
set_option maxHeartbeats 8000000
set_option linter.unusedVariables false
theorem sgoal_hd {e : Nat} {w : World} {A : Option Addr} {x : SGoal} {xs : List SGoal} (h : Kd.sgoal.C e w A (x :: xs)) : ∃ ad av bv cv, A = some ad ∧ w.cell? ad = some (.int .i64 x.g.k) ∧ w.cell? ⟨ad.block, ad.off + 1, none⟩ = some av ∧ w.cell? ⟨ad.block, ad.off + 2, none⟩ = some bv ∧ w.cell? ⟨ad.block, ad.off + 3, none⟩ = some cv ∧ w.cell? ⟨ad.block, ad.off + 4, none⟩ = some (.int .i64 x.cut) ∧ T0 w av x.g.a ∧ T0 w bv x.g.b ∧ T0 w cv x.g.c := by
  obtain ⟨ad, av, bv, cv, ea, h0, h1, h2, h3, h4, k1, k2, k3⟩ := sgoal_at (i := 0) h rfl
  rw [Nat.zero_mul, add_zero'] at h0 h1 h2 h3 h4
  exact ⟨ad, av, bv, cv, ea, h0, h1, h2, h3, h4, k1, k2, k3⟩
theorem step4_c {n : Nat} {p : Prog} (s r : TSt) (p1 p2 gv bv cv tv ov : Value) (B L : Nat) (w : World) (hr : tStepN n p (-1) s = some r) (hk : Tok true p (-1) s) (hp : PrR w p p1 p2) (hs : StV B w s gv bv cv tv ov) (hB : B ≤ w.heap.size) (hZ : SzB L s) (hL9 : L + 1 ≤ 900000000) :
    Calls Tryz.prog 100 #[.agg #[p1, p2], .agg #[.int .i64 s.st, gv, bv, .int .i64 s.vars, cv, tv, ov]] w (Post4 B w r) := by
  have HSt := Lib.hid hs
  unfold tStepN at hr
  by_cases h2 : s.st = 2
  · rw [if_pos h2] at hr
    have hT : Tinv true p (-1) s := by
      rcases hk with ⟨h3, -⟩ | ⟨h, -⟩
      · omega
      · exact h
    have f2 : (s.st == 2) = true := beq_iff_eq.2 h2
    have HBk := Lib.hid (fun W (hb' : Below w.heap.size w W) => back4_c p n s r p1 p2 gv bv cv tv ov B L W hr hT (hp.ext hb') (hs.ext hb') (Nat.le_trans hB hb'.size) hZ.2 (by omega))
    obtain ⟨P1, q1, rfl, -, -, -⟩ := hp.c
    obtain ⟨P2, q2, rfl, -, -, -⟩ := hp.p
    obtain ⟨GA, gn, rfl, -, -, -⟩ := hs.g
    obtain ⟨BA, bn, rfl, -, -, -⟩ := hs.b
    obtain ⟨CA, cn, ec, -, -, -⟩ := Kd.O_read hs.c
    rw [List.length_map] at ec
    obtain rfl := ec
    obtain ⟨TA, tn, rfl, -, -, -⟩ := hs.t
    obtain ⟨OA, on, rfl, -, -, -⟩ := hs.o
    have HB0 := Lib.hid (show Below w.heap.size w (((w.alloc (.cells #[.slice P1 p.cl.length q1, .slice P2 p.pl.length q2] 58)).alloc (.cells #[.int .i64 s.st, .slice GA s.goals.length gn, .slice BA s.binds.length bn, .int .i64 s.vars, .slice CA s.ch.length cn, .slice TA s.top.length tn, .slice OA s.out.length on] 139)).alloc (.cells #[.int .i64 0, .slice none 0 0, .slice none 0 0, .int .i64 0, .slice none 0 0, .slice none 0 0, .slice none 0 0] 139)) from bel_alloc (bel_alloc (bel_alloc (Below.refl _ _) _) _) _)
    have HP0 := Lib.hid (show Bx (((w.alloc (.cells #[.slice P1 p.cl.length q1, .slice P2 p.pl.length q2] 58)).alloc (.cells #[.int .i64 s.st, .slice GA s.goals.length gn, .slice BA s.binds.length bn, .int .i64 s.vars, .slice CA s.ch.length cn, .slice TA s.top.length tn, .slice OA s.out.length on] 139)).alloc (.cells #[.int .i64 0, .slice none 0 0, .slice none 0 0, .int .i64 0, .slice none 0 0, .slice none 0 0, .slice none 0 0] 139)) (w.heap.size) 58 #[.slice P1 p.cl.length q1, .slice P2 p.pl.length q2] from by have h := Bx.alloc (Bx.alloc (Bx.new w 58 #[.slice P1 p.cl.length q1, .slice P2 p.pl.length q2]) (.cells #[.int .i64 s.st, .slice GA s.goals.length gn, .slice BA s.binds.length bn, .int .i64 s.vars, .slice CA s.ch.length cn, .slice TA s.top.length tn, .slice OA s.out.length on] 139)) (.cells #[.int .i64 0, .slice none 0 0, .slice none 0 0, .int .i64 0, .slice none 0 0, .slice none 0 0, .slice none 0 0] 139); simpa only [size_alloc] using h)
    have HS0 := Lib.hid (show Bx (((w.alloc (.cells #[.slice P1 p.cl.length q1, .slice P2 p.pl.length q2] 58)).alloc (.cells #[.int .i64 s.st, .slice GA s.goals.length gn, .slice BA s.binds.length bn, .int .i64 s.vars, .slice CA s.ch.length cn, .slice TA s.top.length tn, .slice OA s.out.length on] 139)).alloc (.cells #[.int .i64 0, .slice none 0 0, .slice none 0 0, .int .i64 0, .slice none 0 0, .slice none 0 0, .slice none 0 0] 139)) (w.heap.size + 1) 139 #[.int .i64 s.st, .slice GA s.goals.length gn, .slice BA s.binds.length bn, .int .i64 s.vars, .slice CA s.ch.length cn, .slice TA s.top.length tn, .slice OA s.out.length on] from by have h := Bx.alloc (Bx.new (w.alloc (.cells #[.slice P1 p.cl.length q1, .slice P2 p.pl.length q2] 58)) 139 #[.int .i64 s.st, .slice GA s.goals.length gn, .slice BA s.binds.length bn, .int .i64 s.vars, .slice CA s.ch.length cn, .slice TA s.top.length tn, .slice OA s.out.length on]) (.cells #[.int .i64 0, .slice none 0 0, .slice none 0 0, .int .i64 0, .slice none 0 0, .slice none 0 0, .slice none 0 0] 139); simpa only [size_alloc] using h)
    have HR0 := Lib.hid (show Bx (((w.alloc (.cells #[.slice P1 p.cl.length q1, .slice P2 p.pl.length q2] 58)).alloc (.cells #[.int .i64 s.st, .slice GA s.goals.length gn, .slice BA s.binds.length bn, .int .i64 s.vars, .slice CA s.ch.length cn, .slice TA s.top.length tn, .slice OA s.out.length on] 139)).alloc (.cells #[.int .i64 0, .slice none 0 0, .slice none 0 0, .int .i64 0, .slice none 0 0, .slice none 0 0, .slice none 0 0] 139)) (w.heap.size + 1 + 1) 139 #[.int .i64 0, .slice none 0 0, .slice none 0 0, .int .i64 0, .slice none 0 0, .slice none 0 0, .slice none 0 0] from by have h := Bx.new ((w.alloc (.cells #[.slice P1 p.cl.length q1, .slice P2 p.pl.length q2] 58)).alloc (.cells #[.int .i64 s.st, .slice GA s.goals.length gn, .slice BA s.binds.length bn, .int .i64 s.vars, .slice CA s.ch.length cn, .slice TA s.top.length tn, .slice OA s.out.length on] 139)) 139 #[.int .i64 0, .slice none 0 0, .slice none 0 0, .int .i64 0, .slice none 0 0, .slice none 0 0, .slice none 0 0]; simpa only [size_alloc] using h)
    clear hr hk hT hp hs hZ h2
    go_enter Tryz.func100, Tryz.ntmps100
    go_wp2_with (first | (go_at_call 119; (with_reducible refine (HBk.out _ HB0.out).mono ?_); rintro e w3 ⟨rg, rb, rc, rt, ro, rfl, hst, hw⟩; have HW3 := Lib.hid hw; have HST3 := Lib.hid hst; obtain ⟨RG, rgn, rfl, -, -, -⟩ := hst.g; obtain ⟨RB, rbn, rfl, -, -, -⟩ := hst.b; obtain ⟨RC, rcn, erc, -, -, -⟩ := Kd.O_read hst.c; rw [List.length_map] at erc; obtain rfl := erc; obtain ⟨RT, rtn, rfl, -, -, -⟩ := hst.t; obtain ⟨RO, ron, rfl, -, -, -⟩ := hst.o; have HR3 := Lib.hid (Bx.but HR0.out hw.but (by decide)); obtain ⟨m0, m1, m2, m3, m4, m5, m6, m7, m8, m9, m10, m11, m12, m13, HE⟩ := put_7 HR3.out (.int .i64 r.st) (.slice RG r.goals.length rgn) (.slice RB r.binds.length rbn) (.int .i64 r.vars) (.slice RC r.ch.length rcn) (.slice RT r.top.length rtn) (.slice RO r.out.length ron); clear hw hst) | fail)
    refine bodyPost_ret (results_cell_row rfl _ _ (w.heap.size + 1 + 1) 139 _ (0, 0) _ rfl HE.out.1 Tryz.underlying139 rfl (by kernel_rfl)) rfl ?_
    exact ⟨_, _, _, _, _, rfl, HST3.out.but HE.out.2.1, wrote_own ((Wrote.of_below hB HB0.out).trans HW3.out) (HE.out.2.2 w.heap.size _ (by omega) (Below.refl _ _)) hB⟩
  rw [if_neg h2] at hr
  have f2 : (s.st == 2) = false := beq_eq_false_iff_ne.2 h2
  by_cases h1 : ¬ s.st = 1
  · rw [if_pos h1] at hr
    obtain rfl := Option.some.inj hr
    have f1 : (s.st != 1) = true := bne_iff_ne.2 h1
    clear hr hk hZ h2 h1
    obtain ⟨P1, q1, rfl, -, -, -⟩ := hp.c
    obtain ⟨P2, q2, rfl, -, -, -⟩ := hp.p
    obtain ⟨GA, gn, rfl, -, -, -⟩ := hs.g
    obtain ⟨BA, bn, rfl, -, -, -⟩ := hs.b
    obtain ⟨CA, cn, ec, -, -, -⟩ := Kd.O_read hs.c
    rw [List.length_map] at ec
    obtain rfl := ec
    obtain ⟨TA, tn, rfl, -, -, -⟩ := hs.t
    obtain ⟨OA, on, rfl, -, -, -⟩ := hs.o
    have HB0 := Lib.hid (show Below w.heap.size w (((w.alloc (.cells #[.slice P1 p.cl.length q1, .slice P2 p.pl.length q2] 58)).alloc (.cells #[.int .i64 s.st, .slice GA s.goals.length gn, .slice BA s.binds.length bn, .int .i64 s.vars, .slice CA s.ch.length cn, .slice TA s.top.length tn, .slice OA s.out.length on] 139)).alloc (.cells #[.int .i64 0, .slice none 0 0, .slice none 0 0, .int .i64 0, .slice none 0 0, .slice none 0 0, .slice none 0 0] 139)) from bel_alloc (bel_alloc (bel_alloc (Below.refl _ _) _) _) _)
    have HP0 := Lib.hid (show Bx (((w.alloc (.cells #[.slice P1 p.cl.length q1, .slice P2 p.pl.length q2] 58)).alloc (.cells #[.int .i64 s.st, .slice GA s.goals.length gn, .slice BA s.binds.length bn, .int .i64 s.vars, .slice CA s.ch.length cn, .slice TA s.top.length tn, .slice OA s.out.length on] 139)).alloc (.cells #[.int .i64 0, .slice none 0 0, .slice none 0 0, .int .i64 0, .slice none 0 0, .slice none 0 0, .slice none 0 0] 139)) (w.heap.size) 58 #[.slice P1 p.cl.length q1, .slice P2 p.pl.length q2] from by have h := Bx.alloc (Bx.alloc (Bx.new w 58 #[.slice P1 p.cl.length q1, .slice P2 p.pl.length q2]) (.cells #[.int .i64 s.st, .slice GA s.goals.length gn, .slice BA s.binds.length bn, .int .i64 s.vars, .slice CA s.ch.length cn, .slice TA s.top.length tn, .slice OA s.out.length on] 139)) (.cells #[.int .i64 0, .slice none 0 0, .slice none 0 0, .int .i64 0, .slice none 0 0, .slice none 0 0, .slice none 0 0] 139); simpa only [size_alloc] using h)
    have HS0 := Lib.hid (show Bx (((w.alloc (.cells #[.slice P1 p.cl.length q1, .slice P2 p.pl.length q2] 58)).alloc (.cells #[.int .i64 s.st, .slice GA s.goals.length gn, .slice BA s.binds.length bn, .int .i64 s.vars, .slice CA s.ch.length cn, .slice TA s.top.length tn, .slice OA s.out.length on] 139)).alloc (.cells #[.int .i64 0, .slice none 0 0, .slice none 0 0, .int .i64 0, .slice none 0 0, .slice none 0 0, .slice none 0 0] 139)) (w.heap.size + 1) 139 #[.int .i64 s.st, .slice GA s.goals.length gn, .slice BA s.binds.length bn, .int .i64 s.vars, .slice CA s.ch.length cn, .slice TA s.top.length tn, .slice OA s.out.length on] from by have h := Bx.alloc (Bx.new (w.alloc (.cells #[.slice P1 p.cl.length q1, .slice P2 p.pl.length q2] 58)) 139 #[.int .i64 s.st, .slice GA s.goals.length gn, .slice BA s.binds.length bn, .int .i64 s.vars, .slice CA s.ch.length cn, .slice TA s.top.length tn, .slice OA s.out.length on]) (.cells #[.int .i64 0, .slice none 0 0, .slice none 0 0, .int .i64 0, .slice none 0 0, .slice none 0 0, .slice none 0 0] 139); simpa only [size_alloc] using h)
    have HR0 := Lib.hid (show Bx (((w.alloc (.cells #[.slice P1 p.cl.length q1, .slice P2 p.pl.length q2] 58)).alloc (.cells #[.int .i64 s.st, .slice GA s.goals.length gn, .slice BA s.binds.length bn, .int .i64 s.vars, .slice CA s.ch.length cn, .slice TA s.top.length tn, .slice OA s.out.length on] 139)).alloc (.cells #[.int .i64 0, .slice none 0 0, .slice none 0 0, .int .i64 0, .slice none 0 0, .slice none 0 0, .slice none 0 0] 139)) (w.heap.size + 1 + 1) 139 #[.int .i64 0, .slice none 0 0, .slice none 0 0, .int .i64 0, .slice none 0 0, .slice none 0 0, .slice none 0 0] from by have h := Bx.new ((w.alloc (.cells #[.slice P1 p.cl.length q1, .slice P2 p.pl.length q2] 58)).alloc (.cells #[.int .i64 s.st, .slice GA s.goals.length gn, .slice BA s.binds.length bn, .int .i64 s.vars, .slice CA s.ch.length cn, .slice TA s.top.length tn, .slice OA s.out.length on] 139)) 139 #[.int .i64 0, .slice none 0 0, .slice none 0 0, .int .i64 0, .slice none 0 0, .slice none 0 0, .slice none 0 0]; simpa only [size_alloc] using h)
    go_enter Tryz.func100, Tryz.ntmps100
    go_upto_region 4 with (fail)
    generalize (((w.alloc (.cells #[.slice P1 p.cl.length q1, .slice P2 p.pl.length q2] 58)).alloc (.cells #[.int .i64 s.st, .slice GA s.goals.length gn, .slice BA s.binds.length bn, .int .i64 s.vars, .slice CA s.ch.length cn, .slice TA s.top.length tn, .slice OA s.out.length on] 139)).alloc (.cells #[.int .i64 0, .slice none 0 0, .slice none 0 0, .int .i64 0, .slice none 0 0, .slice none 0 0, .slice none 0 0] 139)) = w0 at *
    have s0_0 := Bx.at' HS0.out 0 (.int .i64 s.st) rfl
    have s0_1 := Bx.at' HS0.out 1 (.slice GA s.goals.length gn) rfl
    have s0_2 := Bx.at' HS0.out 2 (.slice BA s.binds.length bn) rfl
    have s0_3 := Bx.at' HS0.out 3 (.int .i64 s.vars) rfl
    have s0_4 := Bx.at' HS0.out 4 (.slice CA s.ch.length cn) rfl
    have s0_5 := Bx.at' HS0.out 5 (.slice TA s.top.length tn) rfl
    have s0_6 := Bx.at' HS0.out 6 (.slice OA s.out.length on) rfl
    obtain ⟨m0, m1, m2, m3, m4, m5, m6, m7, m8, m9, m10, m11, m12, m13, HE⟩ := put_7 HR0.out (.int .i64 s.st) (.slice GA s.goals.length gn) (.slice BA s.binds.length bn) (.int .i64 s.vars) (.slice CA s.ch.length cn) (.slice TA s.top.length tn) (.slice OA s.out.length on)
    go_wp2
    refine bodyPost_ret (results_cell_row rfl _ _ (w.heap.size + 1 + 1) 139 _ (0, 0) _ rfl HE.out.1 Tryz.underlying139 rfl (by kernel_rfl)) rfl ?_
    exact ⟨_, _, _, _, _, rfl, (HSt.out.ext HB0.out).but HE.out.2.1, wrote_own (Wrote.of_below hB HB0.out) (HE.out.2.2 w.heap.size _ (by omega) (Below.refl _ _)) hB⟩
  have h1 : s.st = 1 := Decidable.of_not_not h1
  rw [if_neg (by omega)] at hr
  have f1 : (s.st != 1) = false := by rw [h1]; rfl
  obtain ⟨hT, hG, hSt'⟩ : Tinv true p (-1) s ∧ goalsOk true s.vars s.ch.length s.goals ∧ statOk s = true := by
    rcases hk with ⟨h3, -⟩ | h
    · omega
    · exact h
  have hout : s.out = [] := by unfold statOk at hSt'; rw [if_pos h1] at hSt'; exact nil_of_empty hSt'
  have htl := isQ_len4 hT.top
  cases hgl : s.goals with
  | nil =>
    rw [hgl] at hr
    obtain rfl := Option.some.inj hr
    have fg : ((s.goals.length : Int) == 0) = true := by rw [hgl]; rfl
    have HEm := Lib.hid (fun W (hb' : Below w.heap.size w W) => empty4_c s gv bv cv tv ov B W hT (hs.ext hb') (Nat.le_trans hB hb'.size))
    obtain ⟨r, hr⟩ : ∃ r, tEmpty s = r := ⟨_, rfl⟩
    rw [hr] at HEm ⊢
    obtain ⟨P1, q1, rfl, -, -, -⟩ := hp.c
    obtain ⟨P2, q2, rfl, -, -, -⟩ := hp.p
    obtain ⟨GA, gn, rfl, -, -, -⟩ := hs.g
    obtain ⟨BA, bn, rfl, -, -, -⟩ := hs.b
    obtain ⟨CA, cn, ec, -, -, -⟩ := Kd.O_read hs.c
    rw [List.length_map] at ec
    obtain rfl := ec
    obtain ⟨TA, tn, rfl, -, -, -⟩ := hs.t
    obtain ⟨OA, on, rfl, -, -, -⟩ := hs.o
    have HB0 := Lib.hid (show Below w.heap.size w (((w.alloc (.cells #[.slice P1 p.cl.length q1, .slice P2 p.pl.length q2] 58)).alloc (.cells #[.int .i64 s.st, .slice GA s.goals.length gn, .slice BA s.binds.length bn, .int .i64 s.vars, .slice CA s.ch.length cn, .slice TA s.top.length tn, .slice OA s.out.length on] 139)).alloc (.cells #[.int .i64 0, .slice none 0 0, .slice none 0 0, .int .i64 0, .slice none 0 0, .slice none 0 0, .slice none 0 0] 139)) from bel_alloc (bel_alloc (bel_alloc (Below.refl _ _) _) _) _)
    have HP0 := Lib.hid (show Bx (((w.alloc (.cells #[.slice P1 p.cl.length q1, .slice P2 p.pl.length q2] 58)).alloc (.cells #[.int .i64 s.st, .slice GA s.goals.length gn, .slice BA s.binds.length bn, .int .i64 s.vars, .slice CA s.ch.length cn, .slice TA s.top.length tn, .slice OA s.out.length on] 139)).alloc (.cells #[.int .i64 0, .slice none 0 0, .slice none 0 0, .int .i64 0, .slice none 0 0, .slice none 0 0, .slice none 0 0] 139)) (w.heap.size) 58 #[.slice P1 p.cl.length q1, .slice P2 p.pl.length q2] from by have h := Bx.alloc (Bx.alloc (Bx.new w 58 #[.slice P1 p.cl.length q1, .slice P2 p.pl.length q2]) (.cells #[.int .i64 s.st, .slice GA s.goals.length gn, .slice BA s.binds.length bn, .int .i64 s.vars, .slice CA s.ch.length cn, .slice TA s.top.length tn, .slice OA s.out.length on] 139)) (.cells #[.int .i64 0, .slice none 0 0, .slice none 0 0, .int .i64 0, .slice none 0 0, .slice none 0 0, .slice none 0 0] 139); simpa only [size_alloc] using h)
    have HS0 := Lib.hid (show Bx (((w.alloc (.cells #[.slice P1 p.cl.length q1, .slice P2 p.pl.length q2] 58)).alloc (.cells #[.int .i64 s.st, .slice GA s.goals.length gn, .slice BA s.binds.length bn, .int .i64 s.vars, .slice CA s.ch.length cn, .slice TA s.top.length tn, .slice OA s.out.length on] 139)).alloc (.cells #[.int .i64 0, .slice none 0 0, .slice none 0 0, .int .i64 0, .slice none 0 0, .slice none 0 0, .slice none 0 0] 139)) (w.heap.size + 1) 139 #[.int .i64 s.st, .slice GA s.goals.length gn, .slice BA s.binds.length bn, .int .i64 s.vars, .slice CA s.ch.length cn, .slice TA s.top.length tn, .slice OA s.out.length on] from by have h := Bx.alloc (Bx.new (w.alloc (.cells #[.slice P1 p.cl.length q1, .slice P2 p.pl.length q2] 58)) 139 #[.int .i64 s.st, .slice GA s.goals.length gn, .slice BA s.binds.length bn, .int .i64 s.vars, .slice CA s.ch.length cn, .slice TA s.top.length tn, .slice OA s.out.length on]) (.cells #[.int .i64 0, .slice none 0 0, .slice none 0 0, .int .i64 0, .slice none 0 0, .slice none 0 0, .slice none 0 0] 139); simpa only [size_alloc] using h)
    have HR0 := Lib.hid (show Bx (((w.alloc (.cells #[.slice P1 p.cl.length q1, .slice P2 p.pl.length q2] 58)).alloc (.cells #[.int .i64 s.st, .slice GA s.goals.length gn, .slice BA s.binds.length bn, .int .i64 s.vars, .slice CA s.ch.length cn, .slice TA s.top.length tn, .slice OA s.out.length on] 139)).alloc (.cells #[.int .i64 0, .slice none 0 0, .slice none 0 0, .int .i64 0, .slice none 0 0, .slice none 0 0, .slice none 0 0] 139)) (w.heap.size + 1 + 1) 139 #[.int .i64 0, .slice none 0 0, .slice none 0 0, .int .i64 0, .slice none 0 0, .slice none 0 0, .slice none 0 0] from by have h := Bx.new ((w.alloc (.cells #[.slice P1 p.cl.length q1, .slice P2 p.pl.length q2] 58)).alloc (.cells #[.int .i64 s.st, .slice GA s.goals.length gn, .slice BA s.binds.length bn, .int .i64 s.vars, .slice CA s.ch.length cn, .slice TA s.top.length tn, .slice OA s.out.length on] 139)) 139 #[.int .i64 0, .slice none 0 0, .slice none 0 0, .int .i64 0, .slice none 0 0, .slice none 0 0, .slice none 0 0]; simpa only [size_alloc] using h)
    clear hr hk hT hG hSt' hout hp hs hZ h2 h1 hgl
    go_enter Tryz.func100, Tryz.ntmps100
    go_wp2_with (first | (go_at_call 120; (with_reducible refine (HEm.out _ HB0.out).mono ?_); rintro e w3 ⟨rg, rb, rc, rt, ro, rfl, hst, hw⟩; have HW3 := Lib.hid hw; have HST3 := Lib.hid hst; obtain ⟨RG, rgn, rfl, -, -, -⟩ := hst.g; obtain ⟨RB, rbn, rfl, -, -, -⟩ := hst.b; obtain ⟨RC, rcn, erc, -, -, -⟩ := Kd.O_read hst.c; rw [List.length_map] at erc; obtain rfl := erc; obtain ⟨RT, rtn, rfl, -, -, -⟩ := hst.t; obtain ⟨RO, ron, rfl, -, -, -⟩ := hst.o; have HR3 := Lib.hid (Bx.but HR0.out hw.but (by decide)); obtain ⟨m0, m1, m2, m3, m4, m5, m6, m7, m8, m9, m10, m11, m12, m13, HE⟩ := put_7 HR3.out (.int .i64 r.st) (.slice RG r.goals.length rgn) (.slice RB r.binds.length rbn) (.int .i64 r.vars) (.slice RC r.ch.length rcn) (.slice RT r.top.length rtn) (.slice RO r.out.length ron); clear hw hst) | fail)
    refine bodyPost_ret (results_cell_row rfl _ _ (w.heap.size + 1 + 1) 139 _ (0, 0) _ rfl HE.out.1 Tryz.underlying139 rfl (by kernel_rfl)) rfl ?_
    exact ⟨_, _, _, _, _, rfl, HST3.out.but HE.out.2.1, wrote_own ((Wrote.of_below hB HB0.out).trans HW3.out) (HE.out.2.2 w.heap.size _ (by omega) (Below.refl _ _)) hB⟩
  | cons g rest =>
    rw [hgl] at hr hG
    obtain ⟨t1, t2, t3⟩ := goals_tail hG
    obtain ⟨c1, c2, c3, c4, c5⟩ := sg_cases t1
    have hgr : g.g.k ≠ 3 → goalsOk true s.vars s.ch.length rest := fun hk => ⟨t2, fun hq => by have := t3 hq; rwa [if_neg hk] at this⟩
    have hrl : rest.length ≤ L := by have := hZ.1; rw [hgl, List.length_cons] at this; omega
    obtain ⟨m, hm⟩ : ∃ m, rest.length = m := ⟨_, rfl⟩
    have hgm : s.goals.length = m + 1 := by rw [hgl, List.length_cons, hm]
    have hmb : m ≤ 900000000 := by omega
    have fg : (((m + 1 : Nat) : Int) == 0) = false := beq_eq_false_iff_ne.2 (by omega)
    obtain ⟨A', c', ev, _, _, hGC⟩ := hs.g
    rw [hgl] at hGC
    obtain ⟨gad, av, xv, yv, hGA, z0, z1, z2, z3, z4, y1, y2, y3⟩ := sgoal_hd hGC
    obtain ⟨⟨gk, ga, gb, gc⟩, gcut⟩ := g
    dsimp only at hr c1 c2 c3 c4 c5 hgr t3 z0 z4 y1 y2 y3
    have HX1 := Lib.hid y1
    have HX2 := Lib.hid y2
    have HX3 := Lib.hid y3
    have HRs := Lib.hid (show Kd.sgoal.S 168 w gv ((⟨⟨gk, ga, gb, gc⟩, gcut⟩ : SGoal) :: rest) from hgl ▸ hs.g)
    have HCl := fun W hv (hb' : Below w.heap.size w W) (hh : G0 W hv rest) (hk1 : gk = 1) (hr2 : tCall n p (-1) s ga rest = some r) => call4_c s r ga rest p1 p2 gv bv cv tv ov av hv B (L + 1) W hr2 hT (hp.ext hb') (hs.ext hb') (Nat.le_trans hB hb'.size) (hZ.2.mono (Nat.le_add_right _ _)) hL9 (by have := hZ.2.1; omega) (by omega) (c2 (.inl hk1)).1 (c2 (.inl hk1)).2 (hgr (by omega)) (Kd.S_ext hb' y1) hh
    have HSm := fun W hv (hb' : Below w.heap.size w W) (hh : G0 W hv rest) (hk2 : gk = 2) (hr2 : tMeet (tBack n p) s ga gb rest 0 = some r) => same4_c s r ga gb rest p1 p2 gv bv cv tv ov av xv hv B L W hr2 h1 hout hT (hp.ext hb') (hs.ext hb') (Nat.le_trans hB hb'.size) hZ.2 (by omega) (c3 (.inl hk2)).1 (c3 (.inl hk2)).2 (Kd.S_ext hb' y1) (Kd.S_ext hb' y2) hh
    have HRk := fun W hv (hb' : Below w.heap.size w W) (hh : G0 W hv rest) (hk4 : gk = 4 ∨ gk = 5) (hr2 : tReckon n p s ⟨gk, ga, gb, gc⟩ rest = some r) => reckon4_c s r ⟨gk, ga, gb, gc⟩ rest p1 p2 gv bv cv tv ov av xv yv hv B L W hr2 h1 hout hT (hp.ext hb') (hs.ext hb') (Nat.le_trans hB hb'.size) hZ.2 (by omega) (c3 (.inr hk4)).1 (c3 (.inr hk4)).2 c4 (Kd.S_ext hb' y1) (Kd.S_ext hb' y2) (Kd.S_ext hb' y3) hh
    have HEn := Lib.hid (fun W (hb' : Below w.heap.size w W) => ends4_c s 4 gv bv cv tv ov W (hs.ext hb') (by omega))
    have HFl := fun {q : Bool} W (hb' : Below w.heap.size w W) (hk6 : gk = 6) (hq : decide ((flat s.binds ga).length ≤ 40) = q) => full4_c hT.sub (termV_iff.1 (c2 (.inr hk6)).1).1 bv av W (Kd.S_ext hb' hs.b) (Kd.S_ext hb' y1) hq
    obtain ⟨P1, q1, rfl, -, -, -⟩ := hp.c
    obtain ⟨P2, q2, rfl, -, -, -⟩ := hp.p
    obtain ⟨GA, gn, rfl, -, -, -⟩ := hs.g
    injection ev with v1 v2 v3
    obtain rfl := v1.trans hGA
    rw [hgm] at HCl HSm HRk HEn HSt HRs ⊢
    obtain ⟨BA, bn, rfl, -, -, -⟩ := hs.b
    obtain ⟨CA, cn, ec, -, -, -⟩ := Kd.O_read hs.c
    rw [List.length_map] at ec
    obtain rfl := ec
    obtain ⟨TA, tn, rfl, -, -, -⟩ := hs.t
    obtain ⟨OA, on, rfl, -, -, -⟩ := hs.o
    obtain ⟨XA, xn, rfl, -, -, -⟩ := y1
    obtain ⟨YA, yn, rfl, -, -, -⟩ := y2
    obtain ⟨ZA, zn, rfl, -, -, -⟩ := y3
    have HB0 := Lib.hid (show Below w.heap.size w (((w.alloc (.cells #[.slice P1 p.cl.length q1, .slice P2 p.pl.length q2] 58)).alloc (.cells #[.int .i64 s.st, .slice (some gad) (m + 1) gn, .slice BA s.binds.length bn, .int .i64 s.vars, .slice CA s.ch.length cn, .slice TA s.top.length tn, .slice OA s.out.length on] 139)).alloc (.cells #[.int .i64 0, .slice none 0 0, .slice none 0 0, .int .i64 0, .slice none 0 0, .slice none 0 0, .slice none 0 0] 139)) from bel_alloc (bel_alloc (bel_alloc (Below.refl _ _) _) _) _)
    have HP0 := Lib.hid (show Bx (((w.alloc (.cells #[.slice P1 p.cl.length q1, .slice P2 p.pl.length q2] 58)).alloc (.cells #[.int .i64 s.st, .slice (some gad) (m + 1) gn, .slice BA s.binds.length bn, .int .i64 s.vars, .slice CA s.ch.length cn, .slice TA s.top.length tn, .slice OA s.out.length on] 139)).alloc (.cells #[.int .i64 0, .slice none 0 0, .slice none 0 0, .int .i64 0, .slice none 0 0, .slice none 0 0, .slice none 0 0] 139)) (w.heap.size) 58 #[.slice P1 p.cl.length q1, .slice P2 p.pl.length q2] from by have h := Bx.alloc (Bx.alloc (Bx.new w 58 #[.slice P1 p.cl.length q1, .slice P2 p.pl.length q2]) (.cells #[.int .i64 s.st, .slice (some gad) (m + 1) gn, .slice BA s.binds.length bn, .int .i64 s.vars, .slice CA s.ch.length cn, .slice TA s.top.length tn, .slice OA s.out.length on] 139)) (.cells #[.int .i64 0, .slice none 0 0, .slice none 0 0, .int .i64 0, .slice none 0 0, .slice none 0 0, .slice none 0 0] 139); simpa only [size_alloc] using h)
    have HS0 := Lib.hid (show Bx (((w.alloc (.cells #[.slice P1 p.cl.length q1, .slice P2 p.pl.length q2] 58)).alloc (.cells #[.int .i64 s.st, .slice (some gad) (m + 1) gn, .slice BA s.binds.length bn, .int .i64 s.vars, .slice CA s.ch.length cn, .slice TA s.top.length tn, .slice OA s.out.length on] 139)).alloc (.cells #[.int .i64 0, .slice none 0 0, .slice none 0 0, .int .i64 0, .slice none 0 0, .slice none 0 0, .slice none 0 0] 139)) (w.heap.size + 1) 139 #[.int .i64 s.st, .slice (some gad) (m + 1) gn, .slice BA s.binds.length bn, .int .i64 s.vars, .slice CA s.ch.length cn, .slice TA s.top.length tn, .slice OA s.out.length on] from by have h := Bx.alloc (Bx.new (w.alloc (.cells #[.slice P1 p.cl.length q1, .slice P2 p.pl.length q2] 58)) 139 #[.int .i64 s.st, .slice (some gad) (m + 1) gn, .slice BA s.binds.length bn, .int .i64 s.vars, .slice CA s.ch.length cn, .slice TA s.top.length tn, .slice OA s.out.length on]) (.cells #[.int .i64 0, .slice none 0 0, .slice none 0 0, .int .i64 0, .slice none 0 0, .slice none 0 0, .slice none 0 0] 139); simpa only [size_alloc] using h)
    have HR0 := Lib.hid (show Bx (((w.alloc (.cells #[.slice P1 p.cl.length q1, .slice P2 p.pl.length q2] 58)).alloc (.cells #[.int .i64 s.st, .slice (some gad) (m + 1) gn, .slice BA s.binds.length bn, .int .i64 s.vars, .slice CA s.ch.length cn, .slice TA s.top.length tn, .slice OA s.out.length on] 139)).alloc (.cells #[.int .i64 0, .slice none 0 0, .slice none 0 0, .int .i64 0, .slice none 0 0, .slice none 0 0, .slice none 0 0] 139)) (w.heap.size + 1 + 1) 139 #[.int .i64 0, .slice none 0 0, .slice none 0 0, .int .i64 0, .slice none 0 0, .slice none 0 0, .slice none 0 0] from by have h := Bx.new ((w.alloc (.cells #[.slice P1 p.cl.length q1, .slice P2 p.pl.length q2] 58)).alloc (.cells #[.int .i64 s.st, .slice (some gad) (m + 1) gn, .slice BA s.binds.length bn, .int .i64 s.vars, .slice CA s.ch.length cn, .slice TA s.top.length tn, .slice OA s.out.length on] 139)) 139 #[.int .i64 0, .slice none 0 0, .slice none 0 0, .int .i64 0, .slice none 0 0, .slice none 0 0, .slice none 0 0]; simpa only [size_alloc] using h)
    have z0 := cell_keep HB0.out z0
    have z1 := cell_keep HB0.out z1
    have z2 := cell_keep HB0.out z2
    have z3 := cell_keep HB0.out z3
    have z4 := cell_keep HB0.out z4
    clear hk hT hG hSt' hp hs hZ hgl hGC v1 v2 v3 hGA t1 t2 hgr c2 c3 c4 h1 h2 hout hgm hm
    go_enter Tryz.func100, Tryz.ntmps100
    go_upto_region 8 with (fail)
    have HB4 := Lib.hid (bel_alloc HB0.out (.cells #[.int .i64 gk, .slice XA ga.length xn, .slice YA gb.length yn, .slice ZA gc.length zn, .int .i64 gcut] 168))
    have HP4 := Lib.hid (Bx.alloc HP0.out (.cells #[.int .i64 gk, .slice XA ga.length xn, .slice YA gb.length yn, .slice ZA gc.length zn, .int .i64 gcut] 168))
    have HS4 := Lib.hid (Bx.alloc HS0.out (.cells #[.int .i64 gk, .slice XA ga.length xn, .slice YA gb.length yn, .slice ZA gc.length zn, .int .i64 gcut] 168))
    have HR4 := Lib.hid (Bx.alloc HR0.out (.cells #[.int .i64 gk, .slice XA ga.length xn, .slice YA gb.length yn, .slice ZA gc.length zn, .int .i64 gcut] 168))
    have HG4 := Lib.hid (show Bx ((((w.alloc (.cells #[.slice P1 p.cl.length q1, .slice P2 p.pl.length q2] 58)).alloc (.cells #[.int .i64 s.st, .slice (some gad) (m + 1) gn, .slice BA s.binds.length bn, .int .i64 s.vars, .slice CA s.ch.length cn, .slice TA s.top.length tn, .slice OA s.out.length on] 139)).alloc (.cells #[.int .i64 0, .slice none 0 0, .slice none 0 0, .int .i64 0, .slice none 0 0, .slice none 0 0, .slice none 0 0] 139)).alloc (.cells #[.int .i64 gk, .slice XA ga.length xn, .slice YA gb.length yn, .slice ZA gc.length zn, .int .i64 gcut] 168)) (w.heap.size + 1 + 1 + 1) 168 #[.int .i64 gk, .slice XA ga.length xn, .slice YA gb.length yn, .slice ZA gc.length zn, .int .i64 gcut] from by have h := Bx.new (((w.alloc (.cells #[.slice P1 p.cl.length q1, .slice P2 p.pl.length q2] 58)).alloc (.cells #[.int .i64 s.st, .slice (some gad) (m + 1) gn, .slice BA s.binds.length bn, .int .i64 s.vars, .slice CA s.ch.length cn, .slice TA s.top.length tn, .slice OA s.out.length on] 139)).alloc (.cells #[.int .i64 0, .slice none 0 0, .slice none 0 0, .int .i64 0, .slice none 0 0, .slice none 0 0, .slice none 0 0] 139)) 168 #[.int .i64 gk, .slice XA ga.length xn, .slice YA gb.length yn, .slice ZA gc.length zn, .int .i64 gcut]; simpa only [size_alloc] using h)
    generalize (((w.alloc (.cells #[.slice P1 p.cl.length q1, .slice P2 p.pl.length q2] 58)).alloc (.cells #[.int .i64 s.st, .slice (some gad) (m + 1) gn, .slice BA s.binds.length bn, .int .i64 s.vars, .slice CA s.ch.length cn, .slice TA s.top.length tn, .slice OA s.out.length on] 139)).alloc (.cells #[.int .i64 0, .slice none 0 0, .slice none 0 0, .int .i64 0, .slice none 0 0, .slice none 0 0, .slice none 0 0] 139)).alloc (.cells #[.int .i64 gk, .slice XA ga.length xn, .slice YA gb.length yn, .slice ZA gc.length zn, .int .i64 gcut] 168) = w4 at *
    clear z0 z1 z2 z3 z4 HB0 HP0 HS0 HR0
    have p4_0 := Bx.at' HP4.out 0 (.slice P1 p.cl.length q1) rfl
    have p4_1 := Bx.at' HP4.out 1 (.slice P2 p.pl.length q2) rfl
    have s4_0 := Bx.at' HS4.out 0 (.int .i64 s.st) rfl
    have s4_1 := Bx.at' HS4.out 1 (.slice (some gad) (m + 1) gn) rfl
    have s4_2 := Bx.at' HS4.out 2 (.slice BA s.binds.length bn) rfl
    have s4_3 := Bx.at' HS4.out 3 (.int .i64 s.vars) rfl
    have s4_4 := Bx.at' HS4.out 4 (.slice CA s.ch.length cn) rfl
    have s4_5 := Bx.at' HS4.out 5 (.slice TA s.top.length tn) rfl
    have s4_6 := Bx.at' HS4.out 6 (.slice OA s.out.length on) rfl
    have g4_0 := Bx.at' HG4.out 0 (.int .i64 gk) rfl
    have g4_1 := Bx.at' HG4.out 1 (.slice XA ga.length xn) rfl
    have g4_2 := Bx.at' HG4.out 2 (.slice YA gb.length yn) rfl
    have g4_3 := Bx.at' HG4.out 3 (.slice ZA gc.length zn) rfl
    have g4_4 := Bx.at' HG4.out 4 (.int .i64 gcut) rfl
    have HRs4 := Lib.hid (Kd.S_ext HB4.out HRs.out)
    have HV4 := Lib.hid (HSt.out.ext HB4.out)
    have HXr := Lib.hid (show ∀ (x : SGoal) (k : Nat), k = 1 → (x :: rest).drop k = rest from fun x k hk => by subst hk; rfl)
    go_upto_region 9 with (first | (refine wp_sub_l AppI.sgoal rfl rfl HRs4.out rfl rfl (by omega) (by rw [List.length_cons]; omega) ?_; intro v6 hv6; rw [HXr.out _ _ (by omega)] at hv6; have HH := Lib.hid hv6; obtain ⟨HA, hn, rfl, -, -, -⟩ := hv6) | fail)
    by_cases k1 : gk = 1
    · rw [if_pos k1] at hr
      have HC := Lib.hid (fun W hv hb' hh => HCl W hv hb' hh k1 hr)
      clear hr HCl HSm HRk HFl
      subst k1
      go_wp2_with (first | (go_at_call 121; (with_reducible refine (HC.out _ _ HB4.out HH.out).mono ?_); rintro e w6 ⟨rg, rb, rc, rt, ro, rfl, hst, hw⟩; have HW6 := Lib.hid hw; have HST6 := Lib.hid hst; obtain ⟨RG, rgn, rfl, -, -, -⟩ := hst.g; obtain ⟨RB, rbn, rfl, -, -, -⟩ := hst.b; obtain ⟨RC, rcn, erc, -, -, -⟩ := Kd.O_read hst.c; rw [List.length_map] at erc; obtain rfl := erc; obtain ⟨RT, rtn, rfl, -, -, -⟩ := hst.t; obtain ⟨RO, ron, rfl, -, -, -⟩ := hst.o; have HR6 := Lib.hid (Bx.but HR4.out hw.but (by decide)); obtain ⟨m0, m1, m2, m3, m4, m5, m6, m7, m8, m9, m10, m11, m12, m13, HE⟩ := put_7 HR6.out (.int .i64 r.st) (.slice RG r.goals.length rgn) (.slice RB r.binds.length rbn) (.int .i64 r.vars) (.slice RC r.ch.length rcn) (.slice RT r.top.length rtn) (.slice RO r.out.length ron); clear hw hst) | fail)
      refine bodyPost_ret (results_cell_row rfl _ _ (w.heap.size + 1 + 1) 139 _ (0, 0) _ rfl HE.out.1 Tryz.underlying139 rfl (by kernel_rfl)) rfl ?_
      exact ⟨_, _, _, _, _, rfl, HST6.out.but HE.out.2.1, wrote_own ((Wrote.of_below hB HB4.out).trans HW6.out) (HE.out.2.2 w.heap.size _ (by omega) (Below.refl _ _)) hB⟩
    rw [if_neg k1] at hr
    by_cases k2 : gk = 2
    · rw [if_pos k2] at hr
      have HC := Lib.hid (fun W hv hb' hh => HSm W hv hb' hh k2 hr)
      clear hr HCl HSm HRk HFl
      subst k2
      go_wp2_with (first | (go_at_call 122; (with_reducible refine (HC.out _ _ HB4.out HH.out).mono ?_); rintro e w6 ⟨rg, rb, rc, rt, ro, rfl, hst, hw⟩; have HW6 := Lib.hid hw; have HST6 := Lib.hid hst; obtain ⟨RG, rgn, rfl, -, -, -⟩ := hst.g; obtain ⟨RB, rbn, rfl, -, -, -⟩ := hst.b; obtain ⟨RC, rcn, erc, -, -, -⟩ := Kd.O_read hst.c; rw [List.length_map] at erc; obtain rfl := erc; obtain ⟨RT, rtn, rfl, -, -, -⟩ := hst.t; obtain ⟨RO, ron, rfl, -, -, -⟩ := hst.o; have HR6 := Lib.hid (Bx.but HR4.out hw.but (by decide)); obtain ⟨m0, m1, m2, m3, m4, m5, m6, m7, m8, m9, m10, m11, m12, m13, HE⟩ := put_7 HR6.out (.int .i64 r.st) (.slice RG r.goals.length rgn) (.slice RB r.binds.length rbn) (.int .i64 r.vars) (.slice RC r.ch.length rcn) (.slice RT r.top.length rtn) (.slice RO r.out.length ron); clear hw hst) | fail)
      refine bodyPost_ret (results_cell_row rfl _ _ (w.heap.size + 1 + 1) 139 _ (0, 0) _ rfl HE.out.1 Tryz.underlying139 rfl (by kernel_rfl)) rfl ?_
      exact ⟨_, _, _, _, _, rfl, HST6.out.but HE.out.2.1, wrote_own ((Wrote.of_below hB HB4.out).trans HW6.out) (HE.out.2.2 w.heap.size _ (by omega) (Below.refl _ _)) hB⟩
    rw [if_neg k2] at hr
    by_cases k4 : gk = 4 ∨ gk = 5
    · rw [if_pos k4] at hr
      have HC := fun W hv hb' hh => HRk W hv hb' hh k4 hr
      clear hr HCl HSm HRk HFl
      rcases k4 with k4 | k4
      all_goals
        subst k4
        have HC := Lib.hid HC
        go_wp2_with (first | (go_at_call 123; (with_reducible refine (HC.out _ _ HB4.out HH.out).mono ?_); rintro e w6 ⟨rg, rb, rc, rt, ro, rfl, hst, hw⟩; have HW6 := Lib.hid hw; have HST6 := Lib.hid hst; obtain ⟨RG, rgn, rfl, -, -, -⟩ := hst.g; obtain ⟨RB, rbn, rfl, -, -, -⟩ := hst.b; obtain ⟨RC, rcn, erc, -, -, -⟩ := Kd.O_read hst.c; rw [List.length_map] at erc; obtain rfl := erc; obtain ⟨RT, rtn, rfl, -, -, -⟩ := hst.t; obtain ⟨RO, ron, rfl, -, -, -⟩ := hst.o; have HR6 := Lib.hid (Bx.but HR4.out hw.but (by decide)); obtain ⟨m0, m1, m2, m3, m4, m5, m6, m7, m8, m9, m10, m11, m12, m13, HE⟩ := put_7 HR6.out (.int .i64 r.st) (.slice RG r.goals.length rgn) (.slice RB r.binds.length rbn) (.int .i64 r.vars) (.slice RC r.ch.length rcn) (.slice RT r.top.length rtn) (.slice RO r.out.length ron); clear hw hst) | fail)
        refine bodyPost_ret (results_cell_row rfl _ _ (w.heap.size + 1 + 1) 139 _ (0, 0) _ rfl HE.out.1 Tryz.underlying139 rfl (by kernel_rfl)) rfl ?_
        exact ⟨_, _, _, _, _, rfl, HST6.out.but HE.out.2.1, wrote_own ((Wrote.of_below hB HB4.out).trans HW6.out) (HE.out.2.2 w.heap.size _ (by omega) (Below.refl _ _)) hB⟩
    rw [if_neg k4] at hr
    by_cases k3 : gk = 3
    · rw [if_pos k3] at hr
      clear HCl HSm HRk HFl
      subst k3
      obtain ⟨kc, rfl⟩ : ∃ kc : Nat, gcut = kc := ⟨gcut.toNat, by omega⟩
      rw [Int.toNat_natCast] at hr
      obtain ⟨D, hD⟩ : ∃ D, s.ch.take kc = D := ⟨_, rfl⟩
      rw [hD] at hr
      obtain rfl := Option.some.inj hr
      have HXc := Lib.hid (show ∀ k : Nat, k = kc → (s.ch.map (viewC s)).take k = D.map (viewC { s with ch := D, goals := rest }) from fun k hk => by rw [hk, ← List.map_take, hD]; rfl)
      have HXl := Lib.hid (show (s.ch.map (viewC s)).length = s.ch.length by rw [List.length_map])
      clear hr hD
      go_wp2_with (first | (refine wp_sub_own AppI.sch rfl rfl HV4.out.c rfl rfl (by omega) (by rw [HXl.out]; omega) ?_; intro v9 hv9 hb9; rw [HXc.out _ (by omega)] at hv9; have HO9 := Lib.hid hv9; obtain ⟨NA, nn, ec9, -, -, -⟩ := Kd.O_read hv9; rw [List.length_map] at ec9; subst ec9; clear hv9 hb9; have HWr := Lib.hid (Wrote.of_below (e := 196) hB HB4.out); have s5_1 := Bx.at' HS4.out 4 (.slice CA s.ch.length cn) rfl; have f5_1 := Bx.free HS4.out 4; have K5_1 := Lib.hid (bx_but (j := 4) (u := .slice NA D.length nn) HS4.out); have S5_1 : Hid (Bx _ _ _ #[.int .i64 s.st, .slice (some gad) (m + 1) gn, .slice BA s.binds.length bn, .int .i64 s.vars, .slice NA D.length nn, .slice TA s.top.length tn, .slice OA s.out.length on]) := Lib.hid (Bx.put HS4.out 4 (.slice NA D.length nn)); have R5_1 := Lib.hid (Bx.far HR4.out (g' := w.heap.size + 1) (by omega) 4 (.slice NA D.length nn)); have B5_1 := Lib.hid (wrote_own HWr.out (setc4 (g := w.heap.size + 1) (Below.refl _ _) (by omega) 4 (.slice NA D.length nn)) hB); have s5_2 := Bx.at' S5_1.out 1 (.slice (some gad) (m + 1) gn) rfl; have f5_2 := Bx.free S5_1.out 1; have K5_2 := Lib.hid (KeepBut.trans K5_1.out (bx_but (j := 1) (u := .slice HA rest.length hn) S5_1.out)); have S5_2 : Hid (Bx _ _ _ #[.int .i64 s.st, .slice HA rest.length hn, .slice BA s.binds.length bn, .int .i64 s.vars, .slice NA D.length nn, .slice TA s.top.length tn, .slice OA s.out.length on]) := Lib.hid (Bx.put S5_1.out 1 (.slice HA rest.length hn)); have R5_2 := Lib.hid (Bx.far R5_1.out (g' := w.heap.size + 1) (by omega) 1 (.slice HA rest.length hn)); have B5_2 := Lib.hid (wrote_own B5_1.out (setc4 (g := w.heap.size + 1) (Below.refl _ _) (by omega) 1 (.slice HA rest.length hn)) hB); have l5_0 := Bx.at' S5_2.out 0 (.int .i64 s.st) rfl; have l5_1 := Bx.at' S5_2.out 1 (.slice HA rest.length hn) rfl; have l5_2 := Bx.at' S5_2.out 2 (.slice BA s.binds.length bn) rfl; have l5_3 := Bx.at' S5_2.out 3 (.int .i64 s.vars) rfl; have l5_4 := Bx.at' S5_2.out 4 (.slice NA D.length nn) rfl; have l5_5 := Bx.at' S5_2.out 5 (.slice TA s.top.length tn) rfl; have l5_6 := Bx.at' S5_2.out 6 (.slice OA s.out.length on) rfl; obtain ⟨m0, m1, m2, m3, m4, m5, m6, m7, m8, m9, m10, m11, m12, m13, HE⟩ := put_7 R5_2.out (.int .i64 s.st) (.slice HA rest.length hn) (.slice BA s.binds.length bn) (.int .i64 s.vars) (.slice NA D.length nn) (.slice TA s.top.length tn) (.slice OA s.out.length on); have HSTf := Lib.hid (StV.mk (s := { s with ch := D, goals := rest }) (B := B) (K5_2.out.S HH.out (by decide)) (K5_2.out.S HV4.out.b (by decide)) (K5_2.out.O HO9.out (by decide)) (K5_2.out.S HV4.out.t (by decide)) (K5_2.out.S HV4.out.o (by decide)))) | fail)
      refine bodyPost_ret (results_cell_row rfl _ _ (w.heap.size + 1 + 1) 139 _ (0, 0) _ rfl HE.out.1 Tryz.underlying139 rfl (by kernel_rfl)) rfl ?_
      exact ⟨_, _, _, _, _, rfl, HSTf.out.but HE.out.2.1, wrote_own (B5_2.out) (HE.out.2.2 w.heap.size _ (by omega) (Below.refl _ _)) hB⟩
    rw [if_neg k3] at hr
    obtain rfl : gk = 6 := by omega
    obtain ⟨qf, hqf⟩ : ∃ qf, decide ((flat s.binds ga).length ≤ 40) = qf := ⟨_, rfl⟩
    have HF := Lib.hid (fun W hb' => HFl W hb' rfl hqf)
    clear HCl HSm HRk HFl
    by_cases h40 : (flat s.binds ga).length ≤ 40
    · rw [if_pos h40] at hr
      obtain rfl := Option.some.inj hr
      obtain rfl : true = qf := by rw [← hqf]; exact (decide_eq_true h40).symm
      clear hr hqf h40
      go_wp2_with (first | (go_at_call 124; (with_reducible refine (HF.out _ HB4.out).mono ?_); rintro e w5 ⟨v1, rfl, hsl1, hf, hb'⟩; obtain ⟨FA, fl, fn, rfl⟩ := hsl1; have HB5 := Lib.hid (bel_trans HB4.out hb'); have HP5 := Lib.hid (Bx.below HP4.out hb'); have HS5 := Lib.hid (Bx.below HS4.out hb'); have HR5 := Lib.hid (Bx.below HR4.out hb'); have s5_0 := Bx.at' HS5.out 0 (.int .i64 s.st) rfl; have s5_1 := Bx.at' HS5.out 1 (.slice (some gad) (m + 1) gn) rfl; have s5_2 := Bx.at' HS5.out 2 (.slice BA s.binds.length bn) rfl; have s5_3 := Bx.at' HS5.out 3 (.int .i64 s.vars) rfl; have s5_4 := Bx.at' HS5.out 4 (.slice CA s.ch.length cn) rfl; have s5_5 := Bx.at' HS5.out 5 (.slice TA s.top.length tn) rfl; have s5_6 := Bx.at' HS5.out 6 (.slice OA s.out.length on) rfl; have HH5 := Lib.hid (Kd.S_ext hb' HH.out); have HV5 := Lib.hid (HSt.out.ext HB5.out); clear hf hb'; have HWr := Lib.hid (Wrote.of_below (e := 196) hB HB5.out); have s6_1 := Bx.at' HS5.out 1 (.slice (some gad) (m + 1) gn) rfl; have f6_1 := Bx.free HS5.out 1; have K6_1 := Lib.hid (bx_but (j := 1) (u := .slice HA rest.length hn) HS5.out); have S6_1 : Hid (Bx _ _ _ #[.int .i64 s.st, .slice HA rest.length hn, .slice BA s.binds.length bn, .int .i64 s.vars, .slice CA s.ch.length cn, .slice TA s.top.length tn, .slice OA s.out.length on]) := Lib.hid (Bx.put HS5.out 1 (.slice HA rest.length hn)); have R6_1 := Lib.hid (Bx.far HR5.out (g' := w.heap.size + 1) (by omega) 1 (.slice HA rest.length hn)); have B6_1 := Lib.hid (wrote_own HWr.out (setc4 (g := w.heap.size + 1) (Below.refl _ _) (by omega) 1 (.slice HA rest.length hn)) hB); have l6_0 := Bx.at' S6_1.out 0 (.int .i64 s.st) rfl; have l6_1 := Bx.at' S6_1.out 1 (.slice HA rest.length hn) rfl; have l6_2 := Bx.at' S6_1.out 2 (.slice BA s.binds.length bn) rfl; have l6_3 := Bx.at' S6_1.out 3 (.int .i64 s.vars) rfl; have l6_4 := Bx.at' S6_1.out 4 (.slice CA s.ch.length cn) rfl; have l6_5 := Bx.at' S6_1.out 5 (.slice TA s.top.length tn) rfl; have l6_6 := Bx.at' S6_1.out 6 (.slice OA s.out.length on) rfl; obtain ⟨m0, m1, m2, m3, m4, m5, m6, m7, m8, m9, m10, m11, m12, m13, HE⟩ := put_7 R6_1.out (.int .i64 s.st) (.slice HA rest.length hn) (.slice BA s.binds.length bn) (.int .i64 s.vars) (.slice CA s.ch.length cn) (.slice TA s.top.length tn) (.slice OA s.out.length on); have HOT := Lib.hid (show Kd.sch.O 196 w5 B (.slice CA s.ch.length cn) (List.map (viewC { s with goals := rest }) s.ch) from HV5.out.c); have HSTf := Lib.hid (StV.mk (s := { s with goals := rest }) (B := B) (K6_1.out.S HH5.out (by decide)) (K6_1.out.S HV5.out.b (by decide)) (K6_1.out.O HOT.out (by decide)) (K6_1.out.S HV5.out.t (by decide)) (K6_1.out.S HV5.out.o (by decide)))) | fail)
      refine bodyPost_ret (results_cell_row rfl _ _ (w.heap.size + 1 + 1) 139 _ (0, 0) _ rfl HE.out.1 Tryz.underlying139 rfl (by kernel_rfl)) rfl ?_
      exact ⟨_, _, _, _, _, rfl, HSTf.out.but HE.out.2.1, wrote_own (B6_1.out) (HE.out.2.2 w.heap.size _ (by omega) (Below.refl _ _)) hB⟩
    · rw [if_neg h40] at hr
      obtain rfl := Option.some.inj hr
      obtain rfl : false = qf := by rw [← hqf]; exact (decide_eq_false h40).symm
      clear hr hqf h40
      go_wp2_with (first | (go_at_call 124; (with_reducible refine (HF.out _ HB4.out).mono ?_); rintro e w5 ⟨v1, rfl, hsl1, hf, hb'⟩; obtain ⟨FA, fl, fn, rfl⟩ := hsl1; have HB5 := Lib.hid (bel_trans HB4.out hb'); have HP5 := Lib.hid (Bx.below HP4.out hb'); have HS5 := Lib.hid (Bx.below HS4.out hb'); have HR5 := Lib.hid (Bx.below HR4.out hb'); have s5_0 := Bx.at' HS5.out 0 (.int .i64 s.st) rfl; have s5_1 := Bx.at' HS5.out 1 (.slice (some gad) (m + 1) gn) rfl; have s5_2 := Bx.at' HS5.out 2 (.slice BA s.binds.length bn) rfl; have s5_3 := Bx.at' HS5.out 3 (.int .i64 s.vars) rfl; have s5_4 := Bx.at' HS5.out 4 (.slice CA s.ch.length cn) rfl; have s5_5 := Bx.at' HS5.out 5 (.slice TA s.top.length tn) rfl; have s5_6 := Bx.at' HS5.out 6 (.slice OA s.out.length on) rfl; have HH5 := Lib.hid (Kd.S_ext hb' HH.out); have HV5 := Lib.hid (HSt.out.ext HB5.out); clear hf hb') | (go_at_call 125; (with_reducible refine (HEn.out _ HB5.out).mono ?_); rintro e w6 ⟨t', rfl, ht', hb'⟩; have HT6 := Lib.hid ht'; obtain ⟨VT, vt, rfl, -, -, -⟩ := ht'; have HB6 := Lib.hid (bel_trans HB5.out hb'); have HR6 := Lib.hid (Bx.below HR5.out hb'); obtain ⟨m0, m1, m2, m3, m4, m5, m6, m7, m8, m9, m10, m11, m12, m13, HE⟩ := put_7 HR6.out (.int .i64 4) (.slice none 0 0) (.slice none 0 0) (.int .i64 0) (.slice none 0 0) (.slice VT s.top.length vt) (.slice none 0 0); clear hb') | fail)
      refine bodyPost_ret (results_cell_row rfl _ _ (w.heap.size + 1 + 1) 139 _ (0, 0) _ rfl HE.out.1 Tryz.underlying139 rfl (by kernel_rfl)) rfl ?_
      exact ⟨_, _, _, _, _, rfl, (StV.mk (s := tEnd s 4) (Kd.S_nil _ _ _) (Kd.S_nil _ _ _) (Kd.O_nil _ _ _ _) HT6.out (Kd.S_nil _ _ _)).but HE.out.2.1, wrote_own (Wrote.of_below hB HB6.out) (HE.out.2.2 w.heap.size _ (by omega) (Below.refl _ _)) hB⟩
#print axioms step4_c
end Go.Proofs.YtjglbadkbhopoaaGreatDoor
namespace Go.Proofs.YtjglbadkbhopoaaGreatDoor
open Go.RowKit
set_option maxRecDepth 100000
set_option maxHeartbeats 8000000
set_option linter.unusedVariables false
theorem run4_c {p : Prog} (s : TSt) (fuel : Nat) (p1 p2 gv bv cv tv ov : Value) (B L : Nat) (w : World) (hk : Tok true p (-1) s) (hpk : prgOk p = true) (hp : PrR w p p1 p2) (hs : StV B w s gv bv cv tv ov) (hB : B ≤ w.heap.size) (hZ : SzB L s) (hL9 : L + 6 * fuel + 1 ≤ 900000000) :
    Calls Tryz.prog 101 #[.agg #[p1, p2], .agg #[.int .i64 s.st, gv, bv, .int .i64 s.vars, cv, tv, ov], .int .i64 (fuel : Int)] w fun e w' => ∃ gv bv cv tv ov, e = .returned (.tuple #[.agg #[.int .i64 (runL p fuel s).1.st, gv, bv, .int .i64 (runL p fuel s).1.vars, cv, tv, ov], .int .i64 ((runL p fuel s).2 : Int)]) ∧ StV B w' (runL p fuel s).1 gv bv cv tv ov ∧ Wrote B 196 w w' := by
  have HPr := Lib.hid hp
  have HSt := Lib.hid hs
  obtain ⟨Y, N, hYN⟩ : ∃ Y N, runL p fuel s = (Y, N) := ⟨_, _, rfl⟩
  rw [hYN]
  dsimp only
  have HY0 := Lib.hid (show Tok true p (-1) s ∧ SzB (L + 6 * 0) s ∧ ∃ m, runL p (fuel - 0) s = (Y, m) ∧ m + 0 = N from ⟨hk, by simpa using hZ, N, by simpa using hYN, by omega⟩)
  obtain ⟨P1, q1, rfl, -, -, -⟩ := hp.c
  obtain ⟨P2, q2, rfl, -, -, -⟩ := hp.p
  obtain ⟨GA, gn, rfl, -, -, -⟩ := hs.g
  obtain ⟨BA, bn, rfl, -, -, -⟩ := hs.b
  obtain ⟨CA, cn, ec, -, -, -⟩ := Kd.O_read hs.c
  rw [List.length_map] at ec
  obtain rfl := ec
  obtain ⟨TA, tn, rfl, -, -, -⟩ := hs.t
  obtain ⟨OA, on, rfl, -, -, -⟩ := hs.o
  have HB0 := Lib.hid (show Below w.heap.size w ((((w.alloc (.cells #[.slice P1 p.cl.length q1, .slice P2 p.pl.length q2] 58)).alloc (.cells #[.int .i64 s.st, .slice GA s.goals.length gn, .slice BA s.binds.length bn, .int .i64 s.vars, .slice CA s.ch.length cn, .slice TA s.top.length tn, .slice OA s.out.length on] 139)).alloc (.cells #[.int .i64 0, .slice none 0 0, .slice none 0 0, .int .i64 0, .slice none 0 0, .slice none 0 0, .slice none 0 0] 139)).alloc (.cells #[.int .i64 s.st, .slice GA s.goals.length gn, .slice BA s.binds.length bn, .int .i64 s.vars, .slice CA s.ch.length cn, .slice TA s.top.length tn, .slice OA s.out.length on] 139)) from bel_alloc (bel_alloc (bel_alloc (bel_alloc (Below.refl _ _) _) _) _) _)
  have HP0 := Lib.hid (show Bx ((((w.alloc (.cells #[.slice P1 p.cl.length q1, .slice P2 p.pl.length q2] 58)).alloc (.cells #[.int .i64 s.st, .slice GA s.goals.length gn, .slice BA s.binds.length bn, .int .i64 s.vars, .slice CA s.ch.length cn, .slice TA s.top.length tn, .slice OA s.out.length on] 139)).alloc (.cells #[.int .i64 0, .slice none 0 0, .slice none 0 0, .int .i64 0, .slice none 0 0, .slice none 0 0, .slice none 0 0] 139)).alloc (.cells #[.int .i64 s.st, .slice GA s.goals.length gn, .slice BA s.binds.length bn, .int .i64 s.vars, .slice CA s.ch.length cn, .slice TA s.top.length tn, .slice OA s.out.length on] 139)) (w.heap.size) 58 #[.slice P1 p.cl.length q1, .slice P2 p.pl.length q2] from by have h := Bx.alloc (Bx.alloc (Bx.alloc (Bx.new w 58 #[.slice P1 p.cl.length q1, .slice P2 p.pl.length q2]) (.cells #[.int .i64 s.st, .slice GA s.goals.length gn, .slice BA s.binds.length bn, .int .i64 s.vars, .slice CA s.ch.length cn, .slice TA s.top.length tn, .slice OA s.out.length on] 139)) (.cells #[.int .i64 0, .slice none 0 0, .slice none 0 0, .int .i64 0, .slice none 0 0, .slice none 0 0, .slice none 0 0] 139)) (.cells #[.int .i64 s.st, .slice GA s.goals.length gn, .slice BA s.binds.length bn, .int .i64 s.vars, .slice CA s.ch.length cn, .slice TA s.top.length tn, .slice OA s.out.length on] 139); simpa only [size_alloc] using h)
  have HS0 := Lib.hid (show Bx ((((w.alloc (.cells #[.slice P1 p.cl.length q1, .slice P2 p.pl.length q2] 58)).alloc (.cells #[.int .i64 s.st, .slice GA s.goals.length gn, .slice BA s.binds.length bn, .int .i64 s.vars, .slice CA s.ch.length cn, .slice TA s.top.length tn, .slice OA s.out.length on] 139)).alloc (.cells #[.int .i64 0, .slice none 0 0, .slice none 0 0, .int .i64 0, .slice none 0 0, .slice none 0 0, .slice none 0 0] 139)).alloc (.cells #[.int .i64 s.st, .slice GA s.goals.length gn, .slice BA s.binds.length bn, .int .i64 s.vars, .slice CA s.ch.length cn, .slice TA s.top.length tn, .slice OA s.out.length on] 139)) (w.heap.size + 1) 139 #[.int .i64 s.st, .slice GA s.goals.length gn, .slice BA s.binds.length bn, .int .i64 s.vars, .slice CA s.ch.length cn, .slice TA s.top.length tn, .slice OA s.out.length on] from by have h := Bx.alloc (Bx.alloc (Bx.new (w.alloc (.cells #[.slice P1 p.cl.length q1, .slice P2 p.pl.length q2] 58)) 139 #[.int .i64 s.st, .slice GA s.goals.length gn, .slice BA s.binds.length bn, .int .i64 s.vars, .slice CA s.ch.length cn, .slice TA s.top.length tn, .slice OA s.out.length on]) (.cells #[.int .i64 0, .slice none 0 0, .slice none 0 0, .int .i64 0, .slice none 0 0, .slice none 0 0, .slice none 0 0] 139)) (.cells #[.int .i64 s.st, .slice GA s.goals.length gn, .slice BA s.binds.length bn, .int .i64 s.vars, .slice CA s.ch.length cn, .slice TA s.top.length tn, .slice OA s.out.length on] 139); simpa only [size_alloc] using h)
  have HR0 := Lib.hid (show Bx ((((w.alloc (.cells #[.slice P1 p.cl.length q1, .slice P2 p.pl.length q2] 58)).alloc (.cells #[.int .i64 s.st, .slice GA s.goals.length gn, .slice BA s.binds.length bn, .int .i64 s.vars, .slice CA s.ch.length cn, .slice TA s.top.length tn, .slice OA s.out.length on] 139)).alloc (.cells #[.int .i64 0, .slice none 0 0, .slice none 0 0, .int .i64 0, .slice none 0 0, .slice none 0 0, .slice none 0 0] 139)).alloc (.cells #[.int .i64 s.st, .slice GA s.goals.length gn, .slice BA s.binds.length bn, .int .i64 s.vars, .slice CA s.ch.length cn, .slice TA s.top.length tn, .slice OA s.out.length on] 139)) (w.heap.size + 1 + 1) 139 #[.int .i64 0, .slice none 0 0, .slice none 0 0, .int .i64 0, .slice none 0 0, .slice none 0 0, .slice none 0 0] from by have h := Bx.alloc (Bx.new ((w.alloc (.cells #[.slice P1 p.cl.length q1, .slice P2 p.pl.length q2] 58)).alloc (.cells #[.int .i64 s.st, .slice GA s.goals.length gn, .slice BA s.binds.length bn, .int .i64 s.vars, .slice CA s.ch.length cn, .slice TA s.top.length tn, .slice OA s.out.length on] 139)) 139 #[.int .i64 0, .slice none 0 0, .slice none 0 0, .int .i64 0, .slice none 0 0, .slice none 0 0, .slice none 0 0]) (.cells #[.int .i64 s.st, .slice GA s.goals.length gn, .slice BA s.binds.length bn, .int .i64 s.vars, .slice CA s.ch.length cn, .slice TA s.top.length tn, .slice OA s.out.length on] 139); simpa only [size_alloc] using h)
  have HX0 := Lib.hid (show Bx ((((w.alloc (.cells #[.slice P1 p.cl.length q1, .slice P2 p.pl.length q2] 58)).alloc (.cells #[.int .i64 s.st, .slice GA s.goals.length gn, .slice BA s.binds.length bn, .int .i64 s.vars, .slice CA s.ch.length cn, .slice TA s.top.length tn, .slice OA s.out.length on] 139)).alloc (.cells #[.int .i64 0, .slice none 0 0, .slice none 0 0, .int .i64 0, .slice none 0 0, .slice none 0 0, .slice none 0 0] 139)).alloc (.cells #[.int .i64 s.st, .slice GA s.goals.length gn, .slice BA s.binds.length bn, .int .i64 s.vars, .slice CA s.ch.length cn, .slice TA s.top.length tn, .slice OA s.out.length on] 139)) (w.heap.size + 1 + 1 + 1) 139 #[.int .i64 s.st, .slice GA s.goals.length gn, .slice BA s.binds.length bn, .int .i64 s.vars, .slice CA s.ch.length cn, .slice TA s.top.length tn, .slice OA s.out.length on] from by have h := Bx.new (((w.alloc (.cells #[.slice P1 p.cl.length q1, .slice P2 p.pl.length q2] 58)).alloc (.cells #[.int .i64 s.st, .slice GA s.goals.length gn, .slice BA s.binds.length bn, .int .i64 s.vars, .slice CA s.ch.length cn, .slice TA s.top.length tn, .slice OA s.out.length on] 139)).alloc (.cells #[.int .i64 0, .slice none 0 0, .slice none 0 0, .int .i64 0, .slice none 0 0, .slice none 0 0, .slice none 0 0] 139)) 139 #[.int .i64 s.st, .slice GA s.goals.length gn, .slice BA s.binds.length bn, .int .i64 s.vars, .slice CA s.ch.length cn, .slice TA s.top.length tn, .slice OA s.out.length on]; simpa only [size_alloc] using h)
  clear hk hZ hYN hp hs
  go_enter Tryz.func101, Tryz.ntmps101
  go_wp2
  go_loopw [9] (fun v9 wr => ∃ (k : Nat) (x : TSt) (XG XB XC XT XO : Option Addr) (xg xb xc xt xo : Nat), v9 = .int .i64 (k : Int) ∧ k ≤ fuel ∧ Hid (Tok true p (-1) x ∧ SzB (L + 6 * k) x ∧ ∃ m, runL p (fuel - k) x = (Y, m) ∧ m + k = N) ∧ Hid (StV B wr x (.slice XG x.goals.length xg) (.slice XB x.binds.length xb) (.slice XC x.ch.length xc) (.slice XT x.top.length xt) (.slice XO x.out.length xo)) ∧ Hid (Wrote B 196 w wr) ∧ Hid (Bx wr (w.heap.size) 58 #[.slice P1 p.cl.length q1, .slice P2 p.pl.length q2]) ∧ Hid (Bx wr (w.heap.size + 1 + 1) 139 #[.int .i64 0, .slice none 0 0, .slice none 0 0, .int .i64 0, .slice none 0 0, .slice none 0 0, .slice none 0 0]) ∧ Hid (Bx wr (w.heap.size + 1 + 1 + 1) 139 #[.int .i64 x.st, .slice XG x.goals.length xg, .slice XB x.binds.length xb, .int .i64 x.vars, .slice XC x.ch.length xc, .slice XT x.top.length xt, .slice XO x.out.length xo])) (fun v9 _ => fuel - (intOf v9).toNat)
  case atStart => exact ⟨0, s, _, _, _, _, _, _, _, _, _, _, rfl, Nat.zero_le _, HY0, Lib.hid (HSt.out.ext HB0.out), Lib.hid (Wrote.of_below hB HB0.out), HP0, HR0, HX0⟩
  case round =>
    obtain ⟨k, x, XG, XB, XC, XT, XO, xg, xb, xc, xt, xo, rfl, hk, HYr, HSx, HWx, HPx, HRx, HXx⟩ := hrel
    have hsz : w.heap.size + 1 + 1 + 1 < wr.heap.size := (Array.getElem?_eq_some_iff.1 HXx.out).1
    have bx_0 := Bx.at' HXx.out 0 (.int .i64 x.st) rfl
    have bx_1 := Bx.at' HXx.out 1 (.slice XG x.goals.length xg) rfl
    have bx_2 := Bx.at' HXx.out 2 (.slice XB x.binds.length xb) rfl
    have bx_3 := Bx.at' HXx.out 3 (.int .i64 x.vars) rfl
    have bx_4 := Bx.at' HXx.out 4 (.slice XC x.ch.length xc) rfl
    have bx_5 := Bx.at' HXx.out 5 (.slice XT x.top.length xt) rfl
    have bx_6 := Bx.at' HXx.out 6 (.slice XO x.out.length xo) rfl
    have ax_0 := Bx.at' HPx.out 0 (.slice P1 p.cl.length q1) rfl
    have ax_1 := Bx.at' HPx.out 1 (.slice P2 p.pl.length q2) rfl
    by_cases hlt : k < fuel
    · have f0 : decide ((k : Int) < (fuel : Int)) = true := decide_eq_true (by omega)
      by_cases h1 : x.st = 1
      · have f1 : (x.st == 1) = true := beq_iff_eq.2 h1
        obtain ⟨r, hr⟩ : ∃ r, tStep p (-1) x = r := ⟨_, rfl⟩
        have HSp := Lib.hid (step4_c (n := fuelOf p x) x r _ _ _ _ _ _ _ B (L + 6 * k) wr (hr ▸ tStep_eq p (-1) x) HYr.out.1 (HPr.out.wrote4 HWx.out) HSx.out (Nat.le_trans hB HWx.out.bel.size) HYr.out.2.1 (by omega))
        have HY1 := Lib.hid (show Tok true p (-1) r ∧ SzB (L + 6 * (k + 1)) r ∧ ∃ m, runL p (fuel - (k + 1)) r = (Y, m) ∧ m + (k + 1) = N from by
          obtain ⟨y1, y2, m, hm, hmN⟩ := HYr.out
          refine ⟨(prgOk_nd hpk y1 hr.symm).1, ?_, ?_⟩
          · have := step_sz hpk y2 (hr ▸ tStep_eq p (-1) x)
            rwa [show L + 6 * k + 6 = L + 6 * (k + 1) by omega] at this
          · rw [show fuel - k = (fuel - (k + 1)) + 1 by omega] at hm
            unfold runL at hm
            rw [if_pos h1, hr] at hm
            injection hm with e1 e2
            exact ⟨(runL p (fuel - (k + 1)) r).2, by rw [← e1], by omega⟩)
        clear hr h1
        go_wp2_with (first | (go_at_call 100; (with_reducible refine (HSp.out).mono ?_); rintro e w3 ⟨rg, rb, rc, rt, ro, rfl, hst, hw⟩; have HW3 := Lib.hid hw; have HST3 := Lib.hid hst; obtain ⟨RG, rg, rfl, -, -, -⟩ := hst.g; obtain ⟨RB, rb, rfl, -, -, -⟩ := hst.b; obtain ⟨RC, rc, erc, -, -, -⟩ := Kd.O_read hst.c; rw [List.length_map] at erc; obtain rfl := erc; obtain ⟨RT, rt, rfl, -, -, -⟩ := hst.t; obtain ⟨RO, ro, rfl, -, -, -⟩ := hst.o; have HX3 := Lib.hid (Bx.but HXx.out hw.but (by decide)); have HP3 := Lib.hid (Bx.but HPx.out hw.but (by decide)); have HR3 := Lib.hid (Bx.but HRx.out hw.but (by decide)); obtain ⟨m0, m1, m2, m3, m4, m5, m6, m7, m8, m9, m10, m11, m12, m13, HE⟩ := put_7 HX3.out (.int .i64 r.st) (.slice RG r.goals.length rg) (.slice RB r.binds.length rb) (.int .i64 r.vars) (.slice RC r.ch.length rc) (.slice RT r.top.length rt) (.slice RO r.out.length ro); have HRf := Lib.hid (((HE.out.2.2 (w.heap.size + 1 + 1 + 1) w3 (Nat.le_refl _) (Below.refl _ _)).block _ (by omega)).trans HR3.out); have HPf := Lib.hid (Bx.but HP3.out HE.out.2.1 (by decide)); clear hw hst) | fail)
        exact ⟨⟨k + 1, r, RG, RB, RC, RT, RO, rg, rb, rc, rt, ro, by go_num, hlt, HY1, Lib.hid (HST3.out.but HE.out.2.1), Lib.hid (wrote_own (HWx.out.trans HW3.out) (HE.out.2.2 w.heap.size _ (by omega) (Below.refl _ _)) hB), HPf, HRf, Lib.hid HE.out.1⟩, by simp [intOf]; omega⟩
      · have f1 : (x.st == 1) = false := beq_eq_false_iff_ne.2 h1
        obtain ⟨m, hm, hmN⟩ := HYr.out.2.2
        rw [runL_not p _ h1] at hm
        clear h1
        injection hm with hx hm
        subst hx
        obtain rfl : k = N := by omega
        obtain ⟨m0, m1, m2, m3, m4, m5, m6, m7, m8, m9, m10, m11, m12, m13, HE⟩ := put_7 HRx.out (.int .i64 x.st) (.slice XG x.goals.length xg) (.slice XB x.binds.length xb) (.int .i64 x.vars) (.slice XC x.ch.length xc) (.slice XT x.top.length xt) (.slice XO x.out.length xo)
        clear hm hmN
        go_wp2
        refine ret_cell_tmp rfl rfl HE.out.1 Tryz.underlying139 rfl (by kernel_rfl) rfl ?_
        exact ⟨_, _, _, _, _, rfl, HSx.out.but HE.out.2.1, wrote_own HWx.out (HE.out.2.2 w.heap.size _ (by omega) (Below.refl _ _)) hB⟩
    · have f0 : decide ((k : Int) < (fuel : Int)) = false := decide_eq_false (by omega)
      obtain ⟨m, hm, hmN⟩ := HYr.out.2.2
      rw [show fuel - k = 0 by omega] at hm
      unfold runL at hm
      injection hm with hx hm
      subst hx
      obtain rfl : k = N := by omega
      obtain ⟨m0, m1, m2, m3, m4, m5, m6, m7, m8, m9, m10, m11, m12, m13, HE⟩ := put_7 HRx.out (.int .i64 x.st) (.slice XG x.goals.length xg) (.slice XB x.binds.length xb) (.int .i64 x.vars) (.slice XC x.ch.length xc) (.slice XT x.top.length xt) (.slice XO x.out.length xo)
      clear hm hmN
      go_wp2
      refine ret_cell_tmp rfl rfl HE.out.1 Tryz.underlying139 rfl (by kernel_rfl) rfl ?_
      exact ⟨_, _, _, _, _, rfl, HSx.out.but HE.out.2.1, wrote_own HWx.out (HE.out.2.2 w.heap.size _ (by omega) (Below.refl _ _)) hB⟩
#print axioms run4_c
end Go.Proofs.YtjglbadkbhopoaaGreatDoor
