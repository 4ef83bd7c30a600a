/- Lemmas and contracts for FnOutOk, part 19. -/
import Derived.Test.YtjglbadkbhopoaaGreatDoorW18
namespace Go.Proofs.YtjglbadkbhopoaaGreatDoor
open Go.RowKit
set_option maxRecDepth 100000
set_option maxHeartbeats 8000000
set_option linter.unusedVariables false
theorem pop_marks {q : Bool} {p : Prog} {node : Int} {s : TSt} (h : Tinv q p node s) {c : TCh} {cs : List TCh} (hc : s.ch = cs ++ [c]) : ∀ d ∈ cs, (s.binds.take c.mark.toNat).take d.mark.toNat = s.binds.take d.mark.toNat := fun d hd => by
  obtain ⟨o1, o2, o3, o4, o5, o6⟩ := h.pop hc
  obtain ⟨-, -, -, -, a5⟩ := chAll_last o4.ch
  have h1 : d.mark ≤ lastM 0 cs := (a5 d hd).1
  have h2 : lastM 0 cs ≤ c.mark := o1.mr.1
  rw [List.take_take]
  congr 1
  omega
theorem back4_c {q : Bool} (p : Prog) : ∀ n, BackV q n p := by
  intro n
  induction n with
  | zero =>
    intro s r p1 p2 gv bv cv tv ov B L w hr
    unfold tBack at hr
    cases hr
  | succ n ih =>
  intro s r p1 p2 gv bv cv tv ov B L w hr hT hp hs hB hL hL9
  have htl := isQ_len4 hT.top
  cases hlast : s.ch.getLast? with
  | none =>
    have hnil : s.ch = [] := List.getLast?_eq_none_iff.1 hlast
    obtain rfl : tEnd s 3 = r := by unfold tBack at hr; rw [hlast] at hr; exact Option.some.inj hr
    have f1 : ((s.ch.length : Int) == 0) = true := by rw [hnil]; rfl
    have HEn := Lib.hid (fun W (hb' : Below w.heap.size w W) => ends4_c s 3 gv bv cv tv ov W (hs.ext hb') (by omega))
    obtain ⟨P1, q1, rfl, -, -, -⟩ := hp.c
    obtain ⟨P2, q2, rfl, -, -, -⟩ := hp.p
    obtain ⟨GA, gn, rfl, -, -, -⟩ := hs.g
    obtain ⟨BA, bn, rfl, -, -, -⟩ := hs.b
    obtain ⟨CA, cn, ec, -, -, -⟩ := Kd.O_read hs.c
    rw [List.length_map] at ec
    obtain rfl := ec
    obtain ⟨TA, tn, rfl, -, -, -⟩ := hs.t
    obtain ⟨OA, on, rfl, -, -, -⟩ := hs.o
    have HB0 := Lib.hid (show Below w.heap.size w (((w.alloc (.cells #[.slice P1 p.cl.length q1, .slice P2 p.pl.length q2] 58)).alloc (.cells #[.int .i64 s.st, .slice GA s.goals.length gn, .slice BA s.binds.length bn, .int .i64 s.vars, .slice CA s.ch.length cn, .slice TA s.top.length tn, .slice OA s.out.length on] 139)).alloc (.cells #[.int .i64 0, .slice none 0 0, .slice none 0 0, .int .i64 0, .slice none 0 0, .slice none 0 0, .slice none 0 0] 139)) from bel_alloc (bel_alloc (bel_alloc (Below.refl _ _) _) _) _)
    have HP0 := Lib.hid (show Bx (((w.alloc (.cells #[.slice P1 p.cl.length q1, .slice P2 p.pl.length q2] 58)).alloc (.cells #[.int .i64 s.st, .slice GA s.goals.length gn, .slice BA s.binds.length bn, .int .i64 s.vars, .slice CA s.ch.length cn, .slice TA s.top.length tn, .slice OA s.out.length on] 139)).alloc (.cells #[.int .i64 0, .slice none 0 0, .slice none 0 0, .int .i64 0, .slice none 0 0, .slice none 0 0, .slice none 0 0] 139)) (w.heap.size) 58 #[.slice P1 p.cl.length q1, .slice P2 p.pl.length q2] from by have h := Bx.alloc (Bx.alloc (Bx.new w 58 #[.slice P1 p.cl.length q1, .slice P2 p.pl.length q2]) (.cells #[.int .i64 s.st, .slice GA s.goals.length gn, .slice BA s.binds.length bn, .int .i64 s.vars, .slice CA s.ch.length cn, .slice TA s.top.length tn, .slice OA s.out.length on] 139)) (.cells #[.int .i64 0, .slice none 0 0, .slice none 0 0, .int .i64 0, .slice none 0 0, .slice none 0 0, .slice none 0 0] 139); simpa only [size_alloc] using h)
    have HS0 := Lib.hid (show Bx (((w.alloc (.cells #[.slice P1 p.cl.length q1, .slice P2 p.pl.length q2] 58)).alloc (.cells #[.int .i64 s.st, .slice GA s.goals.length gn, .slice BA s.binds.length bn, .int .i64 s.vars, .slice CA s.ch.length cn, .slice TA s.top.length tn, .slice OA s.out.length on] 139)).alloc (.cells #[.int .i64 0, .slice none 0 0, .slice none 0 0, .int .i64 0, .slice none 0 0, .slice none 0 0, .slice none 0 0] 139)) (w.heap.size + 1) 139 #[.int .i64 s.st, .slice GA s.goals.length gn, .slice BA s.binds.length bn, .int .i64 s.vars, .slice CA s.ch.length cn, .slice TA s.top.length tn, .slice OA s.out.length on] from by have h := Bx.alloc (Bx.new (w.alloc (.cells #[.slice P1 p.cl.length q1, .slice P2 p.pl.length q2] 58)) 139 #[.int .i64 s.st, .slice GA s.goals.length gn, .slice BA s.binds.length bn, .int .i64 s.vars, .slice CA s.ch.length cn, .slice TA s.top.length tn, .slice OA s.out.length on]) (.cells #[.int .i64 0, .slice none 0 0, .slice none 0 0, .int .i64 0, .slice none 0 0, .slice none 0 0, .slice none 0 0] 139); simpa only [size_alloc] using h)
    have HR0 := Lib.hid (show Bx (((w.alloc (.cells #[.slice P1 p.cl.length q1, .slice P2 p.pl.length q2] 58)).alloc (.cells #[.int .i64 s.st, .slice GA s.goals.length gn, .slice BA s.binds.length bn, .int .i64 s.vars, .slice CA s.ch.length cn, .slice TA s.top.length tn, .slice OA s.out.length on] 139)).alloc (.cells #[.int .i64 0, .slice none 0 0, .slice none 0 0, .int .i64 0, .slice none 0 0, .slice none 0 0, .slice none 0 0] 139)) (w.heap.size + 1 + 1) 139 #[.int .i64 0, .slice none 0 0, .slice none 0 0, .int .i64 0, .slice none 0 0, .slice none 0 0, .slice none 0 0] from by have h := Bx.new ((w.alloc (.cells #[.slice P1 p.cl.length q1, .slice P2 p.pl.length q2] 58)).alloc (.cells #[.int .i64 s.st, .slice GA s.goals.length gn, .slice BA s.binds.length bn, .int .i64 s.vars, .slice CA s.ch.length cn, .slice TA s.top.length tn, .slice OA s.out.length on] 139)) 139 #[.int .i64 0, .slice none 0 0, .slice none 0 0, .int .i64 0, .slice none 0 0, .slice none 0 0, .slice none 0 0]; simpa only [size_alloc] using h)
    clear hr hT hp hs hL hlast hnil ih
    go_enter Tryz.func119, Tryz.ntmps119
    go_wp2_with (first | (go_at_call 125; (with_reducible refine (HEn.out _ HB0.out).mono ?_); rintro e w3 ⟨t', rfl, ht', hb'⟩; have HT3 := Lib.hid ht'; obtain ⟨VT, vt, rfl, -, -, -⟩ := ht'; have HB3 := Lib.hid (bel_trans HB0.out hb'); have HR3 := Lib.hid (Bx.below HR0.out hb'); obtain ⟨m0, m1, m2, m3, m4, m5, m6, m7, m8, m9, m10, m11, m12, m13, HE⟩ := put_7 HR3.out (.int .i64 3) (.slice none 0 0) (.slice none 0 0) (.int .i64 0) (.slice none 0 0) (.slice VT s.top.length vt) (.slice none 0 0); clear hb') | fail)
    refine bodyPost_ret (results_cell_row rfl _ _ (w.heap.size + 1 + 1) 139 _ (0, 0) _ rfl HE.out.1 Tryz.underlying139 rfl (by kernel_rfl)) rfl ?_
    exact ⟨_, _, _, _, _, rfl, (StV.mk (s := tEnd s 3) (Kd.S_nil _ _ _) (Kd.S_nil _ _ _) (Kd.O_nil _ _ _ _) HT3.out (Kd.S_nil _ _ _)).but HE.out.2.1, wrote_own (Wrote.of_below hB HB3.out) (HE.out.2.2 w.heap.size _ (by omega) (Below.refl _ _)) hB⟩
  | some c =>
    obtain ⟨cs, hcs⟩ := List.getLast?_eq_some_iff.1 hlast
    obtain ⟨o1, o2, o3, o4, o5, o6⟩ := hT.pop hcs
    have hmk := pop_marks hT hcs
    have hfar : c.far = 0 ∧ inR c.next 0 ((p.cl.length : Int) - 1) = true := by
      have h := o1.nf
      split at h
      · rename_i h0
        unfold nearOk at h
        simp only [Bool.and_eq_true] at h
        exact ⟨h0, h.1⟩
      · unfold farOk at h; simp at h
    have hnx := inR_iff.1 hfar.2
    have hdl : s.ch.dropLast = cs := by rw [hcs, List.dropLast_concat]
    obtain ⟨kx, hkx⟩ : ∃ kx : Nat, c.next = kx := ⟨c.next.toNat, by omega⟩
    have hr2 : tTryB (tBack n p) p { s with binds := s.binds.take c.mark.toNat, vars := c.vars, ch := cs } c.call c.goals kx = some r := by
      unfold tBack at hr
      rw [hlast] at hr
      simp only at hr
      rw [if_neg (by omega), hdl, hkx, Int.toNat_natCast] at hr
      exact hr
    obtain ⟨m, hm⟩ : ∃ m, cs.length = m := ⟨_, rfl⟩
    have hmb : m ≤ 900000000 := by have := hL.1; rw [hcs, List.length_append, hm] at this; omega
    have hlen : s.ch.length = m + 1 := by rw [hcs, List.length_append, List.length_singleton, hm]
    have f1 : (((m + 1 : Nat) : Int) == 0) = false := beq_eq_false_iff_ne.2 (by omega)
    have hcm : c ∈ s.ch := by rw [hcs]; simp
    have HTr := fun W gv' bv' vc tv' ov' av' hv' (hS : StV B W { s with binds := s.binds.take c.mark.toNat, vars := c.vars, ch := cs } gv' bv' vc tv' ov') (hw : Wrote B 196 w W) (ha : T0 w av' c.call) (hg : G0 w hv' c.goals) => try4_c ih { s with binds := s.binds.take c.mark.toNat, vars := c.vars, ch := cs } r c.call c.goals kx p1 p2 gv' bv' vc tv' ov' av' hv' B L W hr2 o4 (hp.wrote4 hw) hS (Nat.le_trans hB hw.bel.size) ⟨by show cs.length ≤ L; have := hL.1; omega, fun d hd => hL.2 d (by rw [hcs]; simp [hd])⟩ (by show cs.length + 1 ≤ L; have := hL.1; omega) (hL.2 c hcm) hL9 (termV_iff.2 ⟨o1.tm, o1.bl⟩) o1.cl o6 (by omega) (hw.S ha (by decide)) (hw.S hg (by decide))
    have HzT := Lib.hid (show ∀ k : Nat, k = m → (s.ch.map (viewC s)).take k = cs.map (viewC { s with binds := s.binds.take c.mark.toNat, vars := c.vars, ch := cs }) from fun k hk => by
      rw [hk, view_move (s := s) (s2 := { s with binds := s.binds.take c.mark.toNat, vars := c.vars, ch := cs }) hmk, hcs, List.map_append]
      exact List.take_left' (by rw [List.length_map]; exact hm))
    obtain ⟨A', c', ev, _, _, hSC⟩ := Kd.O_read hs.c
    obtain ⟨cad, gv2, bv2, av2, hCA, t0, t1, t2, t3, t4, tg, tb, ta⟩ := sch_at hSC (i := m) (x := viewC s c) (by rw [hcs, List.map_append, List.getElem?_append_right (by rw [List.length_map]; omega), List.length_map, hm, Nat.sub_self]; rfl)
    have t2 : _ = some (Value.int .i64 c.vars) := t2
    have t4 : _ = some (Value.int .i64 (kx : Int)) := t4.trans (congrArg (fun z => some (Value.int .i64 z)) hkx)
    have HTr := Lib.hid HTr
    have HSt := Lib.hid hs
    have HG2 := Lib.hid tg
    have HB2' := Lib.hid (show B0 w bv2 (s.binds.take c.mark.toNat) from tb)
    have HA2 := Lib.hid ta
    have HLm := Lib.hid (show (cs.map (viewC { s with binds := s.binds.take c.mark.toNat, vars := c.vars, ch := cs })).length = m by rw [List.length_map]; exact hm)
    have HXl := Lib.hid (show (s.ch.map (viewC s)).length = m + 1 by rw [List.length_map]; exact hlen)
    obtain ⟨P1, q1, rfl, -, -, -⟩ := hp.c
    obtain ⟨P2, q2, rfl, -, -, -⟩ := hp.p
    obtain ⟨GA, gn, rfl, -, -, -⟩ := hs.g
    obtain ⟨BA, bn, rfl, -, -, -⟩ := hs.b
    obtain ⟨CA, cn, ec, -, -, -⟩ := Kd.O_read hs.c
    rw [List.length_map, hlen] at ec
    subst ec
    injection ev with v1 v2 v3
    obtain rfl := v1.trans hCA
    obtain ⟨TA, tn, rfl, -, -, -⟩ := hs.t
    obtain ⟨OA, on, rfl, -, -, -⟩ := hs.o
    obtain ⟨GA2, gn2, rfl, -, -, -⟩ := tg
    obtain ⟨BA2, bn2, rfl, -, -, -⟩ := tb
    obtain ⟨AA2, an2, rfl, -, -, -⟩ := ta
    have HB0 := Lib.hid (show Below w.heap.size w (((w.alloc (.cells #[.slice P1 p.cl.length q1, .slice P2 p.pl.length q2] 58)).alloc (.cells #[.int .i64 s.st, .slice GA s.goals.length gn, .slice BA s.binds.length bn, .int .i64 s.vars, .slice (some cad) (m + 1) cn, .slice TA s.top.length tn, .slice OA s.out.length on] 139)).alloc (.cells #[.int .i64 0, .slice none 0 0, .slice none 0 0, .int .i64 0, .slice none 0 0, .slice none 0 0, .slice none 0 0] 139)) from bel_alloc (bel_alloc (bel_alloc (Below.refl _ _) _) _) _)
    have HP0 := Lib.hid (show Bx (((w.alloc (.cells #[.slice P1 p.cl.length q1, .slice P2 p.pl.length q2] 58)).alloc (.cells #[.int .i64 s.st, .slice GA s.goals.length gn, .slice BA s.binds.length bn, .int .i64 s.vars, .slice (some cad) (m + 1) cn, .slice TA s.top.length tn, .slice OA s.out.length on] 139)).alloc (.cells #[.int .i64 0, .slice none 0 0, .slice none 0 0, .int .i64 0, .slice none 0 0, .slice none 0 0, .slice none 0 0] 139)) (w.heap.size) 58 #[.slice P1 p.cl.length q1, .slice P2 p.pl.length q2] from by have h := Bx.alloc (Bx.alloc (Bx.new w 58 #[.slice P1 p.cl.length q1, .slice P2 p.pl.length q2]) (.cells #[.int .i64 s.st, .slice GA s.goals.length gn, .slice BA s.binds.length bn, .int .i64 s.vars, .slice (some cad) (m + 1) cn, .slice TA s.top.length tn, .slice OA s.out.length on] 139)) (.cells #[.int .i64 0, .slice none 0 0, .slice none 0 0, .int .i64 0, .slice none 0 0, .slice none 0 0, .slice none 0 0] 139); simpa only [size_alloc] using h)
    have HS0 := Lib.hid (show Bx (((w.alloc (.cells #[.slice P1 p.cl.length q1, .slice P2 p.pl.length q2] 58)).alloc (.cells #[.int .i64 s.st, .slice GA s.goals.length gn, .slice BA s.binds.length bn, .int .i64 s.vars, .slice (some cad) (m + 1) cn, .slice TA s.top.length tn, .slice OA s.out.length on] 139)).alloc (.cells #[.int .i64 0, .slice none 0 0, .slice none 0 0, .int .i64 0, .slice none 0 0, .slice none 0 0, .slice none 0 0] 139)) (w.heap.size + 1) 139 #[.int .i64 s.st, .slice GA s.goals.length gn, .slice BA s.binds.length bn, .int .i64 s.vars, .slice (some cad) (m + 1) cn, .slice TA s.top.length tn, .slice OA s.out.length on] from by have h := Bx.alloc (Bx.new (w.alloc (.cells #[.slice P1 p.cl.length q1, .slice P2 p.pl.length q2] 58)) 139 #[.int .i64 s.st, .slice GA s.goals.length gn, .slice BA s.binds.length bn, .int .i64 s.vars, .slice (some cad) (m + 1) cn, .slice TA s.top.length tn, .slice OA s.out.length on]) (.cells #[.int .i64 0, .slice none 0 0, .slice none 0 0, .int .i64 0, .slice none 0 0, .slice none 0 0, .slice none 0 0] 139); simpa only [size_alloc] using h)
    have HR0 := Lib.hid (show Bx (((w.alloc (.cells #[.slice P1 p.cl.length q1, .slice P2 p.pl.length q2] 58)).alloc (.cells #[.int .i64 s.st, .slice GA s.goals.length gn, .slice BA s.binds.length bn, .int .i64 s.vars, .slice (some cad) (m + 1) cn, .slice TA s.top.length tn, .slice OA s.out.length on] 139)).alloc (.cells #[.int .i64 0, .slice none 0 0, .slice none 0 0, .int .i64 0, .slice none 0 0, .slice none 0 0, .slice none 0 0] 139)) (w.heap.size + 1 + 1) 139 #[.int .i64 0, .slice none 0 0, .slice none 0 0, .int .i64 0, .slice none 0 0, .slice none 0 0, .slice none 0 0] from by have h := Bx.new ((w.alloc (.cells #[.slice P1 p.cl.length q1, .slice P2 p.pl.length q2] 58)).alloc (.cells #[.int .i64 s.st, .slice GA s.goals.length gn, .slice BA s.binds.length bn, .int .i64 s.vars, .slice (some cad) (m + 1) cn, .slice TA s.top.length tn, .slice OA s.out.length on] 139)) 139 #[.int .i64 0, .slice none 0 0, .slice none 0 0, .int .i64 0, .slice none 0 0, .slice none 0 0, .slice none 0 0]; simpa only [size_alloc] using h)
    have c0 := cell_keep HB0.out t0
    have c1 := cell_keep HB0.out t1
    have c2 := cell_keep HB0.out t2
    have c3 := cell_keep HB0.out t3
    have c4 := cell_keep HB0.out t4
    clear hr hr2 hT hp hs hL hlast hcs ih hSC t0 t1 t2 t3 t4 hmk o1 o2 o3 o4 o5 o6 hdl hcm hfar hlen v1 v2 v3 hCA hkx
    go_enter Tryz.func119, Tryz.ntmps119
    go_upto_region 5 with (fail)
    have HB4 := Lib.hid (bel_alloc HB0.out (.cells #[.slice GA2 (viewC s c).goals.length gn2, .slice BA2 (viewC s c).binds.length bn2, .int .i64 c.vars, .slice AA2 (viewC s c).call.length an2, .int .i64 (kx : Int)] 196))
    have HP4 := Lib.hid (Bx.alloc HP0.out (.cells #[.slice GA2 (viewC s c).goals.length gn2, .slice BA2 (viewC s c).binds.length bn2, .int .i64 c.vars, .slice AA2 (viewC s c).call.length an2, .int .i64 (kx : Int)] 196))
    have HS4 := Lib.hid (Bx.alloc HS0.out (.cells #[.slice GA2 (viewC s c).goals.length gn2, .slice BA2 (viewC s c).binds.length bn2, .int .i64 c.vars, .slice AA2 (viewC s c).call.length an2, .int .i64 (kx : Int)] 196))
    have HR4 := Lib.hid (Bx.alloc HR0.out (.cells #[.slice GA2 (viewC s c).goals.length gn2, .slice BA2 (viewC s c).binds.length bn2, .int .i64 c.vars, .slice AA2 (viewC s c).call.length an2, .int .i64 (kx : Int)] 196))
    have HC4 := Lib.hid (show Bx ((((w.alloc (.cells #[.slice P1 p.cl.length q1, .slice P2 p.pl.length q2] 58)).alloc (.cells #[.int .i64 s.st, .slice GA s.goals.length gn, .slice BA s.binds.length bn, .int .i64 s.vars, .slice (some cad) (m + 1) cn, .slice TA s.top.length tn, .slice OA s.out.length on] 139)).alloc (.cells #[.int .i64 0, .slice none 0 0, .slice none 0 0, .int .i64 0, .slice none 0 0, .slice none 0 0, .slice none 0 0] 139)).alloc (.cells #[.slice GA2 (viewC s c).goals.length gn2, .slice BA2 (viewC s c).binds.length bn2, .int .i64 c.vars, .slice AA2 (viewC s c).call.length an2, .int .i64 (kx : Int)] 196)) (w.heap.size + 1 + 1 + 1) 196 #[.slice GA2 (viewC s c).goals.length gn2, .slice BA2 (viewC s c).binds.length bn2, .int .i64 c.vars, .slice AA2 (viewC s c).call.length an2, .int .i64 (kx : Int)] from by have h := Bx.new (((w.alloc (.cells #[.slice P1 p.cl.length q1, .slice P2 p.pl.length q2] 58)).alloc (.cells #[.int .i64 s.st, .slice GA s.goals.length gn, .slice BA s.binds.length bn, .int .i64 s.vars, .slice (some cad) (m + 1) cn, .slice TA s.top.length tn, .slice OA s.out.length on] 139)).alloc (.cells #[.int .i64 0, .slice none 0 0, .slice none 0 0, .int .i64 0, .slice none 0 0, .slice none 0 0, .slice none 0 0] 139)) 196 #[.slice GA2 (viewC s c).goals.length gn2, .slice BA2 (viewC s c).binds.length bn2, .int .i64 c.vars, .slice AA2 (viewC s c).call.length an2, .int .i64 (kx : Int)]; simpa only [size_alloc] using h)
    generalize (((w.alloc (.cells #[.slice P1 p.cl.length q1, .slice P2 p.pl.length q2] 58)).alloc (.cells #[.int .i64 s.st, .slice GA s.goals.length gn, .slice BA s.binds.length bn, .int .i64 s.vars, .slice (some cad) (m + 1) cn, .slice TA s.top.length tn, .slice OA s.out.length on] 139)).alloc (.cells #[.int .i64 0, .slice none 0 0, .slice none 0 0, .int .i64 0, .slice none 0 0, .slice none 0 0, .slice none 0 0] 139)).alloc (.cells #[.slice GA2 (viewC s c).goals.length gn2, .slice BA2 (viewC s c).binds.length bn2, .int .i64 c.vars, .slice AA2 (viewC s c).call.length an2, .int .i64 (kx : Int)] 196) = w4 at *
    clear c0 c1 c2 c3 c4 HB0 HP0 HS0 HR0
    have HWr := Lib.hid (Wrote.of_below (e := 196) hB HB4.out)
    have HO4 := Lib.hid (Kd.O_ext HB4.out HSt.out.c)
    have p4_0 := Bx.at' HP4.out 0 (.slice P1 p.cl.length q1) rfl
    have p4_1 := Bx.at' HP4.out 1 (.slice P2 p.pl.length q2) rfl
    have s4_0 := Bx.at' HS4.out 0 (.int .i64 s.st) rfl
    have s4_1 := Bx.at' HS4.out 1 (.slice GA s.goals.length gn) rfl
    have s4_2 := Bx.at' HS4.out 2 (.slice BA s.binds.length bn) rfl
    have s4_3 := Bx.at' HS4.out 3 (.int .i64 s.vars) rfl
    have s4_4 := Bx.at' HS4.out 4 (.slice (some cad) (m + 1) cn) rfl
    have s4_5 := Bx.at' HS4.out 5 (.slice TA s.top.length tn) rfl
    have s4_6 := Bx.at' HS4.out 6 (.slice OA s.out.length on) rfl
    have c4_0 := Bx.at' HC4.out 0 (.slice GA2 (viewC s c).goals.length gn2) rfl
    have c4_1 := Bx.at' HC4.out 1 (.slice BA2 (viewC s c).binds.length bn2) rfl
    have c4_2 := Bx.at' HC4.out 2 (.int .i64 c.vars) rfl
    have c4_3 := Bx.at' HC4.out 3 (.slice AA2 (viewC s c).call.length an2) rfl
    have c4_4 := Bx.at' HC4.out 4 (.int .i64 (kx : Int)) rfl
    go_wp2_with (first | (refine wp_sub_own AppI.sch rfl rfl HO4.out rfl rfl (by omega) (by rw [HXl.out]; omega) ?_; intro v9 hv9 hb9; rw [HzT.out _ (by omega)] at hv9; obtain ⟨NA, nn, ec9, -, -, -⟩ := Kd.O_read hv9; rw [HLm.out] at ec9; subst ec9; have HO9 := Lib.hid hv9; clear hv9 hb9; have s5_1 := Bx.at' HS4.out 4 (.slice (some cad) (m + 1) cn) rfl; have f5_1 := Bx.free HS4.out 4; have K5_1 := Lib.hid (bx_but (j := 4) (u := .slice NA m nn) HS4.out); have S5_1 : Hid (Bx _ _ _ #[.int .i64 s.st, .slice GA s.goals.length gn, .slice BA s.binds.length bn, .int .i64 s.vars, .slice NA m nn, .slice TA s.top.length tn, .slice OA s.out.length on]) := Lib.hid (Bx.put HS4.out 4 (.slice NA m nn)); have P5_1 := Lib.hid (Bx.far HP4.out (g' := w.heap.size + 1) (by omega) 4 (.slice NA m nn)); have p5_1_0 := Bx.at' P5_1.out 0 (.slice P1 p.cl.length q1) rfl; have p5_1_1 := Bx.at' P5_1.out 1 (.slice P2 p.pl.length q2) rfl; have R5_1 := Lib.hid (Bx.far HR4.out (g' := w.heap.size + 1) (by omega) 4 (.slice NA m nn)); have C5_1 := Lib.hid (Bx.far HC4.out (g' := w.heap.size + 1) (by omega) 4 (.slice NA m nn)); have c5_1_0 := Bx.at' C5_1.out 0 (.slice GA2 (viewC s c).goals.length gn2) rfl; have c5_1_1 := Bx.at' C5_1.out 1 (.slice BA2 (viewC s c).binds.length bn2) rfl; have c5_1_2 := Bx.at' C5_1.out 2 (.int .i64 c.vars) rfl; have c5_1_3 := Bx.at' C5_1.out 3 (.slice AA2 (viewC s c).call.length an2) rfl; have c5_1_4 := Bx.at' C5_1.out 4 (.int .i64 (kx : Int)) rfl; have B5_1 := Lib.hid (wrote_own HWr.out (setc4 (g := w.heap.size + 1) (Below.refl _ _) (by omega) 4 (.slice NA m nn)) hB); have s5_2 := Bx.at' S5_1.out 2 (.slice BA s.binds.length bn) rfl; have f5_2 := Bx.free S5_1.out 2; have K5_2 := Lib.hid (KeepBut.trans K5_1.out (bx_but (j := 2) (u := .slice BA2 (viewC s c).binds.length bn2) S5_1.out)); have S5_2 : Hid (Bx _ _ _ #[.int .i64 s.st, .slice GA s.goals.length gn, .slice BA2 (viewC s c).binds.length bn2, .int .i64 s.vars, .slice NA m nn, .slice TA s.top.length tn, .slice OA s.out.length on]) := Lib.hid (Bx.put S5_1.out 2 (.slice BA2 (viewC s c).binds.length bn2)); have P5_2 := Lib.hid (Bx.far P5_1.out (g' := w.heap.size + 1) (by omega) 2 (.slice BA2 (viewC s c).binds.length bn2)); have p5_2_0 := Bx.at' P5_2.out 0 (.slice P1 p.cl.length q1) rfl; have p5_2_1 := Bx.at' P5_2.out 1 (.slice P2 p.pl.length q2) rfl; have R5_2 := Lib.hid (Bx.far R5_1.out (g' := w.heap.size + 1) (by omega) 2 (.slice BA2 (viewC s c).binds.length bn2)); have C5_2 := Lib.hid (Bx.far C5_1.out (g' := w.heap.size + 1) (by omega) 2 (.slice BA2 (viewC s c).binds.length bn2)); have c5_2_0 := Bx.at' C5_2.out 0 (.slice GA2 (viewC s c).goals.length gn2) rfl; have c5_2_1 := Bx.at' C5_2.out 1 (.slice BA2 (viewC s c).binds.length bn2) rfl; have c5_2_2 := Bx.at' C5_2.out 2 (.int .i64 c.vars) rfl; have c5_2_3 := Bx.at' C5_2.out 3 (.slice AA2 (viewC s c).call.length an2) rfl; have c5_2_4 := Bx.at' C5_2.out 4 (.int .i64 (kx : Int)) rfl; have B5_2 := Lib.hid (wrote_own B5_1.out (setc4 (g := w.heap.size + 1) (Below.refl _ _) (by omega) 2 (.slice BA2 (viewC s c).binds.length bn2)) hB); have s5_3 := Bx.at' S5_2.out 3 (.int .i64 s.vars) rfl; have f5_3 := Bx.free S5_2.out 3; have K5_3 := Lib.hid (KeepBut.trans K5_2.out (bx_but (j := 3) (u := .int .i64 c.vars) S5_2.out)); have S5_3 : Hid (Bx _ _ _ #[.int .i64 s.st, .slice GA s.goals.length gn, .slice BA2 (viewC s c).binds.length bn2, .int .i64 c.vars, .slice NA m nn, .slice TA s.top.length tn, .slice OA s.out.length on]) := Lib.hid (Bx.put S5_2.out 3 (.int .i64 c.vars)); have P5_3 := Lib.hid (Bx.far P5_2.out (g' := w.heap.size + 1) (by omega) 3 (.int .i64 c.vars)); have p5_3_0 := Bx.at' P5_3.out 0 (.slice P1 p.cl.length q1) rfl; have p5_3_1 := Bx.at' P5_3.out 1 (.slice P2 p.pl.length q2) rfl; have R5_3 := Lib.hid (Bx.far R5_2.out (g' := w.heap.size + 1) (by omega) 3 (.int .i64 c.vars)); have C5_3 := Lib.hid (Bx.far C5_2.out (g' := w.heap.size + 1) (by omega) 3 (.int .i64 c.vars)); have c5_3_0 := Bx.at' C5_3.out 0 (.slice GA2 (viewC s c).goals.length gn2) rfl; have c5_3_1 := Bx.at' C5_3.out 1 (.slice BA2 (viewC s c).binds.length bn2) rfl; have c5_3_2 := Bx.at' C5_3.out 2 (.int .i64 c.vars) rfl; have c5_3_3 := Bx.at' C5_3.out 3 (.slice AA2 (viewC s c).call.length an2) rfl; have c5_3_4 := Bx.at' C5_3.out 4 (.int .i64 (kx : Int)) rfl; have B5_3 := Lib.hid (wrote_own B5_2.out (setc4 (g := w.heap.size + 1) (Below.refl _ _) (by omega) 3 (.int .i64 c.vars)) hB); have l5_0 := Bx.at' S5_3.out 0 (.int .i64 s.st) rfl; have l5_1 := Bx.at' S5_3.out 1 (.slice GA s.goals.length gn) rfl; have l5_2 := Bx.at' S5_3.out 2 (.slice BA2 (viewC s c).binds.length bn2) rfl; have l5_3 := Bx.at' S5_3.out 3 (.int .i64 c.vars) rfl; have l5_4 := Bx.at' S5_3.out 4 (.slice NA m nn) rfl; have l5_5 := Bx.at' S5_3.out 5 (.slice TA s.top.length tn) rfl; have l5_6 := Bx.at' S5_3.out 6 (.slice OA s.out.length on) rfl; have HS9 := Lib.hid (StV.mk (s := { s with binds := s.binds.take c.mark.toNat, vars := c.vars, ch := cs }) (B := B) (K5_3.out.S (Kd.S_ext HB4.out HSt.out.g) (by decide)) (K5_3.out.S (Kd.S_ext HB4.out HB2'.out) (by decide)) (K5_3.out.O HO9.out (by decide)) (K5_3.out.S (Kd.S_ext HB4.out HSt.out.t) (by decide)) (K5_3.out.S (Kd.S_ext HB4.out HSt.out.o) (by decide)))) | (go_at_call 142; (with_reducible refine (HTr.out _ _ _ _ _ _ _ _ HS9.out B5_3.out HA2.out HG2.out).mono ?_); rintro e w6 ⟨rg, rb, rc, rt, ro, rfl, hst, hw⟩; have HW6 := Lib.hid hw; have HST6 := Lib.hid hst; obtain ⟨RG, rgn, rfl, -, -, -⟩ := hst.g; obtain ⟨RB, rbn, rfl, -, -, -⟩ := hst.b; obtain ⟨RC, rcn, erc, -, -, -⟩ := Kd.O_read hst.c; rw [List.length_map] at erc; obtain rfl := erc; obtain ⟨RT, rtn, rfl, -, -, -⟩ := hst.t; obtain ⟨RO, ron, rfl, -, -, -⟩ := hst.o; have HR6 := Lib.hid (Bx.but R5_3.out hw.but (by decide)); obtain ⟨m0, m1, m2, m3, m4, m5, m6, m7, m8, m9, m10, m11, m12, m13, HE⟩ := put_7 HR6.out (.int .i64 r.st) (.slice RG r.goals.length rgn) (.slice RB r.binds.length rbn) (.int .i64 r.vars) (.slice RC r.ch.length rcn) (.slice RT r.top.length rtn) (.slice RO r.out.length ron); clear hw hst) | fail)
    refine bodyPost_ret (results_cell_row rfl _ _ (w.heap.size + 1 + 1) 139 _ (0, 0) _ rfl HE.out.1 Tryz.underlying139 rfl (by kernel_rfl)) rfl ?_
    exact ⟨_, _, _, _, _, rfl, HST6.out.but HE.out.2.1, wrote_own (B5_3.out.trans HW6.out) (HE.out.2.2 w.heap.size _ (by omega) (Below.refl _ _)) hB⟩
#print axioms back4_c
end Go.Proofs.YtjglbadkbhopoaaGreatDoor
namespace Go.Proofs.YtjglbadkbhopoaaGreatDoor
open Go.RowKit
set_option maxRecDepth 100000
set_option maxHeartbeats 8000000
set_option linter.unusedVariables false
theorem canonS4 (t : Trm) (tv : Value) (W : World) (h : T0 W tv t) (hl : t.length ≤ 1000000000) :
    Calls Tryz.prog 23 #[tv] W fun e w' => ∃ v, e = .returned v ∧ T0 w' v (canon t) ∧ Below W.heap.size W w' := by
  obtain ⟨A, c, rfl, -, -, hC⟩ := h
  exact canon_c t A c W hC hl
def IsSl4 (v : Value) : Prop := ∃ A n c, v = .slice A n c
theorem full4_c {s : Binds} (hs : SubOk' s) {t : Trm} (ht : trmOk t = true) (sv tv : Value) (W : World) (h1 : B0 W sv s) (h2 : T0 W tv t) {q : Bool} (hq : decide ((flat s t).length ≤ 40) = q) :
    Calls Tryz.prog 124 #[sv, tv] W fun e w' => ∃ v, e = .returned (.tuple #[v, .bool q]) ∧ IsSl4 v ∧ (q = true → T0 w' v (flat s t)) ∧ Below W.heap.size W w' := by
  have hB := sub_binv hs
  have hl := sub_len4 hs
  obtain ⟨k, f⟩ := flat_fl hB.bok t
  refine (fullS_c s t _ k sv tv W f h1 h2 (by omega) (trmOk_iff.1 ht).2.1 (bound_len hB)).mono ?_
  rintro e w2 ⟨v, rfl, ho, hb2⟩
  refine ⟨v, by rw [hq], ?_, fun h => ?_, hb2⟩
  · obtain ⟨A, c, rfl, -, -, -⟩ := Kd.O_read ho
    exact ⟨_, _, _, rfl⟩
  · have h40 := of_decide_eq_true (hq.trans h)
    rw [if_pos h40] at ho
    exact Kd.O_read ho
theorem call4_c {q : Bool} {n : Nat} {p : Prog} (s r : TSt) (t : Trm) (rest : List SGoal) (p1 p2 gv bv cv tv ov av hv : Value) (B L : Nat) (w : World) (hr : tCall n p (-1) s t rest = some r) (hT : Tinv q p (-1) s) (hp : PrR w p p1 p2) (hs : StV B w s gv bv cv tv ov) (hB : B ≤ w.heap.size) (hL : ChB L s) (hL9 : L ≤ 900000000) (hL1 : s.ch.length + 1 ≤ L) (hLr : rest.length ≤ L)
    (ht : termV s.vars t = true) (hcc : calls t = true) (hgs : goalsOk q s.vars s.ch.length rest) (h1 : T0 w av t) (h2 : G0 w hv rest) :
    Calls Tryz.prog 121 #[.agg #[p1, p2], .agg #[.int .i64 s.st, gv, bv, .int .i64 s.vars, cv, tv, ov], av, hv] w (Post4 B w r) := by
  have HT := Lib.hid hT
  have HPr := Lib.hid hp
  have HSt := Lib.hid hs
  have HLL := Lib.hid hL
  have hsl := sub_len4 hT.sub
  have htl := isQ_len4 hT.top
  have hvv := hT.v
  have H1 := Lib.hid h1
  have H2 := Lib.hid h2
  obtain ⟨F, hF⟩ : ∃ F, flat s.binds t = F := ⟨_, rfl⟩
  obtain ⟨qf, hqf⟩ : ∃ qf, decide ((flat s.binds t).length ≤ 40) = qf := ⟨_, rfl⟩
  have HFl := fun W (hb' : Below w.heap.size w W) => full4_c hT.sub (termV_iff.1 ht).1 bv av W (Kd.S_ext hb' hs.b) (Kd.S_ext hb' h1) hqf
  have hFt := fun h40 => flat_term hT.sub hT.bb ht h40
  have hFc := flat_calls hT.sub hcc
  unfold tCall at hr
  rw [hF] at HFl hFt hFc hr hqf
  have HTr := fun W fv (h40 : F.length ≤ 40) (hrt : tTryB (tBack n p) p s F rest 0 = some r) (hb' : Below w.heap.size w W) (hf : T0 W fv F) => try4_c (back4_c p n) s r F rest 0 p1 p2 gv bv cv tv ov fv hv B L W hrt hT (hp.ext hb') (hs.ext hb') (Nat.le_trans hB hb'.size) hL hL1 hLr hL9 (hFt h40) hFc hgs (Nat.zero_le _) hf (Kd.S_ext hb' h2)
  have HEn := Lib.hid (fun W (hb' : Below w.heap.size w W) => ends4_c s 4 gv bv cv tv ov W (hs.ext hb') (by omega))
  obtain ⟨P1, q1, rfl, -, -, -⟩ := hp.c
  obtain ⟨P2, q2, rfl, -, -, -⟩ := hp.p
  obtain ⟨GA, gn, rfl, -, -, -⟩ := hs.g
  obtain ⟨BA, bn, rfl, -, -, -⟩ := hs.b
  obtain ⟨CA, cn, ec, -, -, -⟩ := Kd.O_read hs.c
  rw [List.length_map] at ec
  obtain rfl := ec
  obtain ⟨TA, tn, rfl, -, -, -⟩ := hs.t
  obtain ⟨OA, on, rfl, -, -, -⟩ := hs.o
  obtain ⟨XA, xn, rfl, -, -, -⟩ := h1
  obtain ⟨HA, hn, rfl, -, -, -⟩ := h2
  have HB0 := Lib.hid (show Below w.heap.size w (((w.alloc (.cells #[.slice P1 p.cl.length q1, .slice P2 p.pl.length q2] 58)).alloc (.cells #[.int .i64 s.st, .slice GA s.goals.length gn, .slice BA s.binds.length bn, .int .i64 s.vars, .slice CA s.ch.length cn, .slice TA s.top.length tn, .slice OA s.out.length on] 139)).alloc (.cells #[.int .i64 0, .slice none 0 0, .slice none 0 0, .int .i64 0, .slice none 0 0, .slice none 0 0, .slice none 0 0] 139)) from bel_alloc (bel_alloc (bel_alloc (Below.refl _ _) _) _) _)
  have HP0 := Lib.hid (show Bx (((w.alloc (.cells #[.slice P1 p.cl.length q1, .slice P2 p.pl.length q2] 58)).alloc (.cells #[.int .i64 s.st, .slice GA s.goals.length gn, .slice BA s.binds.length bn, .int .i64 s.vars, .slice CA s.ch.length cn, .slice TA s.top.length tn, .slice OA s.out.length on] 139)).alloc (.cells #[.int .i64 0, .slice none 0 0, .slice none 0 0, .int .i64 0, .slice none 0 0, .slice none 0 0, .slice none 0 0] 139)) (w.heap.size) 58 #[.slice P1 p.cl.length q1, .slice P2 p.pl.length q2] from by have h := Bx.alloc (Bx.alloc (Bx.new w 58 #[.slice P1 p.cl.length q1, .slice P2 p.pl.length q2]) (.cells #[.int .i64 s.st, .slice GA s.goals.length gn, .slice BA s.binds.length bn, .int .i64 s.vars, .slice CA s.ch.length cn, .slice TA s.top.length tn, .slice OA s.out.length on] 139)) (.cells #[.int .i64 0, .slice none 0 0, .slice none 0 0, .int .i64 0, .slice none 0 0, .slice none 0 0, .slice none 0 0] 139); simpa only [size_alloc] using h)
  have HS0 := Lib.hid (show Bx (((w.alloc (.cells #[.slice P1 p.cl.length q1, .slice P2 p.pl.length q2] 58)).alloc (.cells #[.int .i64 s.st, .slice GA s.goals.length gn, .slice BA s.binds.length bn, .int .i64 s.vars, .slice CA s.ch.length cn, .slice TA s.top.length tn, .slice OA s.out.length on] 139)).alloc (.cells #[.int .i64 0, .slice none 0 0, .slice none 0 0, .int .i64 0, .slice none 0 0, .slice none 0 0, .slice none 0 0] 139)) (w.heap.size + 1) 139 #[.int .i64 s.st, .slice GA s.goals.length gn, .slice BA s.binds.length bn, .int .i64 s.vars, .slice CA s.ch.length cn, .slice TA s.top.length tn, .slice OA s.out.length on] from by have h := Bx.alloc (Bx.new (w.alloc (.cells #[.slice P1 p.cl.length q1, .slice P2 p.pl.length q2] 58)) 139 #[.int .i64 s.st, .slice GA s.goals.length gn, .slice BA s.binds.length bn, .int .i64 s.vars, .slice CA s.ch.length cn, .slice TA s.top.length tn, .slice OA s.out.length on]) (.cells #[.int .i64 0, .slice none 0 0, .slice none 0 0, .int .i64 0, .slice none 0 0, .slice none 0 0, .slice none 0 0] 139); simpa only [size_alloc] using h)
  have HR0 := Lib.hid (show Bx (((w.alloc (.cells #[.slice P1 p.cl.length q1, .slice P2 p.pl.length q2] 58)).alloc (.cells #[.int .i64 s.st, .slice GA s.goals.length gn, .slice BA s.binds.length bn, .int .i64 s.vars, .slice CA s.ch.length cn, .slice TA s.top.length tn, .slice OA s.out.length on] 139)).alloc (.cells #[.int .i64 0, .slice none 0 0, .slice none 0 0, .int .i64 0, .slice none 0 0, .slice none 0 0, .slice none 0 0] 139)) (w.heap.size + 1 + 1) 139 #[.int .i64 0, .slice none 0 0, .slice none 0 0, .int .i64 0, .slice none 0 0, .slice none 0 0, .slice none 0 0] from by have h := Bx.new ((w.alloc (.cells #[.slice P1 p.cl.length q1, .slice P2 p.pl.length q2] 58)).alloc (.cells #[.int .i64 s.st, .slice GA s.goals.length gn, .slice BA s.binds.length bn, .int .i64 s.vars, .slice CA s.ch.length cn, .slice TA s.top.length tn, .slice OA s.out.length on] 139)) 139 #[.int .i64 0, .slice none 0 0, .slice none 0 0, .int .i64 0, .slice none 0 0, .slice none 0 0, .slice none 0 0]; simpa only [size_alloc] using h)
  by_cases h40 : F.length ≤ 40
  · rw [if_pos h40, if_neg (by omega)] at hr
    have HTr := Lib.hid (fun W fv hb' hf => show Calls _ _ #[_, _, _, _, .int .i64 0] _ _ from HTr W fv h40 hr hb' hf)
    obtain rfl : true = qf := by rw [← hqf]; exact (decide_eq_true h40).symm
    have HFl := Lib.hid HFl
    clear hr hT hp hs hL ht hcc hgs hFt hFc hqf hF
    go_enter Tryz.func121, Tryz.ntmps121
    go_wp2_with (first | (go_at_call 124; (with_reducible refine (HFl.out _ HB0.out).mono ?_); rintro e w1 ⟨v1, rfl, hsl1, hf, hb'⟩; obtain ⟨FA, fl, fn, rfl⟩ := hsl1; have HF1 := Lib.hid (hf rfl); have HB1 := Lib.hid (bel_trans HB0.out hb'); have HP1 := Lib.hid (Bx.below HP0.out hb'); have p1_0 := Bx.at' HP1.out 0 (.slice P1 p.cl.length q1) rfl; have p1_1 := Bx.at' HP1.out 1 (.slice P2 p.pl.length q2) rfl; have HS1 := Lib.hid (Bx.below HS0.out hb'); have s1_0 := Bx.at' HS1.out 0 (.int .i64 s.st) rfl; have s1_1 := Bx.at' HS1.out 1 (.slice GA s.goals.length gn) rfl; have s1_2 := Bx.at' HS1.out 2 (.slice BA s.binds.length bn) rfl; have s1_3 := Bx.at' HS1.out 3 (.int .i64 s.vars) rfl; have s1_4 := Bx.at' HS1.out 4 (.slice CA s.ch.length cn) rfl; have s1_5 := Bx.at' HS1.out 5 (.slice TA s.top.length tn) rfl; have s1_6 := Bx.at' HS1.out 6 (.slice OA s.out.length on) rfl; have HR1 := Lib.hid (Bx.below HR0.out hb'); clear hf hb') | (go_at_call 142; (with_reducible refine (HTr.out _ _ HB1.out HF1.out).mono ?_); rintro e w3 ⟨rg, rb, rc, rt, ro, rfl, hst, hw⟩; have HW3 := Lib.hid hw; have HST3 := Lib.hid hst; obtain ⟨RG, rgn, rfl, -, -, -⟩ := hst.g; obtain ⟨RB, rbn, rfl, -, -, -⟩ := hst.b; obtain ⟨RC, rcn, erc, -, -, -⟩ := Kd.O_read hst.c; rw [List.length_map] at erc; obtain rfl := erc; obtain ⟨RT, rtn, rfl, -, -, -⟩ := hst.t; obtain ⟨RO, ron, rfl, -, -, -⟩ := hst.o; have HR3 := Lib.hid (Bx.but HR1.out hw.but (by decide)); obtain ⟨m0, m1, m2, m3, m4, m5, m6, m7, m8, m9, m10, m11, m12, m13, HE⟩ := put_7 HR3.out (.int .i64 r.st) (.slice RG r.goals.length rgn) (.slice RB r.binds.length rbn) (.int .i64 r.vars) (.slice RC r.ch.length rcn) (.slice RT r.top.length rtn) (.slice RO r.out.length ron); clear hw hst) | fail)
    refine bodyPost_ret (results_cell_row rfl _ _ (w.heap.size + 1 + 1) 139 _ (0, 0) _ rfl HE.out.1 Tryz.underlying139 rfl (by kernel_rfl)) rfl ?_
    exact ⟨_, _, _, _, _, rfl, HST3.out.but HE.out.2.1, wrote_own ((Wrote.of_below hB HB1.out).trans HW3.out) (HE.out.2.2 w.heap.size _ (by omega) (Below.refl _ _)) hB⟩
  · rw [if_neg h40] at hr
    obtain rfl := Option.some.inj hr
    obtain rfl : false = qf := by rw [← hqf]; exact (decide_eq_false h40).symm
    have HFl := Lib.hid HFl
    clear HTr hT hp hs hL ht hcc hgs hFt hFc hqf hF
    go_enter Tryz.func121, Tryz.ntmps121
    go_wp2_with (first | (go_at_call 124; (with_reducible refine (HFl.out _ HB0.out).mono ?_); rintro e w1 ⟨v1, rfl, hsl1, hf, hb'⟩; obtain ⟨FA, fl, fn, rfl⟩ := hsl1; have HB1 := Lib.hid (bel_trans HB0.out hb'); have HP1 := Lib.hid (Bx.below HP0.out hb'); have p1_0 := Bx.at' HP1.out 0 (.slice P1 p.cl.length q1) rfl; have p1_1 := Bx.at' HP1.out 1 (.slice P2 p.pl.length q2) rfl; have HS1 := Lib.hid (Bx.below HS0.out hb'); have s1_0 := Bx.at' HS1.out 0 (.int .i64 s.st) rfl; have s1_1 := Bx.at' HS1.out 1 (.slice GA s.goals.length gn) rfl; have s1_2 := Bx.at' HS1.out 2 (.slice BA s.binds.length bn) rfl; have s1_3 := Bx.at' HS1.out 3 (.int .i64 s.vars) rfl; have s1_4 := Bx.at' HS1.out 4 (.slice CA s.ch.length cn) rfl; have s1_5 := Bx.at' HS1.out 5 (.slice TA s.top.length tn) rfl; have s1_6 := Bx.at' HS1.out 6 (.slice OA s.out.length on) rfl; have HR1 := Lib.hid (Bx.below HR0.out hb'); clear hf hb') | (go_at_call 125; (with_reducible refine (HEn.out _ HB1.out).mono ?_); rintro e w3 ⟨t', rfl, ht', hb'⟩; have HT3 := Lib.hid ht'; obtain ⟨VT, vt, rfl, -, -, -⟩ := ht'; have HB3 := Lib.hid (bel_trans HB1.out hb'); have HR3 := Lib.hid (Bx.below HR1.out hb'); obtain ⟨m0, m1, m2, m3, m4, m5, m6, m7, m8, m9, m10, m11, m12, m13, HE⟩ := put_7 HR3.out (.int .i64 4) (.slice none 0 0) (.slice none 0 0) (.int .i64 0) (.slice none 0 0) (.slice VT s.top.length vt) (.slice none 0 0); clear hb') | fail)
    refine bodyPost_ret (results_cell_row rfl _ _ (w.heap.size + 1 + 1) 139 _ (0, 0) _ rfl HE.out.1 Tryz.underlying139 rfl (by kernel_rfl)) rfl ?_
    exact ⟨_, _, _, _, _, rfl, (StV.mk (s := tEnd s 4) (Kd.S_nil _ _ _) (Kd.S_nil _ _ _) (Kd.O_nil _ _ _ _) HT3.out (Kd.S_nil _ _ _)).but HE.out.2.1, wrote_own (Wrote.of_below hB HB3.out) (HE.out.2.2 w.heap.size _ (by omega) (Below.refl _ _)) hB⟩
theorem empty4_c {q : Bool} {p : Prog} (s : TSt) (gv bv cv tv ov : Value) (B : Nat) (w : World) (hT : Tinv q p (-1) s) (hs : StV B w s gv bv cv tv ov) (hB : B ≤ w.heap.size) :
    Calls Tryz.prog 120 #[.agg #[.int .i64 s.st, gv, bv, .int .i64 s.vars, cv, tv, ov]] w (Post4 B w (tEmpty s)) := by
  have HT := Lib.hid hT
  have HSt := Lib.hid hs
  have htl := isQ_len4 hT.top
  obtain ⟨F, hF⟩ : ∃ F, flat s.binds s.top = F := ⟨_, rfl⟩
  obtain ⟨qf, hqf⟩ : ∃ qf, decide ((flat s.binds s.top).length ≤ 40) = qf := ⟨_, rfl⟩
  have HFl := fun W (hb' : Below w.heap.size w W) => full4_c hT.sub (isQ_ok hT.top).1 bv tv W (Kd.S_ext hb' hs.b) (Kd.S_ext hb' hs.t) hqf
  unfold tEmpty
  rw [hF] at HFl hqf ⊢
  have HEn := Lib.hid (fun W (hb' : Below w.heap.size w W) => ends4_c s 4 gv bv cv tv ov W (hs.ext hb') (by omega))
  obtain ⟨GA, gn, rfl, -, -, -⟩ := hs.g
  obtain ⟨BA, bn, rfl, -, -, -⟩ := hs.b
  obtain ⟨CA, cn, ec, -, -, -⟩ := Kd.O_read hs.c
  rw [List.length_map] at ec
  obtain rfl := ec
  obtain ⟨TA, tn, rfl, -, -, -⟩ := hs.t
  obtain ⟨OA, on, rfl, -, -, -⟩ := hs.o
  have HB0 := Lib.hid (show Below w.heap.size w ((w.alloc (.cells #[.int .i64 s.st, .slice GA s.goals.length gn, .slice BA s.binds.length bn, .int .i64 s.vars, .slice CA s.ch.length cn, .slice TA s.top.length tn, .slice OA s.out.length on] 139)).alloc (.cells #[.int .i64 0, .slice none 0 0, .slice none 0 0, .int .i64 0, .slice none 0 0, .slice none 0 0, .slice none 0 0] 139)) from bel_alloc (bel_alloc (Below.refl _ _) _) _)
  have HS0 := Lib.hid (show Bx ((w.alloc (.cells #[.int .i64 s.st, .slice GA s.goals.length gn, .slice BA s.binds.length bn, .int .i64 s.vars, .slice CA s.ch.length cn, .slice TA s.top.length tn, .slice OA s.out.length on] 139)).alloc (.cells #[.int .i64 0, .slice none 0 0, .slice none 0 0, .int .i64 0, .slice none 0 0, .slice none 0 0, .slice none 0 0] 139)) (w.heap.size) 139 #[.int .i64 s.st, .slice GA s.goals.length gn, .slice BA s.binds.length bn, .int .i64 s.vars, .slice CA s.ch.length cn, .slice TA s.top.length tn, .slice OA s.out.length on] from by have h := Bx.alloc (Bx.new w 139 #[.int .i64 s.st, .slice GA s.goals.length gn, .slice BA s.binds.length bn, .int .i64 s.vars, .slice CA s.ch.length cn, .slice TA s.top.length tn, .slice OA s.out.length on]) (.cells #[.int .i64 0, .slice none 0 0, .slice none 0 0, .int .i64 0, .slice none 0 0, .slice none 0 0, .slice none 0 0] 139); simpa only [size_alloc] using h)
  have HR0 := Lib.hid (show Bx ((w.alloc (.cells #[.int .i64 s.st, .slice GA s.goals.length gn, .slice BA s.binds.length bn, .int .i64 s.vars, .slice CA s.ch.length cn, .slice TA s.top.length tn, .slice OA s.out.length on] 139)).alloc (.cells #[.int .i64 0, .slice none 0 0, .slice none 0 0, .int .i64 0, .slice none 0 0, .slice none 0 0, .slice none 0 0] 139)) (w.heap.size + 1) 139 #[.int .i64 0, .slice none 0 0, .slice none 0 0, .int .i64 0, .slice none 0 0, .slice none 0 0, .slice none 0 0] from by have h := Bx.new (w.alloc (.cells #[.int .i64 s.st, .slice GA s.goals.length gn, .slice BA s.binds.length bn, .int .i64 s.vars, .slice CA s.ch.length cn, .slice TA s.top.length tn, .slice OA s.out.length on] 139)) 139 #[.int .i64 0, .slice none 0 0, .slice none 0 0, .int .i64 0, .slice none 0 0, .slice none 0 0, .slice none 0 0]; simpa only [size_alloc] using h)
  by_cases h40 : F.length ≤ 40
  · rw [if_pos h40]
    obtain rfl : true = qf := by rw [← hqf]; exact (decide_eq_true h40).symm
    have HFl := Lib.hid HFl
    have HCn := Lib.hid (fun W {fv : Value} (hf : T0 W fv F) => canonS4 F fv W hf (by omega))
    clear hT hs hqf hF
    go_enter Tryz.func120, Tryz.ntmps120
    go_wp2_with (first | (go_at_call 124; (with_reducible refine (HFl.out _ HB0.out).mono ?_); rintro e w1 ⟨v1, rfl, hsl1, hf, hb'⟩; obtain ⟨FA, fl, fn, rfl⟩ := hsl1; have HF1 := Lib.hid (hf rfl); have HB1 := Lib.hid (bel_trans HB0.out hb'); have HS1 := Lib.hid (Bx.below HS0.out hb'); have s1_0 := Bx.at' HS1.out 0 (.int .i64 s.st) rfl; have s1_1 := Bx.at' HS1.out 1 (.slice GA s.goals.length gn) rfl; have s1_2 := Bx.at' HS1.out 2 (.slice BA s.binds.length bn) rfl; have s1_3 := Bx.at' HS1.out 3 (.int .i64 s.vars) rfl; have s1_4 := Bx.at' HS1.out 4 (.slice CA s.ch.length cn) rfl; have s1_5 := Bx.at' HS1.out 5 (.slice TA s.top.length tn) rfl; have s1_6 := Bx.at' HS1.out 6 (.slice OA s.out.length on) rfl; have HR1 := Lib.hid (Bx.below HR0.out hb'); clear hf hb'; have HWr1 := Lib.hid (Wrote.of_below (e := 196) hB HB1.out); have s1_1 := Bx.at' HS1.out 0 (.int .i64 s.st) rfl; have f1_1 := Bx.free HS1.out 0; have K1_1 := Lib.hid (bx_but (j := 0) (u := .int .i64 2) HS1.out); have S1_1 : Hid (Bx _ _ _ #[.int .i64 2, .slice GA s.goals.length gn, .slice BA s.binds.length bn, .int .i64 s.vars, .slice CA s.ch.length cn, .slice TA s.top.length tn, .slice OA s.out.length on]) := Lib.hid (Bx.put HS1.out 0 (.int .i64 2)); have R1_1 := Lib.hid (Bx.far HR1.out (g' := w.heap.size) (by omega) 0 (.int .i64 2)); have B1_1 := Lib.hid (wrote_own HWr1.out (setc4 (g := w.heap.size) (Below.refl _ _) (by omega) 0 (.int .i64 2)) hB); have HF2 := Lib.hid (K1_1.out.S HF1.out (by decide))) | (go_at_call 23; (with_reducible refine (HCn.out _ HF2.out).mono ?_); rintro e w2 ⟨v2, rfl, hn2, hb2⟩; have HN2 := Lib.hid hn2; obtain ⟨NA, nn, rfl, -, -, -⟩ := hn2; have HWr2 := Lib.hid (B1_1.out.trans (Wrote.of_below (Nat.le_trans hB B1_1.out.bel.size) hb2)); have HS2 := Lib.hid (Bx.below S1_1.out hb2); have HR2 := Lib.hid (Bx.below R1_1.out hb2); have HK2 := Lib.hid (K1_1.out.trans (KeepBut.of_below hb2)); have s2_1 := Bx.at' HS2.out 6 (.slice OA s.out.length on) rfl; have f2_1 := Bx.free HS2.out 6; have K2_1 := Lib.hid (bx_but (j := 6) (u := .slice NA (canon F).length nn) HS2.out); have S2_1 : Hid (Bx _ _ _ #[.int .i64 2, .slice GA s.goals.length gn, .slice BA s.binds.length bn, .int .i64 s.vars, .slice CA s.ch.length cn, .slice TA s.top.length tn, .slice NA (canon F).length nn]) := Lib.hid (Bx.put HS2.out 6 (.slice NA (canon F).length nn)); have R2_1 := Lib.hid (Bx.far HR2.out (g' := w.heap.size) (by omega) 6 (.slice NA (canon F).length nn)); have B2_1 := Lib.hid (wrote_own HWr2.out (setc4 (g := w.heap.size) (Below.refl _ _) (by omega) 6 (.slice NA (canon F).length nn)) hB); have l2_0 := Bx.at' S2_1.out 0 (.int .i64 2) rfl; have l2_1 := Bx.at' S2_1.out 1 (.slice GA s.goals.length gn) rfl; have l2_2 := Bx.at' S2_1.out 2 (.slice BA s.binds.length bn) rfl; have l2_3 := Bx.at' S2_1.out 3 (.int .i64 s.vars) rfl; have l2_4 := Bx.at' S2_1.out 4 (.slice CA s.ch.length cn) rfl; have l2_5 := Bx.at' S2_1.out 5 (.slice TA s.top.length tn) rfl; have l2_6 := Bx.at' S2_1.out 6 (.slice NA (canon F).length nn) rfl; obtain ⟨m0, m1, m2, m3, m4, m5, m6, m7, m8, m9, m10, m11, m12, m13, HE⟩ := put_7 R2_1.out (.int .i64 2) (.slice GA s.goals.length gn) (.slice BA s.binds.length bn) (.int .i64 s.vars) (.slice CA s.ch.length cn) (.slice TA s.top.length tn) (.slice NA (canon F).length nn); have HKf := Lib.hid (HK2.out.trans K2_1.out); have HV := Lib.hid ((HSt.out.ext HB1.out).but HKf.out); have HSTf := Lib.hid (StV.mk (s := { s with st := 2, out := canon F }) (B := B) HV.out.g HV.out.b HV.out.c HV.out.t (K2_1.out.S HN2.out (by decide))); clear hb2) | fail)
    refine bodyPost_ret (results_cell_row rfl _ _ (w.heap.size + 1) 139 _ (0, 0) _ rfl HE.out.1 Tryz.underlying139 rfl (by kernel_rfl)) rfl ?_
    exact ⟨_, _, _, _, _, rfl, HSTf.out.but HE.out.2.1, wrote_own (B2_1.out) (HE.out.2.2 w.heap.size _ (by omega) (Below.refl _ _)) hB⟩
  · rw [if_neg h40]
    obtain rfl : false = qf := by rw [← hqf]; exact (decide_eq_false h40).symm
    have HFl := Lib.hid HFl
    clear hT hs hqf hF
    go_enter Tryz.func120, Tryz.ntmps120
    go_wp2_with (first | (go_at_call 124; (with_reducible refine (HFl.out _ HB0.out).mono ?_); rintro e w1 ⟨v1, rfl, hsl1, hf, hb'⟩; obtain ⟨FA, fl, fn, rfl⟩ := hsl1; have HB1 := Lib.hid (bel_trans HB0.out hb'); have HS1 := Lib.hid (Bx.below HS0.out hb'); have s1_0 := Bx.at' HS1.out 0 (.int .i64 s.st) rfl; have s1_1 := Bx.at' HS1.out 1 (.slice GA s.goals.length gn) rfl; have s1_2 := Bx.at' HS1.out 2 (.slice BA s.binds.length bn) rfl; have s1_3 := Bx.at' HS1.out 3 (.int .i64 s.vars) rfl; have s1_4 := Bx.at' HS1.out 4 (.slice CA s.ch.length cn) rfl; have s1_5 := Bx.at' HS1.out 5 (.slice TA s.top.length tn) rfl; have s1_6 := Bx.at' HS1.out 6 (.slice OA s.out.length on) rfl; have HR1 := Lib.hid (Bx.below HR0.out hb'); clear hf hb') | (go_at_call 125; (with_reducible refine (HEn.out _ HB1.out).mono ?_); rintro e w3 ⟨t', rfl, ht', hb'⟩; have HT3 := Lib.hid ht'; obtain ⟨VT, vt, rfl, -, -, -⟩ := ht'; have HB3 := Lib.hid (bel_trans HB1.out hb'); have HR3 := Lib.hid (Bx.below HR1.out hb'); obtain ⟨m0, m1, m2, m3, m4, m5, m6, m7, m8, m9, m10, m11, m12, m13, HE⟩ := put_7 HR3.out (.int .i64 4) (.slice none 0 0) (.slice none 0 0) (.int .i64 0) (.slice none 0 0) (.slice VT s.top.length vt) (.slice none 0 0); clear hb') | fail)
    refine bodyPost_ret (results_cell_row rfl _ _ (w.heap.size + 1) 139 _ (0, 0) _ rfl HE.out.1 Tryz.underlying139 rfl (by kernel_rfl)) rfl ?_
    exact ⟨_, _, _, _, _, rfl, (StV.mk (s := tEnd s 4) (Kd.S_nil _ _ _) (Kd.S_nil _ _ _) (Kd.O_nil _ _ _ _) HT3.out (Kd.S_nil _ _ _)).but HE.out.2.1, wrote_own (Wrote.of_below hB HB3.out) (HE.out.2.2 w.heap.size _ (by omega) (Below.refl _ _)) hB⟩
#print axioms empty4_c
end Go.Proofs.YtjglbadkbhopoaaGreatDoor
