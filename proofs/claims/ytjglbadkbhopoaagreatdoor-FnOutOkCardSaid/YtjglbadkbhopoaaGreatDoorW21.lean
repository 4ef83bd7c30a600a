/- Lemmas and contracts for FnOutOk, part 21. -/
import Derived.Test.YtjglbadkbhopoaaGreatDoorW20
import Derived.Test.YtjglbadkbhopoaaGreatDoorW09
import Derived.Test.YtjglbadkbhopoaaGreatDoorW08
namespace Go.Proofs.YtjglbadkbhopoaaGreatDoor
open Go.RowKit
set_option maxRecDepth 100000
set_option maxHeartbeats 8000000
set_option linter.unusedVariables false
theorem num4_c {s : Binds} (hs : SubOk' s) {t : Trm} (ht : trmOk t = true) (sv tv : Value) (W : World) (h1 : B0 W sv s) (h2 : T0 W tv t) :
    Calls Tryz.prog 145 #[sv, tv] W fun e w' => e = .returned (.tuple #[.int .i64 (numV s t), .bool (isNum s t)]) ∧ Below W.heap.size W w' := by
  have hB := sub_binv hs
  have hl := sub_len4 hs
  obtain ⟨n, x, hw⟩ := walk_total hB.bok (trmOk_iff.1 ht).1
  have hx := walk_ok hB hw ht
  have hne : x ≠ [] := fun e => by rw [e] at hx; simp [trmOk] at hx
  have h := numS_c n s t x sv tv W h1 (by omega) h2 hw (fun v t hg e => by have := hB.trm v t hg; rw [e] at this; simp [trmOk] at this) hne
  unfold numV isNum
  rw [walkT_eq hw]
  exact h
theorem num_bnd {s : Binds} (hs : SubOk' s) {t : Trm} (ht : trmOk t = true) (h : isNum s t = true) : -9999 ≤ numV s t ∧ numV s t ≤ 9999 := by
  have hB := sub_binv hs
  obtain ⟨n, x, hw⟩ := walk_total hB.bok (trmOk_iff.1 ht).1
  have hx := walk_ok hB hw ht
  unfold isNum at h
  unfold numV
  rw [walkT_eq hw] at h ⊢
  have hk := of_decide_eq_true h
  cases x with
  | nil => simp [trmOk] at hx
  | cons c r =>
    have hc := List.all_eq_true.1 (trmOk_iff.1 hx).2.2 c (by simp)
    have hk : c.k = 2 := hk
    show -9999 ≤ c.n ∧ c.n ≤ 9999
    unfold cellOk at hc
    rw [if_neg (by omega), if_pos hk] at hc
    simp only [Bool.and_eq_true, decide_eq_true_eq] at hc
    exact hc.1
theorem num_lit (w : World) (n : Int) : T0 (w.alloc (.cells #[.int .i64 2, .int .i64 n, .string ⟨#[]⟩] 47)) (.slice (some ⟨w.heap.size, 0, none⟩) 1 1) [⟨2, n, ByteArray.empty⟩] :=
  Kd.S_lit Kd.cell 47 (w := w) (x := ⟨2, n, ByteArray.empty⟩) (cs := [.int .i64 2, .int .i64 n, .string ⟨#[]⟩]) (by show _ = _; rfl) rfl
theorem reckon4_c {q : Bool} {n : Nat} {p : Prog} (s r : TSt) (g : Goal) (rest : List SGoal) (p1 p2 gv bv cv tv ov av xv yv hv : Value) (B L : Nat) (w : World) (hr : tReckon n p s g rest = some r) (hst1 : s.st = 1) (hou : s.out = []) (hT : Tinv q p (-1) s) (hp : PrR w p p1 p2) (hs : StV B w s gv bv cv tv ov) (hB : B ≤ w.heap.size) (hL : ChB L s) (hL9 : L ≤ 900000000)
    (ha : termV s.vars g.a = true) (hb : termV s.vars g.b = true) (hc5 : g.k = 5 → termV s.vars g.c = true) (h1 : T0 w av g.a) (h2 : T0 w xv g.b) (h3 : T0 w yv g.c) (h4 : G0 w hv rest) :
    Calls Tryz.prog 123 #[.agg #[p1, p2], .agg #[.int .i64 s.st, gv, bv, .int .i64 s.vars, cv, tv, ov], .agg #[.int .i64 g.k, av, xv, yv], hv] w (Post4 B w r) := by
  have HT := Lib.hid hT
  have HPr := Lib.hid hp
  have HSt := Lib.hid hs
  have HLL := Lib.hid hL
  have hsl := sub_len4 hT.sub
  have htl := isQ_len4 hT.top
  have hvv := hT.v
  have H4 := Lib.hid h4
  have HN1 := fun W (hb' : Below w.heap.size w W) => num4_c hT.sub (termV_iff.1 ha).1 bv av W (Kd.S_ext hb' hs.b) (Kd.S_ext hb' h1)
  have HN2 := fun W (hb' : Below w.heap.size w W) => num4_c hT.sub (termV_iff.1 hb).1 bv xv W (Kd.S_ext hb' hs.b) (Kd.S_ext hb' h2)
  have hba := num_bnd hT.sub (termV_iff.1 ha).1
  have hbb := num_bnd hT.sub (termV_iff.1 hb).1
  unfold tReckon at hr
  obtain ⟨na, hna⟩ : ∃ na, numV s.binds g.a = na := ⟨_, rfl⟩
  obtain ⟨nb, hnb⟩ : ∃ nb, numV s.binds g.b = nb := ⟨_, rfl⟩
  obtain ⟨qa, hqa⟩ : ∃ qa, isNum s.binds g.a = qa := ⟨_, rfl⟩
  obtain ⟨qb, hqb⟩ : ∃ qb, isNum s.binds g.b = qb := ⟨_, rfl⟩
  rw [hna, hqa] at HN1 hba
  rw [hnb, hqb] at HN2 hbb
  rw [hna, hnb, hqa, hqb] at hr
  have HSm := fun W xv' (hx : T0 W xv' [⟨2, na + nb, ByteArray.empty⟩]) (hb' : Below w.heap.size w W) (hk : g.k = 5) (hin : inR (na + nb) (-9999) 9999 = true) (hr2 : tMeet (tBack n p) s g.c (numT (na + nb)) rest 0 = some r) => same4_c s r g.c (numT (na + nb)) rest p1 p2 gv bv cv tv ov yv xv' hv B L W hr2 hst1 hou hT (hp.ext hb') (hs.ext hb') (Nat.le_trans hB hb'.size) hL hL9 (hc5 hk) (num_term hin) (Kd.S_ext hb' h3) hx (Kd.S_ext hb' h4)
  have HIn := Lib.hid (fun W => lIn_c (na + nb) (-9999) 9999 W)
  have HN1 := Lib.hid HN1
  have HN2 := Lib.hid HN2
  have HBk := Lib.hid (fun W (hrb : tBack n p s = some r) (hb' : Below w.heap.size w W) => back4_c p n s r p1 p2 gv bv cv tv ov B L W hrb hT (hp.ext hb') (hs.ext hb') (Nat.le_trans hB hb'.size) hL hL9)
  have HEn := Lib.hid (fun W (hb' : Below w.heap.size w W) => ends4_c s 5 gv bv cv tv ov W (hs.ext hb') (by omega))
  obtain ⟨P1, q1, rfl, -, -, -⟩ := hp.c
  obtain ⟨P2, q2, rfl, -, -, -⟩ := hp.p
  obtain ⟨GA, gn, rfl, -, -, -⟩ := hs.g
  obtain ⟨BA, bn, rfl, -, -, -⟩ := hs.b
  obtain ⟨CA, cn, ec, -, -, -⟩ := Kd.O_read hs.c
  rw [List.length_map] at ec
  obtain rfl := ec
  obtain ⟨TA, tn, rfl, -, -, -⟩ := hs.t
  obtain ⟨OA, on, rfl, -, -, -⟩ := hs.o
  obtain ⟨XA, xn, rfl, -, -, -⟩ := h1
  obtain ⟨YA, yn, rfl, -, -, -⟩ := h2
  obtain ⟨ZA, zn, rfl, -, -, -⟩ := h3
  obtain ⟨HA, hn, rfl, -, -, -⟩ := h4
  have HB0 := Lib.hid (show Below w.heap.size w ((((w.alloc (.cells #[.slice P1 p.cl.length q1, .slice P2 p.pl.length q2] 58)).alloc (.cells #[.int .i64 s.st, .slice GA s.goals.length gn, .slice BA s.binds.length bn, .int .i64 s.vars, .slice CA s.ch.length cn, .slice TA s.top.length tn, .slice OA s.out.length on] 139)).alloc (.cells #[.int .i64 g.k, .slice XA g.a.length xn, .slice YA g.b.length yn, .slice ZA g.c.length zn] 160)).alloc (.cells #[.int .i64 0, .slice none 0 0, .slice none 0 0, .int .i64 0, .slice none 0 0, .slice none 0 0, .slice none 0 0] 139)) from bel_alloc (bel_alloc (bel_alloc (bel_alloc (Below.refl _ _) _) _) _) _)
  have HP0 := Lib.hid (show Bx ((((w.alloc (.cells #[.slice P1 p.cl.length q1, .slice P2 p.pl.length q2] 58)).alloc (.cells #[.int .i64 s.st, .slice GA s.goals.length gn, .slice BA s.binds.length bn, .int .i64 s.vars, .slice CA s.ch.length cn, .slice TA s.top.length tn, .slice OA s.out.length on] 139)).alloc (.cells #[.int .i64 g.k, .slice XA g.a.length xn, .slice YA g.b.length yn, .slice ZA g.c.length zn] 160)).alloc (.cells #[.int .i64 0, .slice none 0 0, .slice none 0 0, .int .i64 0, .slice none 0 0, .slice none 0 0, .slice none 0 0] 139)) (w.heap.size) 58 #[.slice P1 p.cl.length q1, .slice P2 p.pl.length q2] from by have h := Bx.alloc (Bx.alloc (Bx.alloc (Bx.new w 58 #[.slice P1 p.cl.length q1, .slice P2 p.pl.length q2]) (.cells #[.int .i64 s.st, .slice GA s.goals.length gn, .slice BA s.binds.length bn, .int .i64 s.vars, .slice CA s.ch.length cn, .slice TA s.top.length tn, .slice OA s.out.length on] 139)) (.cells #[.int .i64 g.k, .slice XA g.a.length xn, .slice YA g.b.length yn, .slice ZA g.c.length zn] 160)) (.cells #[.int .i64 0, .slice none 0 0, .slice none 0 0, .int .i64 0, .slice none 0 0, .slice none 0 0, .slice none 0 0] 139); simpa only [size_alloc] using h)
  have HS0 := Lib.hid (show Bx ((((w.alloc (.cells #[.slice P1 p.cl.length q1, .slice P2 p.pl.length q2] 58)).alloc (.cells #[.int .i64 s.st, .slice GA s.goals.length gn, .slice BA s.binds.length bn, .int .i64 s.vars, .slice CA s.ch.length cn, .slice TA s.top.length tn, .slice OA s.out.length on] 139)).alloc (.cells #[.int .i64 g.k, .slice XA g.a.length xn, .slice YA g.b.length yn, .slice ZA g.c.length zn] 160)).alloc (.cells #[.int .i64 0, .slice none 0 0, .slice none 0 0, .int .i64 0, .slice none 0 0, .slice none 0 0, .slice none 0 0] 139)) (w.heap.size + 1) 139 #[.int .i64 s.st, .slice GA s.goals.length gn, .slice BA s.binds.length bn, .int .i64 s.vars, .slice CA s.ch.length cn, .slice TA s.top.length tn, .slice OA s.out.length on] from by have h := Bx.alloc (Bx.alloc (Bx.new (w.alloc (.cells #[.slice P1 p.cl.length q1, .slice P2 p.pl.length q2] 58)) 139 #[.int .i64 s.st, .slice GA s.goals.length gn, .slice BA s.binds.length bn, .int .i64 s.vars, .slice CA s.ch.length cn, .slice TA s.top.length tn, .slice OA s.out.length on]) (.cells #[.int .i64 g.k, .slice XA g.a.length xn, .slice YA g.b.length yn, .slice ZA g.c.length zn] 160)) (.cells #[.int .i64 0, .slice none 0 0, .slice none 0 0, .int .i64 0, .slice none 0 0, .slice none 0 0, .slice none 0 0] 139); simpa only [size_alloc] using h)
  have HG0 := Lib.hid (show Bx ((((w.alloc (.cells #[.slice P1 p.cl.length q1, .slice P2 p.pl.length q2] 58)).alloc (.cells #[.int .i64 s.st, .slice GA s.goals.length gn, .slice BA s.binds.length bn, .int .i64 s.vars, .slice CA s.ch.length cn, .slice TA s.top.length tn, .slice OA s.out.length on] 139)).alloc (.cells #[.int .i64 g.k, .slice XA g.a.length xn, .slice YA g.b.length yn, .slice ZA g.c.length zn] 160)).alloc (.cells #[.int .i64 0, .slice none 0 0, .slice none 0 0, .int .i64 0, .slice none 0 0, .slice none 0 0, .slice none 0 0] 139)) (w.heap.size + 1 + 1) 160 #[.int .i64 g.k, .slice XA g.a.length xn, .slice YA g.b.length yn, .slice ZA g.c.length zn] from by have h := Bx.alloc (Bx.new ((w.alloc (.cells #[.slice P1 p.cl.length q1, .slice P2 p.pl.length q2] 58)).alloc (.cells #[.int .i64 s.st, .slice GA s.goals.length gn, .slice BA s.binds.length bn, .int .i64 s.vars, .slice CA s.ch.length cn, .slice TA s.top.length tn, .slice OA s.out.length on] 139)) 160 #[.int .i64 g.k, .slice XA g.a.length xn, .slice YA g.b.length yn, .slice ZA g.c.length zn]) (.cells #[.int .i64 0, .slice none 0 0, .slice none 0 0, .int .i64 0, .slice none 0 0, .slice none 0 0, .slice none 0 0] 139); simpa only [size_alloc] using h)
  have HR0 := Lib.hid (show Bx ((((w.alloc (.cells #[.slice P1 p.cl.length q1, .slice P2 p.pl.length q2] 58)).alloc (.cells #[.int .i64 s.st, .slice GA s.goals.length gn, .slice BA s.binds.length bn, .int .i64 s.vars, .slice CA s.ch.length cn, .slice TA s.top.length tn, .slice OA s.out.length on] 139)).alloc (.cells #[.int .i64 g.k, .slice XA g.a.length xn, .slice YA g.b.length yn, .slice ZA g.c.length zn] 160)).alloc (.cells #[.int .i64 0, .slice none 0 0, .slice none 0 0, .int .i64 0, .slice none 0 0, .slice none 0 0, .slice none 0 0] 139)) (w.heap.size + 1 + 1 + 1) 139 #[.int .i64 0, .slice none 0 0, .slice none 0 0, .int .i64 0, .slice none 0 0, .slice none 0 0, .slice none 0 0] from by have h := Bx.new (((w.alloc (.cells #[.slice P1 p.cl.length q1, .slice P2 p.pl.length q2] 58)).alloc (.cells #[.int .i64 s.st, .slice GA s.goals.length gn, .slice BA s.binds.length bn, .int .i64 s.vars, .slice CA s.ch.length cn, .slice TA s.top.length tn, .slice OA s.out.length on] 139)).alloc (.cells #[.int .i64 g.k, .slice XA g.a.length xn, .slice YA g.b.length yn, .slice ZA g.c.length zn] 160)) 139 #[.int .i64 0, .slice none 0 0, .slice none 0 0, .int .i64 0, .slice none 0 0, .slice none 0 0, .slice none 0 0]; simpa only [size_alloc] using h)
  clear hna hnb hqa hqb
  clear hT hp hs hL ha hb hc5 hst1 hou
  cases qa with
  | false =>
    rw [if_pos (.inl rfl)] at hr
    obtain rfl := Option.some.inj hr
    clear hr HSm HBk
    go_enter Tryz.func123, Tryz.ntmps123
    go_wp2_with (first | (go_at_call 145; (with_reducible refine (HN1.out _ HB0.out).mono ?_); rintro e w1 ⟨rfl, hb'⟩; have HB1 := Lib.hid (bel_trans HB0.out hb'); have HP1 := Lib.hid (Bx.below HP0.out hb'); have p1_0 := Bx.at' HP1.out 0 (.slice P1 p.cl.length q1) rfl; have p1_1 := Bx.at' HP1.out 1 (.slice P2 p.pl.length q2) rfl; have HS1 := Lib.hid (Bx.below HS0.out hb'); have s1_0 := Bx.at' HS1.out 0 (.int .i64 s.st) rfl; have s1_1 := Bx.at' HS1.out 1 (.slice GA s.goals.length gn) rfl; have s1_2 := Bx.at' HS1.out 2 (.slice BA s.binds.length bn) rfl; have s1_3 := Bx.at' HS1.out 3 (.int .i64 s.vars) rfl; have s1_4 := Bx.at' HS1.out 4 (.slice CA s.ch.length cn) rfl; have s1_5 := Bx.at' HS1.out 5 (.slice TA s.top.length tn) rfl; have s1_6 := Bx.at' HS1.out 6 (.slice OA s.out.length on) rfl; have HG1 := Lib.hid (Bx.below HG0.out hb'); have g1_0 := Bx.at' HG1.out 0 (.int .i64 g.k) rfl; have g1_1 := Bx.at' HG1.out 1 (.slice XA g.a.length xn) rfl; have g1_2 := Bx.at' HG1.out 2 (.slice YA g.b.length yn) rfl; have g1_3 := Bx.at' HG1.out 3 (.slice ZA g.c.length zn) rfl; have HR1 := Lib.hid (Bx.below HR0.out hb'); clear hb') | (go_at_call 145; (with_reducible refine (HN2.out _ HB1.out).mono ?_); rintro e w2 ⟨rfl, hb'⟩; have HB2 := Lib.hid (bel_trans HB1.out hb'); have HP2 := Lib.hid (Bx.below HP1.out hb'); have p2_0 := Bx.at' HP2.out 0 (.slice P1 p.cl.length q1) rfl; have p2_1 := Bx.at' HP2.out 1 (.slice P2 p.pl.length q2) rfl; have HS2 := Lib.hid (Bx.below HS1.out hb'); have s2_0 := Bx.at' HS2.out 0 (.int .i64 s.st) rfl; have s2_1 := Bx.at' HS2.out 1 (.slice GA s.goals.length gn) rfl; have s2_2 := Bx.at' HS2.out 2 (.slice BA s.binds.length bn) rfl; have s2_3 := Bx.at' HS2.out 3 (.int .i64 s.vars) rfl; have s2_4 := Bx.at' HS2.out 4 (.slice CA s.ch.length cn) rfl; have s2_5 := Bx.at' HS2.out 5 (.slice TA s.top.length tn) rfl; have s2_6 := Bx.at' HS2.out 6 (.slice OA s.out.length on) rfl; have HG2 := Lib.hid (Bx.below HG1.out hb'); have g2_0 := Bx.at' HG2.out 0 (.int .i64 g.k) rfl; have g2_1 := Bx.at' HG2.out 1 (.slice XA g.a.length xn) rfl; have g2_2 := Bx.at' HG2.out 2 (.slice YA g.b.length yn) rfl; have g2_3 := Bx.at' HG2.out 3 (.slice ZA g.c.length zn) rfl; have HR2 := Lib.hid (Bx.below HR1.out hb'); clear hb') | (go_at_call 125; (with_reducible refine (HEn.out _ HB2.out).mono ?_); rintro e w3 ⟨t', rfl, ht', hb'⟩; have HT3 := Lib.hid ht'; obtain ⟨VT, vt, rfl, -, -, -⟩ := ht'; have HB3 := Lib.hid (bel_trans HB2.out hb'); have HR3 := Lib.hid (Bx.below HR2.out hb'); obtain ⟨m0, m1, m2, m3, m4, m5, m6, m7, m8, m9, m10, m11, m12, m13, HE⟩ := put_7 HR3.out (.int .i64 5) (.slice none 0 0) (.slice none 0 0) (.int .i64 0) (.slice none 0 0) (.slice VT s.top.length vt) (.slice none 0 0); clear hb') | fail)
    refine bodyPost_ret (results_cell_row rfl _ _ (w.heap.size + 1 + 1 + 1) 139 _ (0, 0) _ rfl HE.out.1 Tryz.underlying139 rfl (by kernel_rfl)) rfl ?_
    exact ⟨_, _, _, _, _, rfl, (StV.mk (s := tEnd s 5) (Kd.S_nil _ _ _) (Kd.S_nil _ _ _) (Kd.O_nil _ _ _ _) HT3.out (Kd.S_nil _ _ _)).but HE.out.2.1, wrote_own (Wrote.of_below hB HB3.out) (HE.out.2.2 w.heap.size _ (by omega) (Below.refl _ _)) hB⟩
  | true =>
    cases qb with
    | false =>
      rw [if_pos (.inl rfl)] at hr
      obtain rfl := Option.some.inj hr
      clear hr HSm HBk
      go_enter Tryz.func123, Tryz.ntmps123
      go_wp2_with (first | (go_at_call 145; (with_reducible refine (HN1.out _ HB0.out).mono ?_); rintro e w1 ⟨rfl, hb'⟩; have HB1 := Lib.hid (bel_trans HB0.out hb'); have HP1 := Lib.hid (Bx.below HP0.out hb'); have p1_0 := Bx.at' HP1.out 0 (.slice P1 p.cl.length q1) rfl; have p1_1 := Bx.at' HP1.out 1 (.slice P2 p.pl.length q2) rfl; have HS1 := Lib.hid (Bx.below HS0.out hb'); have s1_0 := Bx.at' HS1.out 0 (.int .i64 s.st) rfl; have s1_1 := Bx.at' HS1.out 1 (.slice GA s.goals.length gn) rfl; have s1_2 := Bx.at' HS1.out 2 (.slice BA s.binds.length bn) rfl; have s1_3 := Bx.at' HS1.out 3 (.int .i64 s.vars) rfl; have s1_4 := Bx.at' HS1.out 4 (.slice CA s.ch.length cn) rfl; have s1_5 := Bx.at' HS1.out 5 (.slice TA s.top.length tn) rfl; have s1_6 := Bx.at' HS1.out 6 (.slice OA s.out.length on) rfl; have HG1 := Lib.hid (Bx.below HG0.out hb'); have g1_0 := Bx.at' HG1.out 0 (.int .i64 g.k) rfl; have g1_1 := Bx.at' HG1.out 1 (.slice XA g.a.length xn) rfl; have g1_2 := Bx.at' HG1.out 2 (.slice YA g.b.length yn) rfl; have g1_3 := Bx.at' HG1.out 3 (.slice ZA g.c.length zn) rfl; have HR1 := Lib.hid (Bx.below HR0.out hb'); clear hb') | (go_at_call 145; (with_reducible refine (HN2.out _ HB1.out).mono ?_); rintro e w2 ⟨rfl, hb'⟩; have HB2 := Lib.hid (bel_trans HB1.out hb'); have HP2 := Lib.hid (Bx.below HP1.out hb'); have p2_0 := Bx.at' HP2.out 0 (.slice P1 p.cl.length q1) rfl; have p2_1 := Bx.at' HP2.out 1 (.slice P2 p.pl.length q2) rfl; have HS2 := Lib.hid (Bx.below HS1.out hb'); have s2_0 := Bx.at' HS2.out 0 (.int .i64 s.st) rfl; have s2_1 := Bx.at' HS2.out 1 (.slice GA s.goals.length gn) rfl; have s2_2 := Bx.at' HS2.out 2 (.slice BA s.binds.length bn) rfl; have s2_3 := Bx.at' HS2.out 3 (.int .i64 s.vars) rfl; have s2_4 := Bx.at' HS2.out 4 (.slice CA s.ch.length cn) rfl; have s2_5 := Bx.at' HS2.out 5 (.slice TA s.top.length tn) rfl; have s2_6 := Bx.at' HS2.out 6 (.slice OA s.out.length on) rfl; have HG2 := Lib.hid (Bx.below HG1.out hb'); have g2_0 := Bx.at' HG2.out 0 (.int .i64 g.k) rfl; have g2_1 := Bx.at' HG2.out 1 (.slice XA g.a.length xn) rfl; have g2_2 := Bx.at' HG2.out 2 (.slice YA g.b.length yn) rfl; have g2_3 := Bx.at' HG2.out 3 (.slice ZA g.c.length zn) rfl; have HR2 := Lib.hid (Bx.below HR1.out hb'); clear hb') | (go_at_call 125; (with_reducible refine (HEn.out _ HB2.out).mono ?_); rintro e w3 ⟨t', rfl, ht', hb'⟩; have HT3 := Lib.hid ht'; obtain ⟨VT, vt, rfl, -, -, -⟩ := ht'; have HB3 := Lib.hid (bel_trans HB2.out hb'); have HR3 := Lib.hid (Bx.below HR2.out hb'); obtain ⟨m0, m1, m2, m3, m4, m5, m6, m7, m8, m9, m10, m11, m12, m13, HE⟩ := put_7 HR3.out (.int .i64 5) (.slice none 0 0) (.slice none 0 0) (.int .i64 0) (.slice none 0 0) (.slice VT s.top.length vt) (.slice none 0 0); clear hb') | fail)
      refine bodyPost_ret (results_cell_row rfl _ _ (w.heap.size + 1 + 1 + 1) 139 _ (0, 0) _ rfl HE.out.1 Tryz.underlying139 rfl (by kernel_rfl)) rfl ?_
      exact ⟨_, _, _, _, _, rfl, (StV.mk (s := tEnd s 5) (Kd.S_nil _ _ _) (Kd.S_nil _ _ _) (Kd.O_nil _ _ _ _) HT3.out (Kd.S_nil _ _ _)).but HE.out.2.1, wrote_own (Wrote.of_below hB HB3.out) (HE.out.2.2 w.heap.size _ (by omega) (Below.refl _ _)) hB⟩
    | true =>
      have hba := hba rfl
      have hbb := hbb rfl
      by_cases hk : g.k = 5
      · have fk : (g.k == 5) = true := beq_iff_eq.2 hk
        cases hin : inR (na + nb) (-9999) 9999 with
        | false =>
          rw [if_pos (.inr ⟨hk, hin⟩)] at hr
          obtain rfl := Option.some.inj hr
          have HIv := Lib.hid (show (decide (-9999 ≤ na + nb) && decide (na + nb ≤ 9999)) = false from hin)
          clear hk hin
          clear hr HSm HBk
          go_enter Tryz.func123, Tryz.ntmps123
          go_wp2_with (first | (go_at_call 145; (with_reducible refine (HN1.out _ HB0.out).mono ?_); rintro e w1 ⟨rfl, hb'⟩; have HB1 := Lib.hid (bel_trans HB0.out hb'); have HP1 := Lib.hid (Bx.below HP0.out hb'); have p1_0 := Bx.at' HP1.out 0 (.slice P1 p.cl.length q1) rfl; have p1_1 := Bx.at' HP1.out 1 (.slice P2 p.pl.length q2) rfl; have HS1 := Lib.hid (Bx.below HS0.out hb'); have s1_0 := Bx.at' HS1.out 0 (.int .i64 s.st) rfl; have s1_1 := Bx.at' HS1.out 1 (.slice GA s.goals.length gn) rfl; have s1_2 := Bx.at' HS1.out 2 (.slice BA s.binds.length bn) rfl; have s1_3 := Bx.at' HS1.out 3 (.int .i64 s.vars) rfl; have s1_4 := Bx.at' HS1.out 4 (.slice CA s.ch.length cn) rfl; have s1_5 := Bx.at' HS1.out 5 (.slice TA s.top.length tn) rfl; have s1_6 := Bx.at' HS1.out 6 (.slice OA s.out.length on) rfl; have HG1 := Lib.hid (Bx.below HG0.out hb'); have g1_0 := Bx.at' HG1.out 0 (.int .i64 g.k) rfl; have g1_1 := Bx.at' HG1.out 1 (.slice XA g.a.length xn) rfl; have g1_2 := Bx.at' HG1.out 2 (.slice YA g.b.length yn) rfl; have g1_3 := Bx.at' HG1.out 3 (.slice ZA g.c.length zn) rfl; have HR1 := Lib.hid (Bx.below HR0.out hb'); clear hb') | (go_at_call 145; (with_reducible refine (HN2.out _ HB1.out).mono ?_); rintro e w2 ⟨rfl, hb'⟩; have HB2 := Lib.hid (bel_trans HB1.out hb'); have HP2 := Lib.hid (Bx.below HP1.out hb'); have p2_0 := Bx.at' HP2.out 0 (.slice P1 p.cl.length q1) rfl; have p2_1 := Bx.at' HP2.out 1 (.slice P2 p.pl.length q2) rfl; have HS2 := Lib.hid (Bx.below HS1.out hb'); have s2_0 := Bx.at' HS2.out 0 (.int .i64 s.st) rfl; have s2_1 := Bx.at' HS2.out 1 (.slice GA s.goals.length gn) rfl; have s2_2 := Bx.at' HS2.out 2 (.slice BA s.binds.length bn) rfl; have s2_3 := Bx.at' HS2.out 3 (.int .i64 s.vars) rfl; have s2_4 := Bx.at' HS2.out 4 (.slice CA s.ch.length cn) rfl; have s2_5 := Bx.at' HS2.out 5 (.slice TA s.top.length tn) rfl; have s2_6 := Bx.at' HS2.out 6 (.slice OA s.out.length on) rfl; have HG2 := Lib.hid (Bx.below HG1.out hb'); have g2_0 := Bx.at' HG2.out 0 (.int .i64 g.k) rfl; have g2_1 := Bx.at' HG2.out 1 (.slice XA g.a.length xn) rfl; have g2_2 := Bx.at' HG2.out 2 (.slice YA g.b.length yn) rfl; have g2_3 := Bx.at' HG2.out 3 (.slice ZA g.c.length zn) rfl; have HR2 := Lib.hid (Bx.below HR1.out hb'); clear hb') | (go_at_call 125; (with_reducible refine (HEn.out _ HB2.out).mono ?_); rintro e w3 ⟨t', rfl, ht', hb'⟩; have HT3 := Lib.hid ht'; obtain ⟨VT, vt, rfl, -, -, -⟩ := ht'; have HB3 := Lib.hid (bel_trans HB2.out hb'); have HR3 := Lib.hid (Bx.below HR2.out hb'); obtain ⟨m0, m1, m2, m3, m4, m5, m6, m7, m8, m9, m10, m11, m12, m13, HE⟩ := put_7 HR3.out (.int .i64 5) (.slice none 0 0) (.slice none 0 0) (.int .i64 0) (.slice none 0 0) (.slice VT s.top.length vt) (.slice none 0 0); clear hb') | (go_at_call 20; (with_reducible refine (HIn.out _).mono ?_); rintro e wi ⟨rfl, rfl⟩; rw [HIv.out]) | fail)
          refine bodyPost_ret (results_cell_row rfl _ _ (w.heap.size + 1 + 1 + 1) 139 _ (0, 0) _ rfl HE.out.1 Tryz.underlying139 rfl (by kernel_rfl)) rfl ?_
          exact ⟨_, _, _, _, _, rfl, (StV.mk (s := tEnd s 5) (Kd.S_nil _ _ _) (Kd.S_nil _ _ _) (Kd.O_nil _ _ _ _) HT3.out (Kd.S_nil _ _ _)).but HE.out.2.1, wrote_own (Wrote.of_below hB HB3.out) (HE.out.2.2 w.heap.size _ (by omega) (Below.refl _ _)) hB⟩
        | true =>
          have HIv := Lib.hid (show (decide (-9999 ≤ na + nb) && decide (na + nb ≤ 9999)) = true from hin)
          rw [if_neg (by rintro (h | ⟨-, h⟩); cases h; rw [hin] at h; cases h), if_pos hk] at hr
          have HSm := Lib.hid (fun W xv' hx hb' => HSm W xv' hx hb' hk hin hr)
          clear hr HBk hk hin
          go_enter Tryz.func123, Tryz.ntmps123
          go_wp2_with (first | (go_at_call 145; (with_reducible refine (HN1.out _ HB0.out).mono ?_); rintro e w1 ⟨rfl, hb'⟩; have HB1 := Lib.hid (bel_trans HB0.out hb'); have HP1 := Lib.hid (Bx.below HP0.out hb'); have p1_0 := Bx.at' HP1.out 0 (.slice P1 p.cl.length q1) rfl; have p1_1 := Bx.at' HP1.out 1 (.slice P2 p.pl.length q2) rfl; have HS1 := Lib.hid (Bx.below HS0.out hb'); have s1_0 := Bx.at' HS1.out 0 (.int .i64 s.st) rfl; have s1_1 := Bx.at' HS1.out 1 (.slice GA s.goals.length gn) rfl; have s1_2 := Bx.at' HS1.out 2 (.slice BA s.binds.length bn) rfl; have s1_3 := Bx.at' HS1.out 3 (.int .i64 s.vars) rfl; have s1_4 := Bx.at' HS1.out 4 (.slice CA s.ch.length cn) rfl; have s1_5 := Bx.at' HS1.out 5 (.slice TA s.top.length tn) rfl; have s1_6 := Bx.at' HS1.out 6 (.slice OA s.out.length on) rfl; have HG1 := Lib.hid (Bx.below HG0.out hb'); have g1_0 := Bx.at' HG1.out 0 (.int .i64 g.k) rfl; have g1_1 := Bx.at' HG1.out 1 (.slice XA g.a.length xn) rfl; have g1_2 := Bx.at' HG1.out 2 (.slice YA g.b.length yn) rfl; have g1_3 := Bx.at' HG1.out 3 (.slice ZA g.c.length zn) rfl; have HR1 := Lib.hid (Bx.below HR0.out hb'); clear hb') | (go_at_call 145; (with_reducible refine (HN2.out _ HB1.out).mono ?_); rintro e w2 ⟨rfl, hb'⟩; have HB2 := Lib.hid (bel_trans HB1.out hb'); have HP2 := Lib.hid (Bx.below HP1.out hb'); have p2_0 := Bx.at' HP2.out 0 (.slice P1 p.cl.length q1) rfl; have p2_1 := Bx.at' HP2.out 1 (.slice P2 p.pl.length q2) rfl; have HS2 := Lib.hid (Bx.below HS1.out hb'); have s2_0 := Bx.at' HS2.out 0 (.int .i64 s.st) rfl; have s2_1 := Bx.at' HS2.out 1 (.slice GA s.goals.length gn) rfl; have s2_2 := Bx.at' HS2.out 2 (.slice BA s.binds.length bn) rfl; have s2_3 := Bx.at' HS2.out 3 (.int .i64 s.vars) rfl; have s2_4 := Bx.at' HS2.out 4 (.slice CA s.ch.length cn) rfl; have s2_5 := Bx.at' HS2.out 5 (.slice TA s.top.length tn) rfl; have s2_6 := Bx.at' HS2.out 6 (.slice OA s.out.length on) rfl; have HG2 := Lib.hid (Bx.below HG1.out hb'); have g2_0 := Bx.at' HG2.out 0 (.int .i64 g.k) rfl; have g2_1 := Bx.at' HG2.out 1 (.slice XA g.a.length xn) rfl; have g2_2 := Bx.at' HG2.out 2 (.slice YA g.b.length yn) rfl; have g2_3 := Bx.at' HG2.out 3 (.slice ZA g.c.length zn) rfl; have HR2 := Lib.hid (Bx.below HR1.out hb'); clear hb') | (go_at_call 20; (with_reducible refine (HIn.out _).mono ?_); rintro e wi ⟨rfl, rfl⟩; rw [HIv.out]) | (go_at_call 122; (with_reducible refine (HSm.out _ _ (num_lit _ _) (bel_alloc HB2.out _)).mono ?_); rintro e w5 ⟨rg, rb, rc, rt, ro, rfl, hst, hw⟩; have HR3 := Lib.hid (Bx.alloc HR2.out (.cells #[.int .i64 2, .int .i64 (na + nb), .string ⟨#[]⟩] 47)); have HB3 := Lib.hid (bel_alloc HB2.out (.cells #[.int .i64 2, .int .i64 (na + nb), .string ⟨#[]⟩] 47)); have HW5 := Lib.hid hw; have HST5 := Lib.hid hst; obtain ⟨RG, rgn, rfl, -, -, -⟩ := hst.g; obtain ⟨RB, rbn, rfl, -, -, -⟩ := hst.b; obtain ⟨RC, rcn, erc, -, -, -⟩ := Kd.O_read hst.c; rw [List.length_map] at erc; obtain rfl := erc; obtain ⟨RT, rtn, rfl, -, -, -⟩ := hst.t; obtain ⟨RO, ron, rfl, -, -, -⟩ := hst.o; have HR5 := Lib.hid (Bx.but HR3.out hw.but (by decide)); obtain ⟨m0, m1, m2, m3, m4, m5, m6, m7, m8, m9, m10, m11, m12, m13, HE⟩ := put_7 HR5.out (.int .i64 r.st) (.slice RG r.goals.length rgn) (.slice RB r.binds.length rbn) (.int .i64 r.vars) (.slice RC r.ch.length rcn) (.slice RT r.top.length rtn) (.slice RO r.out.length ron); clear hw hst) | fail)
          refine bodyPost_ret (results_cell_row rfl _ _ (w.heap.size + 1 + 1 + 1) 139 _ (0, 0) _ rfl HE.out.1 Tryz.underlying139 rfl (by kernel_rfl)) rfl ?_
          exact ⟨_, _, _, _, _, rfl, HST5.out.but HE.out.2.1, wrote_own ((Wrote.of_below hB HB3.out).trans HW5.out) (HE.out.2.2 w.heap.size _ (by omega) (Below.refl _ _)) hB⟩
      · have fk : (g.k == 5) = false := beq_eq_false_iff_ne.2 hk
        rw [if_neg (by rintro (h | ⟨h, -⟩); cases h; exact hk h), if_neg hk] at hr
        by_cases hlt : nb ≤ na
        · rw [if_pos hlt] at hr
          have f2 : decide (nb ≤ na) = true := decide_eq_true hlt
          have hr2 := Lib.hid hr
          clear hr HSm
          go_enter Tryz.func123, Tryz.ntmps123
          go_wp2_with (first | (go_at_call 145; (with_reducible refine (HN1.out _ HB0.out).mono ?_); rintro e w1 ⟨rfl, hb'⟩; have HB1 := Lib.hid (bel_trans HB0.out hb'); have HP1 := Lib.hid (Bx.below HP0.out hb'); have p1_0 := Bx.at' HP1.out 0 (.slice P1 p.cl.length q1) rfl; have p1_1 := Bx.at' HP1.out 1 (.slice P2 p.pl.length q2) rfl; have HS1 := Lib.hid (Bx.below HS0.out hb'); have s1_0 := Bx.at' HS1.out 0 (.int .i64 s.st) rfl; have s1_1 := Bx.at' HS1.out 1 (.slice GA s.goals.length gn) rfl; have s1_2 := Bx.at' HS1.out 2 (.slice BA s.binds.length bn) rfl; have s1_3 := Bx.at' HS1.out 3 (.int .i64 s.vars) rfl; have s1_4 := Bx.at' HS1.out 4 (.slice CA s.ch.length cn) rfl; have s1_5 := Bx.at' HS1.out 5 (.slice TA s.top.length tn) rfl; have s1_6 := Bx.at' HS1.out 6 (.slice OA s.out.length on) rfl; have HG1 := Lib.hid (Bx.below HG0.out hb'); have g1_0 := Bx.at' HG1.out 0 (.int .i64 g.k) rfl; have g1_1 := Bx.at' HG1.out 1 (.slice XA g.a.length xn) rfl; have g1_2 := Bx.at' HG1.out 2 (.slice YA g.b.length yn) rfl; have g1_3 := Bx.at' HG1.out 3 (.slice ZA g.c.length zn) rfl; have HR1 := Lib.hid (Bx.below HR0.out hb'); clear hb') | (go_at_call 145; (with_reducible refine (HN2.out _ HB1.out).mono ?_); rintro e w2 ⟨rfl, hb'⟩; have HB2 := Lib.hid (bel_trans HB1.out hb'); have HP2 := Lib.hid (Bx.below HP1.out hb'); have p2_0 := Bx.at' HP2.out 0 (.slice P1 p.cl.length q1) rfl; have p2_1 := Bx.at' HP2.out 1 (.slice P2 p.pl.length q2) rfl; have HS2 := Lib.hid (Bx.below HS1.out hb'); have s2_0 := Bx.at' HS2.out 0 (.int .i64 s.st) rfl; have s2_1 := Bx.at' HS2.out 1 (.slice GA s.goals.length gn) rfl; have s2_2 := Bx.at' HS2.out 2 (.slice BA s.binds.length bn) rfl; have s2_3 := Bx.at' HS2.out 3 (.int .i64 s.vars) rfl; have s2_4 := Bx.at' HS2.out 4 (.slice CA s.ch.length cn) rfl; have s2_5 := Bx.at' HS2.out 5 (.slice TA s.top.length tn) rfl; have s2_6 := Bx.at' HS2.out 6 (.slice OA s.out.length on) rfl; have HG2 := Lib.hid (Bx.below HG1.out hb'); have g2_0 := Bx.at' HG2.out 0 (.int .i64 g.k) rfl; have g2_1 := Bx.at' HG2.out 1 (.slice XA g.a.length xn) rfl; have g2_2 := Bx.at' HG2.out 2 (.slice YA g.b.length yn) rfl; have g2_3 := Bx.at' HG2.out 3 (.slice ZA g.c.length zn) rfl; have HR2 := Lib.hid (Bx.below HR1.out hb'); clear hb') | (go_at_call 119; (with_reducible refine (HBk.out _ hr2.out HB2.out).mono ?_); rintro e w3 ⟨rg, rb, rc, rt, ro, rfl, hst, hw⟩; have HW3 := Lib.hid hw; have HST3 := Lib.hid hst; obtain ⟨RG, rgn, rfl, -, -, -⟩ := hst.g; obtain ⟨RB, rbn, rfl, -, -, -⟩ := hst.b; obtain ⟨RC, rcn, erc, -, -, -⟩ := Kd.O_read hst.c; rw [List.length_map] at erc; obtain rfl := erc; obtain ⟨RT, rtn, rfl, -, -, -⟩ := hst.t; obtain ⟨RO, ron, rfl, -, -, -⟩ := hst.o; have HR3 := Lib.hid (Bx.but HR2.out hw.but (by decide)); obtain ⟨m0, m1, m2, m3, m4, m5, m6, m7, m8, m9, m10, m11, m12, m13, HE⟩ := put_7 HR3.out (.int .i64 r.st) (.slice RG r.goals.length rgn) (.slice RB r.binds.length rbn) (.int .i64 r.vars) (.slice RC r.ch.length rcn) (.slice RT r.top.length rtn) (.slice RO r.out.length ron); clear hw hst) | fail)
          refine bodyPost_ret (results_cell_row rfl _ _ (w.heap.size + 1 + 1 + 1) 139 _ (0, 0) _ rfl HE.out.1 Tryz.underlying139 rfl (by kernel_rfl)) rfl ?_
          exact ⟨_, _, _, _, _, rfl, HST3.out.but HE.out.2.1, wrote_own ((Wrote.of_below hB HB2.out).trans HW3.out) (HE.out.2.2 w.heap.size _ (by omega) (Below.refl _ _)) hB⟩
        · rw [if_neg hlt] at hr
          have f2 : decide (nb ≤ na) = false := decide_eq_false hlt
          obtain rfl := Option.some.inj hr
          clear hr HSm HBk
          go_enter Tryz.func123, Tryz.ntmps123
          go_wp2_with (first | (go_at_call 145; (with_reducible refine (HN1.out _ HB0.out).mono ?_); rintro e w1 ⟨rfl, hb'⟩; have HB1 := Lib.hid (bel_trans HB0.out hb'); have HP1 := Lib.hid (Bx.below HP0.out hb'); have p1_0 := Bx.at' HP1.out 0 (.slice P1 p.cl.length q1) rfl; have p1_1 := Bx.at' HP1.out 1 (.slice P2 p.pl.length q2) rfl; have HS1 := Lib.hid (Bx.below HS0.out hb'); have s1_0 := Bx.at' HS1.out 0 (.int .i64 s.st) rfl; have s1_1 := Bx.at' HS1.out 1 (.slice GA s.goals.length gn) rfl; have s1_2 := Bx.at' HS1.out 2 (.slice BA s.binds.length bn) rfl; have s1_3 := Bx.at' HS1.out 3 (.int .i64 s.vars) rfl; have s1_4 := Bx.at' HS1.out 4 (.slice CA s.ch.length cn) rfl; have s1_5 := Bx.at' HS1.out 5 (.slice TA s.top.length tn) rfl; have s1_6 := Bx.at' HS1.out 6 (.slice OA s.out.length on) rfl; have HG1 := Lib.hid (Bx.below HG0.out hb'); have g1_0 := Bx.at' HG1.out 0 (.int .i64 g.k) rfl; have g1_1 := Bx.at' HG1.out 1 (.slice XA g.a.length xn) rfl; have g1_2 := Bx.at' HG1.out 2 (.slice YA g.b.length yn) rfl; have g1_3 := Bx.at' HG1.out 3 (.slice ZA g.c.length zn) rfl; have HR1 := Lib.hid (Bx.below HR0.out hb'); clear hb') | (go_at_call 145; (with_reducible refine (HN2.out _ HB1.out).mono ?_); rintro e w2 ⟨rfl, hb'⟩; have HB2 := Lib.hid (bel_trans HB1.out hb'); have HP2 := Lib.hid (Bx.below HP1.out hb'); have p2_0 := Bx.at' HP2.out 0 (.slice P1 p.cl.length q1) rfl; have p2_1 := Bx.at' HP2.out 1 (.slice P2 p.pl.length q2) rfl; have HS2 := Lib.hid (Bx.below HS1.out hb'); have s2_0 := Bx.at' HS2.out 0 (.int .i64 s.st) rfl; have s2_1 := Bx.at' HS2.out 1 (.slice GA s.goals.length gn) rfl; have s2_2 := Bx.at' HS2.out 2 (.slice BA s.binds.length bn) rfl; have s2_3 := Bx.at' HS2.out 3 (.int .i64 s.vars) rfl; have s2_4 := Bx.at' HS2.out 4 (.slice CA s.ch.length cn) rfl; have s2_5 := Bx.at' HS2.out 5 (.slice TA s.top.length tn) rfl; have s2_6 := Bx.at' HS2.out 6 (.slice OA s.out.length on) rfl; have HG2 := Lib.hid (Bx.below HG1.out hb'); have g2_0 := Bx.at' HG2.out 0 (.int .i64 g.k) rfl; have g2_1 := Bx.at' HG2.out 1 (.slice XA g.a.length xn) rfl; have g2_2 := Bx.at' HG2.out 2 (.slice YA g.b.length yn) rfl; have g2_3 := Bx.at' HG2.out 3 (.slice ZA g.c.length zn) rfl; have HR2 := Lib.hid (Bx.below HR1.out hb'); clear hb'; have HWr := Lib.hid (Wrote.of_below (e := 196) hB HB2.out); have s3_1 := Bx.at' HS2.out 1 (.slice GA s.goals.length gn) rfl; have f3_1 := Bx.free HS2.out 1; have K3_1 := Lib.hid (bx_but (j := 1) (u := .slice HA rest.length hn) HS2.out); have S3_1 : Hid (Bx _ _ _ #[.int .i64 s.st, .slice HA rest.length hn, .slice BA s.binds.length bn, .int .i64 s.vars, .slice CA s.ch.length cn, .slice TA s.top.length tn, .slice OA s.out.length on]) := Lib.hid (Bx.put HS2.out 1 (.slice HA rest.length hn)); have R3_1 := Lib.hid (Bx.far HR2.out (g' := w.heap.size + 1) (by omega) 1 (.slice HA rest.length hn)); have B3_1 := Lib.hid (wrote_own HWr.out (setc4 (g := w.heap.size + 1) (Below.refl _ _) (by omega) 1 (.slice HA rest.length hn)) hB); have l3_0 := Bx.at' S3_1.out 0 (.int .i64 s.st) rfl; have l3_1 := Bx.at' S3_1.out 1 (.slice HA rest.length hn) rfl; have l3_2 := Bx.at' S3_1.out 2 (.slice BA s.binds.length bn) rfl; have l3_3 := Bx.at' S3_1.out 3 (.int .i64 s.vars) rfl; have l3_4 := Bx.at' S3_1.out 4 (.slice CA s.ch.length cn) rfl; have l3_5 := Bx.at' S3_1.out 5 (.slice TA s.top.length tn) rfl; have l3_6 := Bx.at' S3_1.out 6 (.slice OA s.out.length on) rfl; obtain ⟨m0, m1, m2, m3, m4, m5, m6, m7, m8, m9, m10, m11, m12, m13, HE⟩ := put_7 R3_1.out (.int .i64 s.st) (.slice HA rest.length hn) (.slice BA s.binds.length bn) (.int .i64 s.vars) (.slice CA s.ch.length cn) (.slice TA s.top.length tn) (.slice OA s.out.length on); have HV2 := Lib.hid (HSt.out.ext HB2.out); have HOT := Lib.hid (show Kd.sch.O 196 w2 B (.slice CA s.ch.length cn) (List.map (viewC { s with goals := rest }) s.ch) from HV2.out.c); have HSTf := Lib.hid (StV.mk (s := { s with goals := rest }) (B := B) (K3_1.out.S (Kd.S_ext HB2.out H4.out) (by decide)) (K3_1.out.S HV2.out.b (by decide)) (K3_1.out.O HOT.out (by decide)) (K3_1.out.S HV2.out.t (by decide)) (K3_1.out.S HV2.out.o (by decide)))) | fail)
          refine bodyPost_ret (results_cell_row rfl _ _ (w.heap.size + 1 + 1 + 1) 139 _ (0, 0) _ rfl HE.out.1 Tryz.underlying139 rfl (by kernel_rfl)) rfl ?_
          exact ⟨_, _, _, _, _, rfl, HSTf.out.but HE.out.2.1, wrote_own (B3_1.out) (HE.out.2.2 w.heap.size _ (by omega) (Below.refl _ _)) hB⟩
#print axioms reckon4_c
end Go.Proofs.YtjglbadkbhopoaaGreatDoor
namespace Go.Proofs.YtjglbadkbhopoaaGreatDoor
set_option linter.unusedVariables false
noncomputable def outsL (p : Prog) (most : Int) : Nat → TSt → List SOut → List SOut × Nat
  | 0, _, outs => (outs, 0)
  | r + 1, s, outs =>
    if (outs.length : Int) < most then
      (if (tStep p (-1) s).st = 1 then ((outsL p most r (tStep p (-1) s) outs).1, (outsL p most r (tStep p (-1) s) outs).2 + 1)
       else if (tStep p (-1) s).st = 2 then ((outsL p most r (tStep p (-1) s) (outs ++ [((tStep p (-1) s).st, (tStep p (-1) s).out)])).1, (outsL p most r (tStep p (-1) s) (outs ++ [((tStep p (-1) s).st, (tStep p (-1) s).out)])).2 + 1)
       else (outs ++ [((tStep p (-1) s).st, (tStep p (-1) s).out)], 1))
    else (outs, 0)
noncomputable def slvOuts (p : Prog) (top : Trm) (most fuel : Int) : List SOut × Nat :=
  if prgOk p && isQ top && inR fuel 1 12000 then outsL p most fuel.toNat (tNew top) [] else ([], 0)
theorem prgOk_nd {p : Prog} (hp : prgOk p = true) {s s' : TSt} (h : Tok true p (-1) s) (hs : s' = tStep p (-1) s) : Tok true p (-1) s' ∧ s'.top = s.top := by
  subst hs
  exact step_ok h (tStep_eq p (-1) s)
theorem tNew_ok {p : Prog} {node : Int} {top : Trm} (hp : prgOk p = true) (hn : inR node (-1) 2 = true) (hq : isQ top = true) : Tok true p node (tNew top) ∧ (tNew top).top = top ∧ (tNew top).st = 1 := by
  have e : tNew top = ⟨1, [⟨⟨1, top, [], []⟩, 0⟩], [], (free top).length, [], top, []⟩ := by unfold tNew; rw [if_pos hq]
  obtain ⟨q1, q2, q3⟩ := isQ_ok hq
  have hl := (trmOk_iff.1 q1).2.1
  have hf := free_len top
  have hb : belowV ((free top).length : Int) top = true := below_vars.2 fun x hx => by
    have hc := hx
    rw [← q2] at hc
    unfold vars canon at hc
    simp only [List.mem_map, List.mem_filter, decide_eq_true_eq] at hc
    obtain ⟨c, ⟨⟨d, hd, rfl⟩, hk⟩, rfl⟩ := hc
    by_cases hdk : d.k = 1
    · rw [if_pos hdk]; exact (place_ge (free top) d.n).2
    · rw [if_neg hdk] at hk; exact absurd hk hdk
  rw [e]
  refine ⟨.inr ⟨⟨hp, hn, hq, ⟨by show (0 : Int) ≤ (free top).length; omega, by show ((free top).length : Int) ≤ 99999; omega⟩, sub_nil, rfl, rfl, fun _ => hb, fun _ i c h => by simp at h⟩, ⟨?_, fun _ => rfl⟩, rfl⟩, rfl, rfl⟩
  show List.all [_] _ = true
  simp only [List.all_cons, List.all_nil, Bool.and_true]
  unfold sgOk shapeOk
  simp [inR, termV, q1, q3, hb]
theorem tok_out {p : Prog} {node : Int} {s : TSt} (h : Tok true p node s) (hw : s.st ≠ 1) (hw6 : s.st ≠ 6) : outOk s.top s.st s.out = true ∧ 2 ≤ s.st ∧ s.st ≤ 5 := by
  rcases h with ⟨h3, h5, hn, ht⟩ | ⟨hi, hg, hst⟩
  · unfold nothing at hn
    simp only [Bool.and_eq_true] at hn
    refine ⟨?_, by omega, h5⟩
    unfold outOk
    rw [ht]
    simp only [Bool.true_eq_false, if_false]
    rw [if_pos ⟨h3, h5⟩]
    exact hn.1.2
  · unfold statOk at hst
    rw [if_neg hw] at hst
    split at hst
    · rename_i h2
      unfold ansOk at hst
      simp only [Bool.and_eq_true, decide_eq_true_eq] at hst
      refine ⟨?_, by omega, by omega⟩
      rw [h2, hst.2]
      exact ans_ok hi.top hi.sub hst.1.2
    · cases hst
theorem no_wait {p : Prog} {s : TSt} (h : Tok true p (-1) s) : s.st ≠ 6 := by
  intro h6
  rcases h with ⟨h3, h5, _⟩ | ⟨hi, hg, hst⟩
  · omega
  · unfold statOk at hst
    rw [if_neg (by omega), if_neg (by omega), if_pos h6] at hst
    unfold waitsOk at hst
    simp only [Bool.and_eq_true] at hst
    cases hl : s.ch.getLast? with
    | none => rw [hl] at hst; cases hst.2
    | some c =>
      rw [hl] at hst
      simp only [Bool.and_eq_true, decide_eq_true_eq] at hst
      obtain ⟨cs, hc⟩ := List.getLast?_eq_some_iff.1 hl
      have := (hi.pop hc).1.nf
      rw [if_neg (by omega)] at this
      unfold farOk at this
      simp at this
def OutsGood (top : Trm) (outs : List SOut) : Prop := ∀ o ∈ outs, outOk top o.1 o.2 = true ∧ o.1 = 2
def OutsFine (top : Trm) (outs : List SOut) : Prop := ∀ (k : Nat) (o : SOut), outs[k]? = some o → outOk top o.1 o.2 = true ∧ (k + 1 < outs.length → o.1 = 2)
theorem good_fine {top : Trm} {outs : List SOut} (h : OutsGood top outs) : OutsFine top outs := fun k o hk => ⟨(h o (List.mem_of_getElem? hk)).1, fun _ => (h o (List.mem_of_getElem? hk)).2⟩
theorem good_snoc {top : Trm} {outs : List SOut} (h : OutsGood top outs) {o : SOut} (ho : outOk top o.1 o.2 = true) : OutsFine top (outs ++ [o]) := fun k x hk => by
  by_cases hlt : k < outs.length
  · rw [List.getElem?_append_left hlt] at hk
    exact ⟨(h x (List.mem_of_getElem? hk)).1, fun _ => (h x (List.mem_of_getElem? hk)).2⟩
  · rw [List.getElem?_append_right (by omega)] at hk
    have hk0 : k - outs.length = 0 := by
      have := (List.getElem?_eq_some_iff.1 hk).1
      simp only [List.length_singleton] at this
      omega
    rw [hk0] at hk
    obtain rfl := Option.some.inj hk
    refine ⟨ho, fun h => ?_⟩
    rw [List.length_append, List.length_singleton] at h; omega
theorem outsL_fine {p : Prog} {most : Int} {top : Trm} : ∀ (r : Nat) (s : TSt) (outs : List SOut), Tok true p (-1) s → s.top = top → OutsGood top outs → OutsFine top (outsL p most r s outs).1
  | 0, s, outs, _, _, h => good_fine h
  | r + 1, s, outs, hT, ht, h => by
    obtain ⟨hT', ht'⟩ := step_ok hT (tStep_eq p (-1) s)
    rw [ht] at ht'
    unfold outsL
    split
    · split
      · exact outsL_fine r _ _ hT' ht' h
      · rename_i h1
        obtain ⟨o1, o2, o3⟩ := tok_out hT' h1 (no_wait hT')
        rw [ht'] at o1
        split
        · rename_i h2
          refine outsL_fine r _ _ hT' ht' (fun o ho => ?_)
          rcases List.mem_append.1 ho with ho | ho
          · exact h o ho
          · obtain rfl := List.mem_singleton.1 ho
            exact ⟨o1, h2⟩
        · exact good_snoc h o1
    · exact good_fine h
theorem slvOuts_fine (p : Prog) (top : Trm) (most fuel : Int) : OutsFine top (slvOuts p top most fuel).1 := by
  unfold slvOuts
  split
  · rename_i h
    simp only [Bool.and_eq_true] at h
    obtain ⟨h1, h2, h3⟩ := tNew_ok h.1.1 (node := -1) rfl h.1.2
    exact outsL_fine _ _ _ h1 h2 (fun o ho => by cases ho)
  · intro k o hk; simp at hk
end Go.Proofs.YtjglbadkbhopoaaGreatDoor
namespace Go.Proofs.YtjglbadkbhopoaaGreatDoor
set_option linter.unusedVariables false
def SzB (L : Nat) (s : TSt) : Prop := s.goals.length ≤ L ∧ ChB L s
theorem ChB.mono {L M : Nat} {s : TSt} (h : ChB L s) (hm : L ≤ M) : ChB M s := ⟨Nat.le_trans h.1 hm, fun c hc => Nat.le_trans (h.2 c hc) hm⟩
theorem SzB.mono {L M : Nat} {s : TSt} (h : SzB L s) (hm : L ≤ M) : SzB M s := ⟨Nat.le_trans h.1 hm, h.2.mono hm⟩
theorem end_sz (L : Nat) (s : TSt) (k : Int) : SzB L (tEnd s k) := ⟨Nat.zero_le _, Nat.zero_le _, fun c hc => by cases hc⟩
theorem meet_sz {L : Nat} {back : TSt → Option TSt} (hback : ∀ s0 r, ChB L s0 → back s0 = some r → SzB (L + 5) r) {s r : TSt} {a b : Trm} {goals : List SGoal} {more : Int} (hs : ChB L s) (hg : goals.length ≤ L + 5) (h : tMeet back s a b goals more = some r) : SzB (L + 5) r := by
  unfold tMeet at h
  split at h
  · obtain rfl := Option.some.inj h; exact end_sz _ _ _
  split at h
  · exact hback _ _ hs h
  · obtain rfl := Option.some.inj h
    exact ⟨hg, hs.mono (Nat.le_add_right _ _)⟩
theorem cl_len {p : Prog} (hp : prgOk p = true) (k : Nat) : (clAt p k).body.length ≤ 4 := by
  unfold clAt
  cases hx : p.cl[k]? with
  | none => exact Nat.zero_le _
  | some x => exact (cl_at hp (List.mem_of_getElem? hx)).2.2.1
theorem try_sz {L : Nat} {p : Prog} (hp : prgOk p = true) {back : TSt → Option TSt} (hback : ∀ s0 r, ChB L s0 → back s0 = some r → SzB (L + 5) r) {s r : TSt} {call : Trm} {rest : List SGoal} {k : Nat} (hs : ChB L s) (h1 : s.ch.length + 1 ≤ L) (hr : rest.length ≤ L) (h : tTryB back p s call rest k = some r) : SzB (L + 5) r := by
  unfold tTryB at h
  split at h
  · exact hback _ _ hs h
  split at h
  · obtain rfl := Option.some.inj h; exact end_sz _ _ _
  refine meet_sz hback ?_ ?_ h
  · unfold push
    split
    · refine ⟨by show (s.ch ++ [_]).length ≤ L; rw [List.length_append, List.length_singleton]; exact h1, fun c hc => ?_⟩
      have hc : c ∈ s.ch ++ [_] := hc
      rw [List.mem_append, List.mem_singleton] at hc
      rcases hc with hc | rfl
      · exact hs.2 c hc
      · exact hr
    · exact hs
  · have := cl_len hp (nextCl p call k)
    unfold behind
    rw [List.length_append, List.length_append, List.length_map, List.length_singleton]
    omega
theorem back_sz {L : Nat} {p : Prog} (hp : prgOk p = true) : ∀ (n : Nat) (s r : TSt), ChB L s → tBack n p s = some r → SzB (L + 5) r
  | 0, s, r, hs, h => by unfold tBack at h; cases h
  | n + 1, s, r, hs, h => by
    unfold tBack at h
    split at h
    · obtain rfl := Option.some.inj h; exact end_sz _ _ _
    · rename_i c hc
      have hcm := List.mem_of_getLast? hc
      split at h
      · obtain rfl := Option.some.inj h
        exact ⟨Nat.zero_le _, hs.mono (Nat.le_add_right _ _)⟩
      · have hpos : 0 < s.ch.length := List.length_pos_iff.2 (List.ne_nil_of_mem hcm)
        refine try_sz hp (fun s0 r0 h0 hr0 => back_sz hp n s0 r0 h0 hr0) ?_ ?_ (hs.2 c hcm) h
        · exact ⟨by show s.ch.dropLast.length ≤ L; have := hs.1; rw [List.length_dropLast]; omega, fun d hd => hs.2 d (List.dropLast_subset _ hd)⟩
        · show s.ch.dropLast.length + 1 ≤ L
          have := hs.1
          rw [List.length_dropLast]; omega
theorem step_sz {L n : Nat} {p : Prog} {node : Int} (hp : prgOk p = true) {s r : TSt} (h : SzB L s) (hs : tStepN n p node s = some r) : SzB (L + 6) r := by
  have hb : ∀ s0 r0, ChB L s0 → tBack n p s0 = some r0 → SzB (L + 5) r0 := fun s0 r0 => back_sz hp n s0 r0
  have h6 : L + 5 ≤ L + 6 := by omega
  unfold tStepN at hs
  split at hs
  · exact (hb _ _ h.2 hs).mono h6
  split at hs
  · obtain rfl := Option.some.inj hs; exact h.mono (by omega)
  split at hs
  · rename_i hg
    obtain rfl := Option.some.inj hs
    unfold tEmpty
    split
    · exact ⟨by show s.goals.length ≤ L + 6; have := h.1; omega, h.2.mono (Nat.le_add_right _ _)⟩
    · exact end_sz _ _ _
  · rename_i g rest hg
    have hr : rest.length ≤ L := by have := h.1; rw [hg, List.length_cons] at this; omega
    split at hs
    · unfold tCall at hs
      split at hs
      · split at hs
        · obtain rfl := Option.some.inj hs
          refine ⟨Nat.zero_le _, ?_, fun c hc => ?_⟩
          · show (s.ch ++ [_]).length ≤ _
            have := h.2.1
            rw [List.length_append, List.length_singleton]; omega
          · have hc : c ∈ s.ch ++ [_] := hc
            rw [List.mem_append, List.mem_singleton] at hc
            rcases hc with hc | rfl
            · have := h.2.2 c hc; omega
            · show rest.length ≤ _; omega
        · exact try_sz (L := L + 1) hp (fun s0 r0 => back_sz hp n s0 r0) (h.2.mono (by omega)) (by have := h.2.1; omega) (by omega) hs
      · obtain rfl := Option.some.inj hs; exact end_sz _ _ _
    split at hs
    · exact (meet_sz hb h.2 (by omega) hs).mono h6
    split at hs
    · unfold tReckon at hs
      split at hs
      · obtain rfl := Option.some.inj hs; exact end_sz _ _ _
      split at hs
      · exact (meet_sz hb h.2 (by omega) hs).mono h6
      split at hs
      · exact (hb _ _ h.2 hs).mono h6
      · obtain rfl := Option.some.inj hs
        exact ⟨by show rest.length ≤ _; omega, h.2.mono (Nat.le_add_right _ _)⟩
    split at hs
    · obtain rfl := Option.some.inj hs
      refine ⟨by show rest.length ≤ _; omega, ?_, fun c hc => ?_⟩
      · show (s.ch.take g.cut.toNat).length ≤ _
        have := h.2.1
        rw [List.length_take]; omega
      · have := h.2.2 c (List.mem_of_mem_take hc); omega
    split at hs
    · obtain rfl := Option.some.inj hs
      exact ⟨by show rest.length ≤ _; omega, h.2.mono (Nat.le_add_right _ _)⟩
    · obtain rfl := Option.some.inj hs; exact end_sz _ _ _
noncomputable def runL (p : Prog) : Nat → TSt → TSt × Nat
  | 0, s => (s, 0)
  | r + 1, s => if s.st = 1 then ((runL p r (tStep p (-1) s)).1, (runL p r (tStep p (-1) s)).2 + 1) else (s, 0)
theorem runL_not (p : Prog) (r : Nat) {s : TSt} (h : s.st ≠ 1) : runL p r s = (s, 0) := by
  cases r with
  | zero => rfl
  | succ r => unfold runL; rw [if_neg h]
theorem runL_le (p : Prog) : ∀ (r : Nat) (s : TSt), (runL p r s).2 ≤ r
  | 0, s => Nat.le_refl _
  | r + 1, s => by
    unfold runL
    split
    · have := runL_le p r (tStep p (-1) s); dsimp only; omega
    · exact Nat.zero_le _
noncomputable def fin4 (p : Prog) (most : Int) (r : Nat) (x : TSt × Nat) (outs : List SOut) : List SOut × Nat :=
  if x.1.st = 1 then (outs, x.2) else if x.1.st = 2 then ((outsL p most (r - x.2) x.1 (outs ++ [(x.1.st, x.1.out)])).1, (outsL p most (r - x.2) x.1 (outs ++ [(x.1.st, x.1.out)])).2 + x.2)
  else (outs ++ [(x.1.st, x.1.out)], x.2)
theorem outsL_step (p : Prog) {most : Int} {r : Nat} {s : TSt} {outs : List SOut} (hm : (outs.length : Int) < most)
    (h : (tStep p (-1) s).st = 1 → outsL p most r (tStep p (-1) s) outs = fin4 p most r (runL p r (tStep p (-1) s)) outs) :
    outsL p most (r + 1) s outs = ((fin4 p most r (runL p r (tStep p (-1) s)) outs).1, (fin4 p most r (runL p r (tStep p (-1) s)) outs).2 + 1) := by
  conv => lhs; unfold outsL
  rw [if_pos hm]
  by_cases h1 : (tStep p (-1) s).st = 1
  · rw [if_pos h1, h h1]
  · rw [if_neg h1, runL_not p r h1]
    unfold fin4
    rw [if_neg h1]
    by_cases h2 : (tStep p (-1) s).st = 2
    · rw [if_pos h2, if_pos h2]; rfl
    · rw [if_neg h2, if_neg h2]
theorem outsL_run (p : Prog) {most : Int} : ∀ (r : Nat) (s : TSt) (outs : List SOut), s.st = 1 → (outs.length : Int) < most → outsL p most r s outs = fin4 p most r (runL p r s) outs
  | 0, s, outs, h1, hm => by unfold outsL runL fin4; rw [if_pos h1]
  | r + 1, s, outs, h1, hm => by
    rw [outsL_step p hm (fun h => outsL_run p r _ outs h hm)]
    conv => rhs; unfold runL
    rw [if_pos h1]
    unfold fin4
    dsimp only
    split
    · rfl
    · split
      · rw [show r + 1 - ((runL p r (tStep p (-1) s)).2 + 1) = r - (runL p r (tStep p (-1) s)).2 by omega]
        simp only [Nat.add_assoc]
      · rfl
theorem run_tok {p : Prog} (hp : prgOk p = true) : ∀ (r : Nat) (s : TSt), Tok true p (-1) s → Tok true p (-1) (runL p r s).1 ∧ (runL p r s).1.top = s.top
  | 0, s, h => ⟨h, rfl⟩
  | r + 1, s, h => by
    unfold runL
    split
    · have h1 := prgOk_nd hp h rfl
      have h2 := run_tok hp r _ h1.1
      exact ⟨h2.1, h2.2.trans h1.2⟩
    · exact ⟨h, rfl⟩

theorem run_sz {p : Prog} (hp : prgOk p = true) : ∀ (r : Nat) (s : TSt) (L : Nat), SzB L s → SzB (L + 6 * (runL p r s).2) (runL p r s).1
  | 0, s, L, h => by simpa [runL] using h
  | r + 1, s, L, h => by
    unfold runL
    split
    · have h1 := step_sz hp h (tStep_eq p (-1) s)
      have h2 := run_sz hp r (tStep p (-1) s) (L + 6) h1
      dsimp only
      rwa [show L + 6 * ((runL p r (tStep p (-1) s)).2 + 1) = L + 6 + 6 * (runL p r (tStep p (-1) s)).2 by omega]
    · simpa using h
theorem run_pos {p : Prog} : ∀ {r : Nat} {s : TSt}, s.st = 1 → 0 < r → 0 < (runL p r s).2
  | 0, s, _, h => by omega
  | r + 1, s, h1, _ => by unfold runL; rw [if_pos h1]; exact Nat.succ_pos _
theorem run_all {p : Prog} : ∀ {r : Nat} {s : TSt}, (runL p r s).1.st = 1 → (runL p r s).2 = r
  | 0, s, _ => rfl
  | r + 1, s, h => by
    unfold runL at h ⊢
    split at h
    · rename_i h1
      rw [if_pos h1]
      dsimp only at h ⊢
      rw [run_all h]
    · rename_i h1
      exact absurd h h1
theorem tok_len {q : Bool} {p : Prog} {node : Int} {s : TSt} (h : Tok q p node s) : s.out.length ≤ 40 := by
  rcases h with ⟨-, -, hn, -⟩ | ⟨hi, -, hst⟩
  · unfold nothing at hn
    simp only [Bool.and_eq_true] at hn
    rw [nil_of_empty hn.1.2]; exact Nat.zero_le _
  · unfold statOk at hst
    split at hst
    · rw [nil_of_empty hst]; exact Nat.zero_le _
    split at hst
    · unfold ansOk at hst
      simp only [Bool.and_eq_true, decide_eq_true_eq] at hst
      rw [hst.2]
      unfold canon
      rw [List.length_map]
      exact hst.1.2
    split at hst
    · unfold waitsOk at hst
      simp only [Bool.and_eq_true] at hst
      rw [nil_of_empty hst.1.2]; exact Nat.zero_le _
    · cases hst
end Go.Proofs.YtjglbadkbhopoaaGreatDoor
