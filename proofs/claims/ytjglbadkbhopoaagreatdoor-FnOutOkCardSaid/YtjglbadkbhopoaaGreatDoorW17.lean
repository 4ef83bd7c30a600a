/- Lemmas and contracts for FnOutOk, part 17. -/
import Derived.Test.YtjglbadkbhopoaaGreatDoorW15
import Derived.Test.YtjglbadkbhopoaaGreatDoorW09
import Derived.Test.YtjglbadkbhopoaaGreatDoorW16
import Derived.Test.YtjglbadkbhopoaaGreatDoorW07
import Derived.Test.YtjglbadkbhopoaaGreatDoorW08
namespace Go.Proofs.YtjglbadkbhopoaaGreatDoor
open Go.RowKit
set_option maxRecDepth 100000
set_option maxHeartbeats 8000000
set_option linter.unusedVariables false
theorem AppI.clause' : AppI Tryz.prog 55 126 Kd.clause := ⟨Tryz.underlying55, ⟨.agg #[.slice none 0 0, .slice none 0 0], 48, by kernel_rfl, rfl, by decide⟩, by decide, fun q hq => by
  have : q = 47 ∨ q = 160 := by simpa [Kd.clause] using hq
  rcases this with rfl | rfl <;> decide⟩
theorem AppI.place' : AppI Tryz.prog 56 121 Kd.place := ⟨Tryz.underlying56, ⟨.agg #[.string ByteArray.empty, .int .i64 0, .int .i64 0], 32, by kernel_rfl, rfl, by decide⟩, by decide, fun q hq => by simp [Kd.place] at hq⟩
def PgP (w : World) (e : Ending) (w' : World) : Prop := ∃ (p : Prog) (p1 p2 : Value) (n : Int), e = .returned (.tuple #[.agg #[p1, p2], .int .i64 n]) ∧ PrR w' p p1 p2 ∧ prgOk p = true ∧ fitP p ∧ Below w.heap.size w w' ∧ Kd.clause.O 126 w' w.heap.size p1 p.cl ∧ Kd.place.O 121 w' w.heap.size p2 p.pl
theorem pgP_zero {w W : World} {v : Value} {n : Int} (hv : v = .agg #[.slice none 0 0, .slice none 0 0]) (hb : Below w.heap.size w W) : PgP w (.returned (.tuple #[v, .int .i64 n])) W := by
  subst hv
  exact ⟨⟨[], []⟩, _, _, _, rfl, ⟨Kd.S_nil _ _ _, Kd.S_nil _ _ _⟩, rfl, ⟨Nat.zero_le _, fun c hc => (by cases hc), Nat.zero_le _, fun c hc => (by cases hc)⟩, hb, Kd.O_nil _ _ _ _, Kd.O_nil _ _ _ _⟩
theorem ok_lens {p : Prog} (h : prgOk p = true) : p.cl.length ≤ 12 ∧ p.pl.length ≤ 6 := by
  unfold prgOk at h
  simp only [Bool.and_eq_true, decide_eq_true_eq] at h
  exact ⟨h.1.1.1, h.1.1.2⟩
theorem parse_c (lines : List ByteArray) (lv : Value) (w : World) (hl : Kd.str.S 9 w lv lines) (hn : lines.length ≤ 1000) (hs : ∀ x ∈ lines, x.size ≤ 100000) : Calls Tryz.prog 65 #[lv] w (PgP w) := by
  have HL := Lib.hid hl
  have HS := Lib.hid hs
  obtain ⟨LA, ln, rfl, -, -, -⟩ := hl
  clear hs
  have HB0 := Lib.hid (bel_alloc (bel_alloc (Below.refl w.heap.size w) (.cells #[.slice none 0 0, .slice none 0 0] 58)) (.cells #[.slice none 0 0, .slice none 0 0] 58))
  have HR0 := Lib.hid (bx2a w 58 58 #[.slice none 0 0, .slice none 0 0] #[.slice none 0 0, .slice none 0 0])
  have HP0 := Lib.hid (bx2b w 58 58 #[.slice none 0 0, .slice none 0 0] #[.slice none 0 0, .slice none 0 0])
  have HPl := Lib.hid (fun (u : ByteArray) (hu : u.size ≤ 100000) W => rplace_c u W hu)
  have HCr := Lib.hid (fun (u : ByteArray) (hu : u.size ≤ 100000) W => pread_c u W hu)
  go_enter Tryz.func65, Tryz.ntmps65
  go_wp2
  go_loopw [5] (fun v5 wr => ∃ (k : Nat) (cl : List Clause) (pl : List Place) (CA : Option Addr) (cn : Nat) (PA : Option Addr) (pn : Nat), v5 = .int .i64 (k : Int) ∧ k ≤ lines.length ∧ Hid (prgOk ⟨cl, pl⟩ = true) ∧ Hid (Kd.clause.O 126 wr w.heap.size (.slice CA cl.length cn) cl) ∧ Hid (Kd.place.O 121 wr w.heap.size (.slice PA pl.length pn) pl) ∧ Hid (fitP ⟨cl, pl⟩) ∧ Hid (Bx wr (w.heap.size + 1) 58 #[.slice CA cl.length cn, .slice PA pl.length pn]) ∧ Hid (Bx wr w.heap.size 58 #[.slice none 0 0, .slice none 0 0]) ∧ Hid (Below w.heap.size w wr)) (fun v5 _ => lines.length - (intOf v5).toNat)
  case atStart => exact ⟨0, [], [], _, _, _, _, rfl, Nat.zero_le _, Lib.hid rfl, Lib.hid (Kd.O_nil _ _ _ _), Lib.hid (Kd.O_nil _ _ _ _), Lib.hid ⟨Nat.zero_le _, fun c hc => (by cases hc), Nat.zero_le _, fun c hc => (by cases hc)⟩, HP0, HR0, HB0⟩
  case round =>
    obtain ⟨k, cl, pl, CA, cn, PA, pn, rfl, hk, HKr, HOr, HQr, HFr, HXr, HRr, HBr⟩ := hrel
    clear HB0 HR0 HP0
    obtain ⟨hc12, hp6⟩ : cl.length ≤ 12 ∧ pl.length ≤ 6 := ok_lens HKr.out
    have x0 := Bx.at' HXr.out 0 (.slice CA cl.length cn) rfl
    have x1 := Bx.at' HXr.out 1 (.slice PA pl.length pn) rfl
    by_cases hlt : ¬ k < lines.length
    · obtain ⟨m0, m1, m2, m3, HE⟩ := put_2 HRr.out (.slice CA cl.length cn) (.slice PA pl.length pn)
      go_wp2
      refine ret_cell_tmp rfl rfl HE.out.1 Tryz.underlying58 rfl (by kernel_rfl) rfl ?_
      exact ⟨⟨cl, pl⟩, _, _, _, rfl, ⟨HE.out.2.1.S (Kd.O_read HOr.out) (by decide), HE.out.2.1.S (Kd.O_read HQr.out) (by decide)⟩, HKr.out, HFr.out, HE.out.2.2 w.heap.size w (Nat.le_refl _) HBr.out, HE.out.2.1.O HOr.out (by decide), HE.out.2.1.O HQr.out (by decide)⟩
    have hlt : k < lines.length := Decidable.of_not_not hlt
    obtain ⟨x, hx⟩ : ∃ x, lines[k]? = some x := ⟨_, List.getElem?_eq_getElem hlt⟩
    have hxs := HS.out x (List.mem_of_getElem? hx)
    obtain ⟨A', c', ev, _, _, hC⟩ := HL.out
    injection ev with v1 v2 v3
    obtain ⟨ad, hAA, xc0⟩ := str_at hC hx
    have xc := cell_keep HBr.out xc0
    obtain rfl := v1.trans hAA
    have HXC := Lib.hid (fun W (hb : Below w.heap.size w W) => cell_keep hb xc0)
    clear v1 v2 v3 hC hx hAA xc0
    go_upto_region 6 with (first | (go_at_call 92; (with_reducible refine (HPl.out _ hxs _).mono ?_); rintro e w1 ⟨y, ok, rfl, hy, hb'⟩; have HYs := Lib.hid hy; have HO1 := Lib.hid (Kd.O_alloc (.cells #[.string y.name, .int .i64 y.n, .int .i64 y.node] 121) (Kd.O_ext hb' HOr.out)); have HQ1 := Lib.hid (Kd.O_alloc (.cells #[.string y.name, .int .i64 y.n, .int .i64 y.node] 121) (Kd.O_ext hb' HQr.out)); have HX1 := Lib.hid (Bx.alloc (Bx.below HXr.out hb') (.cells #[.string y.name, .int .i64 y.n, .int .i64 y.node] 121)); have HR1 := Lib.hid (Bx.alloc (Bx.below HRr.out hb') (.cells #[.string y.name, .int .i64 y.n, .int .i64 y.node] 121)); have HB1 := Lib.hid (bel_alloc (bel_trans HBr.out hb') (.cells #[.string y.name, .int .i64 y.n, .int .i64 y.node] 121)); have HY1 := Lib.hid (Bx.new w1 121 #[.string y.name, .int .i64 y.n, .int .i64 y.node]); clear hy hb') | fail)
    generalize w1.alloc (.cells #[.string y.name, .int .i64 y.n, .int .i64 y.node] 121) = w2 at *
    clear x0 x1 xc HOr HQr HXr HRr HBr
    have x0 := Bx.at' HX1.out 0 (.slice CA cl.length cn) rfl
    have x1 := Bx.at' HX1.out 1 (.slice PA pl.length pn) rfl
    have xc := HXC.out _ HB1.out
    have y0 := Bx.at' HY1.out 0 (.string y.name) rfl
    have y1 := Bx.at' HY1.out 1 (.int .i64 y.n) rfl
    have y2 := Bx.at' HY1.out 2 (.int .i64 y.node) rfl
    by_cases hpl : ok = true ∧ cl.length = 0
    · obtain ⟨rfl, hc0⟩ := hpl
      have fc : ((cl.length : Int) == 0) = true := beq_iff_eq.2 (by omega)
      clear hc0
      go_upto_region 12 with (first | (at_builtin; refine wp_app AppI.place' rfl rfl (Kd.O_alloc _ HQ1.out) rfl (Kd.S_lit Kd.place _ (x := y) (cs := [.string y.name, .int .i64 y.n, .int .i64 y.node]) rfl rfl) rfl (by simp only [List.length_singleton]; omega) (Nat.le_trans HB1.out.size (bel_alloc (Below.refl _ _) _).size) ?_; intro v7 w7 hg; have hwg := Wrote.grew hg (Kd.O_alloc _ HQ1.out) (Nat.le_trans HB1.out.size (bel_alloc (Below.refl _ _) _).size); have hO7 := hg.own; obtain ⟨P2, hP2⟩ : ∃ P2, pl ++ [y] = P2 := ⟨_, rfl⟩; rw [hP2] at hO7; have HZ2 := Lib.hid hP2; obtain ⟨PB, pm, rfl, -, -, -⟩ := Kd.O_read hO7; have HX7 := Lib.hid (Bx.but (Bx.alloc HX1.out (.cells #[.string y.name, .int .i64 y.n, .int .i64 y.node] 121)) hwg.but (by decide)); have HR7 := Lib.hid (Bx.but (Bx.alloc HR1.out (.cells #[.string y.name, .int .i64 y.n, .int .i64 y.node] 121)) hwg.but (by decide)); have HO7 := Lib.hid (hwg.O (Kd.O_alloc (.cells #[.string y.name, .int .i64 y.n, .int .i64 y.node] 121) HO1.out) (by decide)); have HB7 := Lib.hid ((bel_alloc HB1.out (.cells #[.string y.name, .int .i64 y.n, .int .i64 y.node] 121)).trans hwg.bel); have s7 := Bx.at' HX7.out 1 (.slice PA pl.length pn) rfl; have f7 := Bx.free HX7.out 1; have HX8 : Hid (Bx _ (w.heap.size + 1) 58 #[.slice CA cl.length cn, .slice PB P2.length pm]) := Lib.hid (Bx.put HX7.out 1 (.slice PB P2.length pm)); have hk8 := bx_but (j := 1) (u := .slice PB P2.length pm) HX7.out; have HR8 := Lib.hid (Bx.far HR7.out (g' := w.heap.size + 1) (by omega) 1 (.slice PB P2.length pm)); have HO8 := Lib.hid (hk8.O HO7.out (by decide)); have HQ8 := Lib.hid (hk8.O hO7 (by decide)); have HB8 := Lib.hid (show Below w.heap.size w (w7.setCell ⟨w.heap.size + 1, 1, none⟩ (.slice PB P2.length pm)) from HB7.out.setCell (Nat.le_succ _) _); clear hg hwg hO7 hP2 hk8) | fail)
      clear s7 f7 HX7 HR7 HO7 HB7 x0 x1 y0 y1 y2
      generalize World.setCell _ _ _ = w8 at *
      have z0 := Bx.at' HX8.out 0 (.slice CA cl.length cn) rfl
      have z1 := Bx.at' HX8.out 1 (.slice PB P2.length pm) rfl
      have HF8 := Lib.hid (show fitP ⟨cl, P2⟩ from ⟨by show cl.length ≤ _; omega, HFr.out.2.1, by show P2.length ≤ _; rw [← HZ2.out, List.length_append, List.length_singleton]; omega, fun z hz => by
        have hz : z ∈ P2 := hz
        rw [← HZ2.out, List.mem_append, List.mem_singleton] at hz
        rcases hz with hz | rfl
        · exact HFr.out.2.2.2 z hz
        · exact Nat.le_trans HYs.out (by decide)⟩)
      have HOk := Lib.hid (prgOkS_c ⟨cl, P2⟩ _ _ w8 (Kd.O_read HO8.out) (Kd.O_read HQ8.out) HF8.out)
      cases hok : prgOk ⟨cl, P2⟩ with
      | false =>
        rw [hok] at HOk
        clear hok
        go_upto_region 13 with (first | (go_at_call 94; (with_reducible refine HOk.out.mono ?_); rintro e w9 ⟨rfl, hb'⟩; have HO9 := Lib.hid (Kd.O_ext hb' HO8.out); have HQ9 := Lib.hid (Kd.O_ext hb' HQ8.out); have HX9 := Lib.hid (Bx.below HX8.out hb'); have HR9 := Lib.hid (Bx.below HR8.out hb'); have HB9 := Lib.hid (bel_trans HB8.out hb'); clear hb') | fail)
        obtain ⟨m0, m1, m2, m3, HE⟩ := put_2 HR9.out (.slice none 0 0) (.slice none 0 0)
        go_wp2
        refine ret_cell_tmp rfl rfl HE.out.1 Tryz.underlying58 rfl (by kernel_rfl) rfl ?_
        exact pgP_zero rfl (HE.out.2.2 w.heap.size w (Nat.le_refl _) HB9.out)
      | true =>
        rw [hok] at HOk
        have HK9 := Lib.hid hok
        clear hok
        go_wp2_with (first | (go_at_call 94; (with_reducible refine HOk.out.mono ?_); rintro e w9 ⟨rfl, hb'⟩; have HO9 := Lib.hid (Kd.O_ext hb' HO8.out); have HQ9 := Lib.hid (Kd.O_ext hb' HQ8.out); have HX9 := Lib.hid (Bx.below HX8.out hb'); have HR9 := Lib.hid (Bx.below HR8.out hb'); have HB9 := Lib.hid (bel_trans HB8.out hb'); clear hb') | fail)
        exact ⟨⟨k + 1, cl, P2, _, _, _, _, by go_num, by omega, HK9, HO9, HQ9, HF8, HX9, HR9, HB9⟩, by simp [intOf]; omega⟩
    have hcase : ok = false ∨ (ok = true ∧ cl.length ≠ 0) := by
      cases ok with
      | false => exact .inl rfl
      | true => exact .inr ⟨rfl, fun h => hpl ⟨rfl, h⟩⟩
    clear hpl
    rcases hcase with rfl | ⟨rfl, hc0⟩
    all_goals
      try have fc : ((cl.length : Int) == 0) = false := beq_eq_false_iff_ne.2 (by omega)
      try clear hc0
      go_upto_region 9 with (first | (go_at_call 93; (with_reducible refine (HCr.out _ hxs _).mono ?_); rintro e w3 ⟨x2, hv, bv, fi, rfl, h1, h2, hf, hb'⟩; have HF3 := Lib.hid hf; have HH3 := Lib.hid (Kd.S_ext (bel_alloc (Below.refl _ w3) (.cells #[hv, bv] 126)) h1); have HG3 := Lib.hid (Kd.S_ext (bel_alloc (Below.refl _ w3) (.cells #[hv, bv] 126)) h2); obtain ⟨HA, hn2, rfl, -, -, -⟩ := h1; obtain ⟨BA, bn2, rfl, -, -, -⟩ := h2; have HO3 := Lib.hid (Kd.O_alloc (.cells #[.slice HA x2.head.length hn2, .slice BA x2.body.length bn2] 126) (Kd.O_ext hb' HO1.out)); have HQ3 := Lib.hid (Kd.O_alloc (.cells #[.slice HA x2.head.length hn2, .slice BA x2.body.length bn2] 126) (Kd.O_ext hb' HQ1.out)); have HX3 := Lib.hid (Bx.alloc (Bx.below HX1.out hb') (.cells #[.slice HA x2.head.length hn2, .slice BA x2.body.length bn2] 126)); have HR3 := Lib.hid (Bx.alloc (Bx.below HR1.out hb') (.cells #[.slice HA x2.head.length hn2, .slice BA x2.body.length bn2] 126)); have HB3 := Lib.hid (bel_alloc (bel_trans HB1.out hb') (.cells #[.slice HA x2.head.length hn2, .slice BA x2.body.length bn2] 126)); have HC3 := Lib.hid (Bx.new w3 126 #[.slice HA x2.head.length hn2, .slice BA x2.body.length bn2]); clear hf hb') | fail)
      generalize w3.alloc (.cells #[.slice HA x2.head.length hn2, .slice BA x2.body.length bn2] 126) = w4 at *
      clear x0 x1 y0 y1 y2
      have x0 := Bx.at' HX3.out 0 (.slice CA cl.length cn) rfl
      have c0 := Bx.at' HC3.out 0 (.slice HA x2.head.length hn2) rfl
      have c1 := Bx.at' HC3.out 1 (.slice BA x2.body.length bn2) rfl
      cases fi with
      | false =>
        obtain ⟨m0, m1, m2, m3, HE⟩ := put_2 HR3.out (.slice none 0 0) (.slice none 0 0)
        go_wp2
        refine ret_cell_tmp rfl rfl HE.out.1 Tryz.underlying58 rfl (by kernel_rfl) rfl ?_
        exact pgP_zero rfl (HE.out.2.2 w.heap.size w (Nat.le_refl _) HB3.out)
      | true =>
        go_upto_region 12 with (first | (at_builtin; refine wp_app AppI.clause' rfl rfl (Kd.O_alloc _ HO3.out) rfl (Kd.S_lit Kd.clause _ (x := x2) (cs := [.slice HA x2.head.length hn2, .slice BA x2.body.length bn2]) ⟨_, _, rfl, HH3.out, HG3.out⟩ rfl) rfl (by simp only [List.length_singleton]; omega) (Nat.le_trans HB3.out.size (bel_alloc (Below.refl _ _) _).size) ?_; intro v7 w7 hg; have hwg := Wrote.grew hg (Kd.O_alloc _ HO3.out) (Nat.le_trans HB3.out.size (bel_alloc (Below.refl _ _) _).size); have hO7 := hg.own; obtain ⟨C2, hC2⟩ : ∃ C2, cl ++ [x2] = C2 := ⟨_, rfl⟩; rw [hC2] at hO7; have HZ2 := Lib.hid hC2; obtain ⟨CB, cm, rfl, -, -, -⟩ := Kd.O_read hO7; have HX7 := Lib.hid (Bx.but (Bx.alloc HX3.out (.cells #[.slice HA x2.head.length hn2, .slice BA x2.body.length bn2] 126)) hwg.but (by decide)); have HR7 := Lib.hid (Bx.but (Bx.alloc HR3.out (.cells #[.slice HA x2.head.length hn2, .slice BA x2.body.length bn2] 126)) hwg.but (by decide)); have HQ7 := Lib.hid (hwg.O (Kd.O_alloc (.cells #[.slice HA x2.head.length hn2, .slice BA x2.body.length bn2] 126) HQ3.out) (by decide)); have HB7 := Lib.hid ((bel_alloc HB3.out (.cells #[.slice HA x2.head.length hn2, .slice BA x2.body.length bn2] 126)).trans hwg.bel); have s7 := Bx.at' HX7.out 0 (.slice CA cl.length cn) rfl; have f7 := Bx.free HX7.out 0; have HX8 : Hid (Bx _ (w.heap.size + 1) 58 #[.slice CB C2.length cm, .slice PA pl.length pn]) := Lib.hid (Bx.put HX7.out 0 (.slice CB C2.length cm)); have hk8 := bx_but (j := 0) (u := .slice CB C2.length cm) HX7.out; have HR8 := Lib.hid (Bx.far HR7.out (g' := w.heap.size + 1) (by omega) 0 (.slice CB C2.length cm)); have HQ8 := Lib.hid (hk8.O HQ7.out (by decide)); have HO8 := Lib.hid (hk8.O hO7 (by decide)); have HB8 := Lib.hid (show Below w.heap.size w (w7.setCell ⟨w.heap.size + 1, 0, none⟩ (.slice CB C2.length cm)) from HB7.out.setCell (Nat.le_succ _) _); clear hg hwg hO7 hC2 hk8) | fail)
        clear s7 f7 HX7 HR7 HQ7 HB7 x0 c0 c1
        generalize World.setCell _ _ _ = w8 at *
        have z0 := Bx.at' HX8.out 0 (.slice CB C2.length cm) rfl
        have z1 := Bx.at' HX8.out 1 (.slice PA pl.length pn) rfl
        have HF8 := Lib.hid (show fitP ⟨C2, pl⟩ from ⟨by show C2.length ≤ _; rw [← HZ2.out, List.length_append, List.length_singleton]; omega, fun z hz => by
          have hz : z ∈ C2 := hz
          rw [← HZ2.out, List.mem_append, List.mem_singleton] at hz
          rcases hz with hz | rfl
          · exact HFr.out.2.1 z hz
          · exact HF3.out, by show pl.length ≤ _; omega, HFr.out.2.2.2⟩)
        have HOk := Lib.hid (prgOkS_c ⟨C2, pl⟩ _ _ w8 (Kd.O_read HO8.out) (Kd.O_read HQ8.out) HF8.out)
        cases hok : prgOk ⟨C2, pl⟩ with
        | false =>
          rw [hok] at HOk
          clear hok
          go_upto_region 13 with (first | (go_at_call 94; (with_reducible refine HOk.out.mono ?_); rintro e w9 ⟨rfl, hb'⟩; have HO9 := Lib.hid (Kd.O_ext hb' HO8.out); have HQ9 := Lib.hid (Kd.O_ext hb' HQ8.out); have HX9 := Lib.hid (Bx.below HX8.out hb'); have HR9 := Lib.hid (Bx.below HR8.out hb'); have HB9 := Lib.hid (bel_trans HB8.out hb'); clear hb') | fail)
          obtain ⟨m0, m1, m2, m3, HE⟩ := put_2 HR9.out (.slice none 0 0) (.slice none 0 0)
          go_wp2
          refine ret_cell_tmp rfl rfl HE.out.1 Tryz.underlying58 rfl (by kernel_rfl) rfl ?_
          exact pgP_zero rfl (HE.out.2.2 w.heap.size w (Nat.le_refl _) HB9.out)
        | true =>
          rw [hok] at HOk
          have HK9 := Lib.hid hok
          clear hok
          go_wp2_with (first | (go_at_call 94; (with_reducible refine HOk.out.mono ?_); rintro e w9 ⟨rfl, hb'⟩; have HO9 := Lib.hid (Kd.O_ext hb' HO8.out); have HQ9 := Lib.hid (Kd.O_ext hb' HQ8.out); have HX9 := Lib.hid (Bx.below HX8.out hb'); have HR9 := Lib.hid (Bx.below HR8.out hb'); have HB9 := Lib.hid (bel_trans HB8.out hb'); clear hb') | fail)
          exact ⟨⟨k + 1, C2, pl, _, _, _, _, by go_num, by omega, HK9, HO9, HQ9, HF8, HX9, HR9, HB9⟩, by simp [intOf]; omega⟩
end Go.Proofs.YtjglbadkbhopoaaGreatDoor
namespace Go.Proofs.YtjglbadkbhopoaaGreatDoor
open Go.RowKit
set_option maxRecDepth 100000
set_option maxHeartbeats 4000000
set_option linter.unusedVariables false
def tSmall (t : Trm) : Prop := t.length ≤ 40 ∧ ∀ x ∈ t, -1000000000 ≤ x.n ∧ x.n ≤ 1000000000
theorem small_inCl {t : Trm} (h : inCl t = true) : tSmall t := by
  unfold inCl at h
  simp only [Bool.and_eq_true] at h
  exact ⟨(trmOk_iff.1 h.1.1).2.1, n_small h.1.1⟩
theorem small_nil : tSmall [] := ⟨by simp, fun x hx => by cases hx⟩
theorem goal_small {g : Goal} (h : goalOk g.k g.a g.b g.c = true) : tSmall g.a ∧ tSmall g.b ∧ tSmall g.c := by
  have e0 : ∀ t : Trm, ((t.length : Int) == 0) = true → tSmall t := fun t ht => by
    have : t = [] := List.eq_nil_of_length_eq_zero (by have := beq_iff_eq.1 ht; omega)
    rw [this]; exact small_nil
  unfold goalOk at h
  split at h
  · simp only [Bool.and_eq_true] at h
    have h2 : ((g.b.length : Int) + (g.c.length : Int) == 0) = true := h.2
    have h2 := beq_iff_eq.1 h2
    exact ⟨small_inCl h.1.1, e0 _ (beq_iff_eq.2 (by omega)), e0 _ (beq_iff_eq.2 (by omega))⟩
  · split at h
    · have h := beq_iff_eq.1 h
      exact ⟨e0 _ (beq_iff_eq.2 (by omega)), e0 _ (beq_iff_eq.2 (by omega)), e0 _ (beq_iff_eq.2 (by omega))⟩
    · split at h
      · simp only [Bool.and_eq_true] at h
        exact ⟨small_inCl h.1.1, small_inCl h.1.2, e0 _ h.2⟩
      · split at h
        · simp only [Bool.and_eq_true] at h
          exact ⟨small_inCl h.1.1, small_inCl h.1.2, small_inCl h.2⟩
        · cases h
theorem shiftG_c (body : List Goal) (n cut : Int) (bv : Value) (w : World) (hb : Kd.goal.S 160 w bv body) (hl : body.length ≤ 1000) (hs : ∀ g ∈ body, tSmall g.a ∧ tSmall g.b ∧ tSmall g.c) (hn : 0 ≤ n ∧ n ≤ 100000) :
    Calls Tryz.prog 163 #[bv, .int .i64 n, .int .i64 cut] w fun e w' => ∃ v, e = .returned v ∧ Kd.sgoal.O 168 w' w.heap.size v (body.map (shiftG n cut)) ∧ Below w.heap.size w w' := by
  have HS := Lib.hid hb
  have HF := Lib.hid hs
  obtain ⟨A, c, rfl, a1, a2, -⟩ := hb
  clear hs
  go_enter Tryz.func163, Tryz.ntmps163
  go_wp2
  go_loopw [7, 8] (fun v7 v8 wr => ∃ k : Nat, v8 = .int .i64 k ∧ k ≤ body.length ∧ Hid (Kd.sgoal.O 168 wr w.heap.size v7 ((body.take k).map (shiftG n cut))) ∧ Hid (Below w.heap.size w wr)) (fun _ v8 _ => body.length - (intOf v8).toNat)
  case atStart => exact ⟨0, rfl, Nat.zero_le _, Lib.hid (Kd.O_empty _ _ w (Nat.le_refl _)), Lib.hid (bel_alloc (Below.refl _ _) _)⟩
  case round =>
    obtain ⟨k, rfl, hk, HOr, HBr⟩ := hrel
    obtain ⟨OB, oc, rfl, p1, p2, -⟩ := Kd.O_read HOr.out
    by_cases hlt : k < body.length
    · obtain ⟨x, hc⟩ : ∃ x, body[k]? = some x := ⟨_, List.getElem?_eq_getElem hlt⟩
      obtain ⟨A0, c0, ev0, q1, q2, hC0⟩ := HS.out
      injection ev0 with u1 u2 u3
      obtain ⟨ad, av, bv, cv, had, y0, y1, y2, y3, ha, hb, hcc⟩ := goal_at hC0 hc
      have had2 := u1.trans had
      obtain ⟨s1, s2, s3⟩ := HF.out x (List.mem_of_getElem? hc)
      have HA := Lib.hid (fun W (hb' : Below w.heap.size w W) => shiftS_c x.a av n W (Kd.S_ext hb' ha) (by have := s1.1; omega) (by omega) (by omega) s1.2)
      have HB := Lib.hid (fun W (hb' : Below w.heap.size w W) => shiftS_c x.b bv n W (Kd.S_ext hb' hb) (by have := s2.1; omega) (by omega) (by omega) s2.2)
      have HC := Lib.hid (fun W (hb' : Below w.heap.size w W) => shiftS_c x.c cv n W (Kd.S_ext hb' hcc) (by have := s3.1; omega) (by omega) (by omega) s3.2)
      have y0 := cell_keep HBr.out y0
      have y1 := cell_keep HBr.out y1
      have y2 := cell_keep HBr.out y2
      have y3 := cell_keep HBr.out y3
      have htk0 : (body.take (k + 1)).map (shiftG n cut) = (body.take k).map (shiftG n cut) ++ [shiftG n cut x] := by rw [List.take_succ_eq_append_getElem hlt, (List.getElem?_eq_some_iff.1 hc).2, List.map_append]; rfl
      have htl0 : ((body.take k).map (shiftG n cut)).length ≤ 1000 := by rw [List.length_map, List.length_take]; omega
      obtain ⟨L0, hL0⟩ : ∃ L0, (body.take k).map (shiftG n cut) = L0 := ⟨_, rfl⟩
      rw [hL0] at htk0 HOr p1 htl0 ⊢
      have htk := Lib.hid htk0
      have HTl := Lib.hid htl0
      clear hL0 htk0 htl0
      clear u1 u2 u3 had hC0 hc s1 s2 s3 ha hb hcc
      subst had2
      have hst : ∀ W1 W2, Below W1.heap.size W1 W2 → (W1.cell? (ad.add (k * 4)) = some (.int .i64 x.k) ∧ W1.cell? ⟨(ad.add (k * 4)).block, (ad.add (k * 4)).off + 1, none⟩ = some av ∧ W1.cell? ⟨(ad.add (k * 4)).block, (ad.add (k * 4)).off + 2, none⟩ = some bv ∧ W1.cell? ⟨(ad.add (k * 4)).block, (ad.add (k * 4)).off + 3, none⟩ = some cv ∧ Hid (Below wr.heap.size wr W1)) → (W2.cell? (ad.add (k * 4)) = some (.int .i64 x.k) ∧ W2.cell? ⟨(ad.add (k * 4)).block, (ad.add (k * 4)).off + 1, none⟩ = some av ∧ W2.cell? ⟨(ad.add (k * 4)).block, (ad.add (k * 4)).off + 2, none⟩ = some bv ∧ W2.cell? ⟨(ad.add (k * 4)).block, (ad.add (k * 4)).off + 3, none⟩ = some cv ∧ Hid (Below wr.heap.size wr W2)) := fun W1 W2 hb h => ⟨cell_keep hb h.1, cell_keep hb h.2.1, cell_keep hb h.2.2.1, cell_keep hb h.2.2.2.1, Lib.hid (bel_trans h.2.2.2.2.out hb)⟩
      go_upto_region 5 with (fail)
      have hS0 := hst wr wr.drew (bel_drew (Below.refl _ _)) ⟨y0, y1, y2, y3, Lib.hid (Below.refl _ _)⟩
      go_region_held3 (fun W => W.cell? (ad.add (k * 4)) = some (.int .i64 x.k) ∧ W.cell? ⟨(ad.add (k * 4)).block, (ad.add (k * 4)).off + 1, none⟩ = some av ∧ W.cell? ⟨(ad.add (k * 4)).block, (ad.add (k * 4)).off + 2, none⟩ = some bv ∧ W.cell? ⟨(ad.add (k * 4)).block, (ad.add (k * 4)).off + 3, none⟩ = some cv ∧ Hid (Below wr.heap.size wr W)) (first | (with_reducible assumption) | (with_reducible exact hst _ _ (bel_alloc (Below.refl _ _) _) (by assumption))) (first | (go_at_call 25; (with_reducible refine (HA.out _ (bel_trans HBr.out hS0.2.2.2.2.out)).mono ?_); rintro e w2 ⟨ua, rfl, hua, hb⟩; have hbb := hb; have hSw2 := hst _ _ hbb hS0; have HUa := Lib.hid hua; obtain ⟨Ua, na, rfl, -, -, -⟩ := hua; clear hb hbb) | (go_at_call 25; (with_reducible refine (HA.out _ (bel_trans HBr.out (bel_drew (bel_alloc (Below.refl _ wr) (.cells #[.int .i64 0, .slice none 0 0, .slice none 0 0, .slice none 0 0, .int .i64 0] 168))))).mono ?_); rintro e w2 ⟨ua, rfl, hua, hb⟩; have hbb := bel_trans (bel_drew (bel_alloc (Below.refl _ wr) (.cells #[.int .i64 0, .slice none 0 0, .slice none 0 0, .slice none 0 0, .int .i64 0] 168))) hb; have HBx := Lib.hid (Bx.below (show Bx (wr.alloc (.cells #[.int .i64 0, .slice none 0 0, .slice none 0 0, .slice none 0 0, .int .i64 0] 168)).drew wr.heap.size 168 #[.int .i64 0, .slice none 0 0, .slice none 0 0, .slice none 0 0, .int .i64 0] from Bx.new wr 168 #[.int .i64 0, .slice none 0 0, .slice none 0 0, .slice none 0 0, .int .i64 0]) hb); have hgs := Nat.le_refl wr.heap.size; have hSw2 := hst _ _ hbb ⟨y0, y1, y2, y3, Lib.hid (Below.refl _ _)⟩; have HUa := Lib.hid hua; obtain ⟨Ua, na, rfl, -, -, -⟩ := hua; clear hb hbb) | (go_at_call 25; (with_reducible refine (HB.out _ (bel_trans HBr.out hSw2.2.2.2.2.out)).mono ?_); rintro e w3 ⟨ub, rfl, hub, hb⟩; have hbb := hb; have HBx := Lib.hid (Bx.below HBx.out hb); have hSw3 := hst _ _ hbb hSw2; have HUa := Lib.hid (Kd.S_ext hbb HUa.out); have HUb := Lib.hid hub; obtain ⟨Ub, nb, rfl, -, -, -⟩ := hub; clear hb hbb) | (go_at_call 25; (with_reducible refine (HB.out _ (bel_trans HBr.out hSw2.2.2.2.2.out)).mono ?_); rintro e w3 ⟨ub, rfl, hub, hb⟩; have hbb := hb; have hSw3 := hst _ _ hbb hSw2; have HUa := Lib.hid (Kd.S_ext hbb HUa.out); have HUb := Lib.hid hub; obtain ⟨Ub, nb, rfl, -, -, -⟩ := hub; clear hb hbb) | (go_at_call 25; (with_reducible refine (HB.out _ (bel_trans HBr.out (bel_alloc hSw2.2.2.2.2.out (.cells #[.int .i64 0, .slice none 0 0, .slice none 0 0, .slice none 0 0, .int .i64 0] 168)))).mono ?_); rintro e w3 ⟨ub, rfl, hub, hb⟩; have hbb := bel_trans (bel_alloc (Below.refl _ w2) (.cells #[.int .i64 0, .slice none 0 0, .slice none 0 0, .slice none 0 0, .int .i64 0] 168)) hb; have HBx := Lib.hid (Bx.below (Bx.new w2 168 #[.int .i64 0, .slice none 0 0, .slice none 0 0, .slice none 0 0, .int .i64 0]) hb); have hgs := hSw2.2.2.2.2.out.size; have hSw3 := hst _ _ hbb hSw2; have HUa := Lib.hid (Kd.S_ext hbb HUa.out); have HUb := Lib.hid hub; obtain ⟨Ub, nb, rfl, -, -, -⟩ := hub; clear hb hbb) | (go_at_call 25; (with_reducible refine (HC.out _ (bel_trans HBr.out hSw3.2.2.2.2.out)).mono ?_); rintro e w4 ⟨uc, rfl, huc, hb⟩; have hbb := hb; have HBx := Lib.hid (Bx.below HBx.out hb); have hSw4 := hst _ _ hbb hSw3; have HUa := Lib.hid (Kd.S_ext hbb HUa.out); have HUb := Lib.hid (Kd.S_ext hbb HUb.out); have HUc := Lib.hid huc; obtain ⟨Uc, nc, rfl, -, -, -⟩ := huc; obtain ⟨m0, m1, m2, m3, m4, m5, m6, m7, m8, m9, HE⟩ := put_5 HBx.out (.int .i64 x.k) (.slice Ua (shift x.a n).length na) (.slice Ub (shift x.b n).length nb) (.slice Uc (shift x.c n).length nc) (.int .i64 0); have hb5 := HE.out.2.2 wr.heap.size wr hgs hSw4.2.2.2.2.out; have HB5 := Lib.hid hb5; have hS5 := And.intro (cell_keep hb5 y0) (And.intro (cell_keep hb5 y1) (And.intro (cell_keep hb5 y2) (And.intro (cell_keep hb5 y3) (Lib.hid hb5)))); clear hb hbb) | (go_at_call 25; (with_reducible refine (HC.out _ (bel_trans HBr.out hSw3.2.2.2.2.out)).mono ?_); rintro e w4 ⟨uc, rfl, huc, hb⟩; have hbb := hb; have hSw4 := hst _ _ hbb hSw3; have HUa := Lib.hid (Kd.S_ext hbb HUa.out); have HUb := Lib.hid (Kd.S_ext hbb HUb.out); have HUc := Lib.hid huc; obtain ⟨Uc, nc, rfl, -, -, -⟩ := huc; clear hb hbb) | (go_at_call 25; (with_reducible refine (HC.out _ (bel_trans HBr.out (bel_alloc hSw3.2.2.2.2.out (.cells #[.int .i64 0, .slice none 0 0, .slice none 0 0, .slice none 0 0, .int .i64 0] 168)))).mono ?_); rintro e w4 ⟨uc, rfl, huc, hb⟩; have hbb := bel_trans (bel_alloc (Below.refl _ w3) (.cells #[.int .i64 0, .slice none 0 0, .slice none 0 0, .slice none 0 0, .int .i64 0] 168)) hb; have HBx := Lib.hid (Bx.below (Bx.new w3 168 #[.int .i64 0, .slice none 0 0, .slice none 0 0, .slice none 0 0, .int .i64 0]) hb); have hgs := hSw3.2.2.2.2.out.size; have hSw4 := hst _ _ hbb hSw3; have HUa := Lib.hid (Kd.S_ext hbb HUa.out); have HUb := Lib.hid (Kd.S_ext hbb HUb.out); have HUc := Lib.hid huc; obtain ⟨Uc, nc, rfl, -, -, -⟩ := huc; obtain ⟨m0, m1, m2, m3, m4, m5, m6, m7, m8, m9, HE⟩ := put_5 HBx.out (.int .i64 x.k) (.slice Ua (shift x.a n).length na) (.slice Ub (shift x.b n).length nb) (.slice Uc (shift x.c n).length nc) (.int .i64 0); have hb5 := HE.out.2.2 wr.heap.size wr hgs hSw4.2.2.2.2.out; have HB5 := Lib.hid hb5; have hS5 := And.intro (cell_keep hb5 y0) (And.intro (cell_keep hb5 y1) (And.intro (cell_keep hb5 y2) (And.intro (cell_keep hb5 y3) (Lib.hid hb5)))); clear hb hbb) | fail)
      all_goals
        first
          | (have hbx := HE.out.1; have hA := HE.out.2.1.S HUa.out (by decide); have hB := HE.out.2.1.S HUb.out (by decide); have hC := HE.out.2.1.S HUc.out (by decide); have hbel := HB5.out; have hgg := hgs; clear HE HB5 hS5 hgs m0 m1 m2 m3 m4 m5 m6 m7 m8 m9; generalize World.setCell _ _ _ = Wf at *)
          | (have hbx := Bx.new w4 168 #[.int .i64 x.k, .slice Ua (shift x.a n).length na, .slice Ub (shift x.b n).length nb, .slice Uc (shift x.c n).length nc, .int .i64 0]; have hA := Kd.S_alloc (.cells #[.int .i64 x.k, .slice Ua (shift x.a n).length na, .slice Ub (shift x.b n).length nb, .slice Uc (shift x.c n).length nc, .int .i64 0] 168) HUa.out; have hB := Kd.S_alloc (.cells #[.int .i64 x.k, .slice Ua (shift x.a n).length na, .slice Ub (shift x.b n).length nb, .slice Uc (shift x.c n).length nc, .int .i64 0] 168) HUb.out; have hC := Kd.S_alloc (.cells #[.int .i64 x.k, .slice Ua (shift x.a n).length na, .slice Ub (shift x.b n).length nb, .slice Uc (shift x.c n).length nc, .int .i64 0] 168) HUc.out; have hbel := bel_alloc hSw4.2.2.2.2.out (.cells #[.int .i64 x.k, .slice Ua (shift x.a n).length na, .slice Ub (shift x.b n).length nb, .slice Uc (shift x.c n).length nc, .int .i64 0] 168); have hgg := hSw4.2.2.2.2.out.size; generalize World.alloc w4 _ = Wf at *)
          | fail
        have HA9 := Lib.hid hA
        have HB99 := Lib.hid hB
        have HC9 := Lib.hid hC
        have l9 := cell_keep hbel y0
        by_cases k3 : x.k = 3
        · have f3 : (x.k == 3) = true := beq_iff_eq.2 k3
          have s4 := Bx.at' hbx 4 (.int .i64 0) rfl
          have z4 := Bx.free hbx 4
          have hx2 : Bx _ _ 168 #[.int .i64 x.k, .slice Ua (shift x.a n).length na, .slice Ub (shift x.b n).length nb, .slice Uc (shift x.c n).length nc, .int .i64 cut] := Bx.put hbx 4 (.int .i64 cut)
          have hk2 := bx_but (j := 4) (u := .int .i64 cut) hbx
          have hbel2 := hbel.setCell (p := ⟨_, 4, none⟩) hgg (.int .i64 cut)
          have hA2 := hk2.S hA (by decide)
          have hB2 := hk2.S hB (by decide)
          have hC2 := hk2.S hC (by decide)
          have HSh := Lib.hid (show (shiftG n cut x).cut = cut from if_pos k3)
          have l0 := Bx.at' hx2 0 (.int .i64 x.k) rfl
          have l1 := Bx.at' hx2 1 (.slice Ua (shift x.a n).length na) rfl
          have l2 := Bx.at' hx2 2 (.slice Ub (shift x.b n).length nb) rfl
          have l3 := Bx.at' hx2 3 (.slice Uc (shift x.c n).length nc) rfl
          have l4 := Bx.at' hx2 4 (.int .i64 cut) rfl
          have HBE := Lib.hid hbel2
          have HKx := Lib.hid (show Kd.sgoal.K _ (shiftG n cut x) [.int .i64 x.k, .slice Ua (shift x.a n).length na, .slice Ub (shift x.b n).length nb, .slice Uc (shift x.c n).length nc, .int .i64 cut] from ⟨_, _, _, by rw [HSh.out]; rfl, hA2, hB2, hC2⟩)
          clear hbx hbel hA hB hC hx2 hk2 hbel2 hA2 hB2 hC2 k3
          go_wp2_with ((at_builtin; refine wp_app AppI.sgoal rfl rfl (Kd.O_alloc _ (Kd.O_ext HBE.out HOr.out)) rfl (Kd.S_lit Kd.sgoal _ (x := shiftG n cut x) (cs := [.int .i64 x.k, .slice Ua (shift x.a n).length na, .slice Ub (shift x.b n).length nb, .slice Uc (shift x.c n).length nc, .int .i64 cut]) HKx.out (by first | rfl | (simp; done))) rfl (by have := HTl.out; simp only [List.length_singleton]; omega) (Nat.le_trans HBr.out.size (bel_alloc HBE.out _).size) ?_; intro v9 w9 hgr; have HG9 := Lib.hid hgr; have HB9 := Lib.hid (hgr.below (bel_alloc (bel_trans HBr.out HBE.out) _) (Kd.O_alloc _ (Kd.O_ext HBE.out HOr.out))); clear hgr))
          exact ⟨⟨k + 1, by go_num, hlt, Lib.hid (by rw [htk.out]; exact HG9.out.own), HB9⟩, by simp [intOf]; omega⟩
        · have f3 : (x.k == 3) = false := beq_eq_false_iff_ne.2 k3
          have HSh := Lib.hid (show (shiftG n cut x).cut = 0 from if_neg k3)
          have l0 := Bx.at' hbx 0 (.int .i64 x.k) rfl
          have l1 := Bx.at' hbx 1 (.slice Ua (shift x.a n).length na) rfl
          have l2 := Bx.at' hbx 2 (.slice Ub (shift x.b n).length nb) rfl
          have l3 := Bx.at' hbx 3 (.slice Uc (shift x.c n).length nc) rfl
          have l4 := Bx.at' hbx 4 (.int .i64 0) rfl
          have HBE := Lib.hid hbel
          have HKx := Lib.hid (show Kd.sgoal.K _ (shiftG n cut x) [.int .i64 x.k, .slice Ua (shift x.a n).length na, .slice Ub (shift x.b n).length nb, .slice Uc (shift x.c n).length nc, .int .i64 0] from ⟨_, _, _, by rw [HSh.out]; rfl, hA, hB, hC⟩)
          clear hbx hbel hA hB hC k3
          go_wp2_with ((at_builtin; refine wp_app AppI.sgoal rfl rfl (Kd.O_alloc _ (Kd.O_ext HBE.out HOr.out)) rfl (Kd.S_lit Kd.sgoal _ (x := shiftG n cut x) (cs := [.int .i64 x.k, .slice Ua (shift x.a n).length na, .slice Ub (shift x.b n).length nb, .slice Uc (shift x.c n).length nc, .int .i64 0]) HKx.out (by first | rfl | (simp; done))) rfl (by have := HTl.out; simp only [List.length_singleton]; omega) (Nat.le_trans HBr.out.size (bel_alloc HBE.out _).size) ?_; intro v9 w9 hgr; have HG9 := Lib.hid hgr; have HB9 := Lib.hid (hgr.below (bel_alloc (bel_trans HBr.out HBE.out) _) (Kd.O_alloc _ (Kd.O_ext HBE.out HOr.out))); clear hgr))
          exact ⟨⟨k + 1, by go_num, hlt, Lib.hid (by rw [htk.out]; exact HG9.out.own), HB9⟩, by simp [intOf]; omega⟩
    · have hk2 : body.take k = body := List.take_of_length_le (by omega)
      rw [hk2] at HOr p1 ⊢
      clear hk2
      go_wp2
      go_ret
      exact ⟨_, rfl, HOr.out, HBr.out⟩
#print axioms shiftG_c
end Go.Proofs.YtjglbadkbhopoaaGreatDoor
namespace Go.Proofs.YtjglbadkbhopoaaGreatDoor
open Go.RowKit
set_option maxRecDepth 100000
set_option maxHeartbeats 4000000
set_option linter.unusedVariables false
theorem behindS_c (c : Clause) (n cut : Int) (call : Trm) (rest : List SGoal) (hv bv cv rv : Value) (w : World) (hb : Kd.goal.S 160 w bv c.body) (hl : c.body.length ≤ 1000) (hs : ∀ g ∈ c.body, tSmall g.a ∧ tSmall g.b ∧ tSmall g.c) (hn : 0 ≤ n ∧ n ≤ 100000)
    (hc : T0 w cv call) (hr : G0 w rv rest) (hr9 : rest.length ≤ 999000000) :
    Calls Tryz.prog 157 #[.agg #[hv, bv], .int .i64 n, .int .i64 cut, cv, rv] w fun e w' => ∃ v, e = .returned v ∧ Kd.sgoal.O 168 w' w.heap.size v (behind c n cut call rest) ∧ Below w.heap.size w w' := by
  obtain ⟨M, hM⟩ : ∃ M, c.body.map (shiftG n cut) = M := ⟨_, rfl⟩
  have HSh' := (fun W (hb' : Below w.heap.size w W) => shiftG_c c.body n cut bv W (Kd.S_ext hb' hb) hl hs hn)
  rw [hM] at HSh'
  have HSh := Lib.hid HSh'
  clear HSh'
  have HC := Lib.hid hc
  have HR := Lib.hid hr
  obtain ⟨BA, bn, rfl, -, -, -⟩ := hb
  obtain ⟨CA, cn, rfl, -, -, -⟩ := hc
  obtain ⟨RA, rn, rfl, -, -, -⟩ := hr
  have HB0 := Lib.hid (bel_alloc (Below.refl w.heap.size w) (.cells #[hv, .slice BA c.body.length bn] 126))
  have HL := Lib.hid (show M.length ≤ 1000 by rw [← hM, List.length_map]; exact hl)
  have HMM := Lib.hid hM
  clear hM
  clear hl hs
  go_enter Tryz.func157, Tryz.ntmps157
  go_upto_region 2 with (go_at_call 163; (with_reducible refine (HSh.out _ HB0.out).mono ?_); rintro e w1 ⟨v1, rfl, ho, hb'⟩; have HO1 := Lib.hid (Kd.O_base ho (HB0.out).size); have HB1 := Lib.hid (bel_trans HB0.out hb'); obtain ⟨VA, vn, rfl, -, -, -⟩ := Kd.O_read ho; have HC1 := Lib.hid (Kd.S_ext HB1.out HC.out); have HR1 := Lib.hid (Kd.S_ext HB1.out HR.out); clear ho hb')
  go_wp2_with (first
    | (at_builtin; refine wp_app AppI.sgoal rfl rfl (Kd.O_alloc _ HO1.out) rfl (Kd.S_lit Kd.sgoal _ (x := exitG call) (cs := [.int .i64 6, .slice CA call.length cn, .slice none 0 0, .slice none 0 0, .int .i64 0]) ⟨_, _, _, rfl, HC1.out, Kd.S_nil _ _ _, Kd.S_nil _ _ _⟩ rfl) rfl (by have := HL.out; simp only [List.length_singleton]; omega) (Nat.le_trans HB1.out.size (bel_alloc (Below.refl _ _) _).size) ?_; intro v2 w2 hg; have hg' := hg.own; generalize hM2 : M ++ [exitG call] = M2 at hg'; have HO2 := Lib.hid hg'; have HL2 := Lib.hid (show M2.length ≤ 1001 by have := HL.out; rw [← hM2, List.length_append, List.length_singleton]; omega); have HM2 := Lib.hid hM2; have HB2 := Lib.hid (hg.below (bel_alloc HB1.out (.cells #[.int .i64 6, .slice CA call.length cn, .slice none 0 0, .slice none 0 0, .int .i64 0] 168)) (Kd.O_alloc _ HO1.out)); have HR2 := Lib.hid (Kd.S_ext HB2.out HR.out); clear hg hg' hM2 HO1; obtain ⟨WA, wn, rfl, -, -, -⟩ := Kd.O_read HO2.out)
    | (at_builtin; refine wp_app AppI.sgoal rfl rfl HO2.out rfl HR2.out rfl (by have := HL2.out; omega) HB2.out.size ?_; intro v3 w3 hg; have HO3 := Lib.hid hg.own; have HB3 := Lib.hid (hg.below HB2.out HO2.out); clear hg) | fail)
  go_ret
  exact ⟨_, rfl, by unfold behind; rw [HMM.out, HM2.out]; exact HO3.out, HB3.out⟩
#print axioms behindS_c
end Go.Proofs.YtjglbadkbhopoaaGreatDoor
namespace Go.Proofs.YtjglbadkbhopoaaGreatDoor
open Go.RowKit
set_option maxRecDepth 100000
set_option maxHeartbeats 4000000
set_option linter.unusedVariables false
structure StV (B : Nat) (w : World) (s : TSt) (gv bv cv tv ov : Value) : Prop where
  g : G0 w gv s.goals
  b : B0 w bv s.binds
  c : Kd.sch.O 196 w B cv (s.ch.map (viewC s))
  t : T0 w tv s.top
  o : T0 w ov s.out
theorem StV.ext {B : Nat} {w w' : World} {s : TSt} {gv bv cv tv ov : Value} (h : StV B w s gv bv cv tv ov) (hb : Below w.heap.size w w') : StV B w' s gv bv cv tv ov := ⟨Kd.S_ext hb h.g, Kd.S_ext hb h.b, Kd.O_ext hb h.c, Kd.S_ext hb h.t, Kd.S_ext hb h.o⟩
theorem StV.but {B : Nat} {w w' : World} {s : TSt} {gv bv cv tv ov : Value} (h : StV B w s gv bv cv tv ov) (hk : KeepBut 139 w w') : StV B w' s gv bv cv tv ov := ⟨hk.S h.g (by decide), hk.S h.b (by decide), hk.O h.c (by decide), hk.S h.t (by decide), hk.S h.o (by decide)⟩
def Post4 (B : Nat) (w : World) (r : TSt) (e : Ending) (w' : World) : Prop := ∃ gv bv cv tv ov, e = .returned (.agg #[.int .i64 r.st, gv, bv, .int .i64 r.vars, cv, tv, ov]) ∧ StV B w' r gv bv cv tv ov ∧ Wrote B 196 w w'
theorem PrR.wrote4 {B : Nat} {w w' : World} {p : Prog} {p1 p2 : Value} (h : PrR w p p1 p2) (hw : Wrote B 196 w w') : PrR w' p p1 p2 := ⟨hw.S h.c (by decide), hw.S h.p (by decide)⟩
abbrev BackV (q : Bool) (n : Nat) (p : Prog) : Prop := ∀ (s r : TSt) (p1 p2 gv bv cv tv ov : Value) (B L : Nat) (w : World), tBack n p s = some r → Tinv q p (-1) s → PrR w p p1 p2 → StV B w s gv bv cv tv ov → B ≤ w.heap.size → ChB L s → L ≤ 900000000 →
    Calls Tryz.prog 119 #[.agg #[p1, p2], .agg #[.int .i64 s.st, gv, bv, .int .i64 s.vars, cv, tv, ov]] w (Post4 B w r)
theorem isQ_len4 {t : Trm} (h : isQ t = true) : t.length ≤ 40 := (trmOk_iff.1 (isQ_ok h).1).2.1
theorem sub_len4 {s : Binds} (h : SubOk' s) : s.length ≤ 4000000 ∧ ∀ b ∈ s, b.2.length ≤ 4000000 := by
  have hB := sub_binv h
  refine ⟨by have h1 := hB.len; have h2 := V0_len; omega, fun b hb => ?_⟩
  have := (trmOk_iff.1 (h.1 b hb).2.2.1).2.1
  omega
theorem setc4 {B g : Nat} {W0 W : World} (h : Below B W0 W) (hg : B ≤ g) (j : Nat) (u : Value) : Below B W0 (W.setCell ⟨g, j, none⟩ u) := h.setCell hg u
theorem marks_meet {q : Bool} {p : Prog} {node : Int} {s : TSt} (h : Tinv q p node s) {a b : Trm} {s' : Binds} {more : Int} (hm0 : 0 ≤ more) (hv : s.vars + more ≤ 99999) (ha : termV (s.vars + more) a = true) (hb : termV (s.vars + more) b = true) (hm : meet s.binds a b = (some s', 1)) : ∀ d ∈ s.ch, s'.take d.mark.toNat = s.binds.take d.mark.toNat := fun d hd => by
  obtain ⟨-, -, m, rfl⟩ := meet_ok h.sub (bb_mono h.bb (show s.vars ≤ s.vars + more by omega)) (show s.vars + more ≤ 100000 by omega) ha hb hm
  obtain ⟨-, -, a3, -, a5⟩ := chAll_last h.ch
  have h1 := (a5 d hd).1
  have h2 := a3 (by omega)
  rw [List.take_append_of_le_length (by omega)]
theorem ends4_c (s : TSt) (k : Int) (gv bv cv tv ov : Value) (w : World) {B : Nat} (hs : StV B w s gv bv cv tv ov) (hl : s.top.length ≤ 1000000) :
    Calls Tryz.prog 125 #[.agg #[.int .i64 s.st, gv, bv, .int .i64 s.vars, cv, tv, ov], .int .i64 k] w fun e w' => ∃ t', e = .returned (.agg #[.int .i64 k, .slice none 0 0, .slice none 0 0, .int .i64 0, .slice none 0 0, t', .slice none 0 0]) ∧ T0 w' t' s.top ∧ Below w.heap.size w w' := by
  obtain ⟨GA, gn, rfl, -, -, -⟩ := hs.g
  obtain ⟨BA, bn, rfl, -, -, -⟩ := hs.b
  obtain ⟨CA, cn, rfl, -, -, -⟩ := Kd.O_read hs.c
  obtain ⟨OA, on, rfl, -, -, -⟩ := hs.o
  have HT := Lib.hid hs.t
  obtain ⟨TA, tn, rfl, -, -, -⟩ := hs.t
  have HB := Lib.hid (fun o o' o'' => bel_alloc (bel_alloc (bel_alloc (Below.refl w.heap.size w) o) o') o'')
  have HR := Lib.hid (fun c1 c2 => bx2b w 139 139 c1 c2)
  have HTa := Lib.hid (fun o o' o'' => Kd.S_alloc o'' (Kd.S_alloc o' (Kd.S_alloc o HT.out)))
  have HS2 := Lib.hid (fun o o' => size_alloc2 w o o')
  clear hs
  go_enter Tryz.func125, Tryz.ntmps125
  go_wp2_with (at_builtin; refine wp_app AppI.cell rfl rfl (O_empty_at Kd.cell _ _ (HS2.out _ _) (base := _) (Nat.le_refl _)) rfl (HTa.out _ _ _) rfl ?c1 ?c2 ?_; (case c1 => simp; omega); (case c2 => exact (bel_alloc (Below.refl _ _) _).size); intro v1 w1 hg; have hB := hg.below (bel_alloc (Below.refl _ _) _) (O_empty_at Kd.cell _ _ (HS2.out _ _) (Nat.le_refl _)); have hown := hg.own; rw [List.nil_append] at hown; have HV := Lib.hid (Kd.O_read hown); obtain ⟨VA, vn, rfl, -, -, -⟩ := Kd.O_read hown; have HRw := Lib.hid (Bx.below (HR.out _ _) hB); have HBw := Lib.hid (bel_trans (bel_alloc (bel_alloc (Below.refl w.heap.size w) _) _) hB); obtain ⟨m0, m1, m2, m3, m4, m5, m6, m7, m8, m9, m10, m11, m12, m13, HE⟩ := put_7 HRw.out (.int .i64 k) (.slice none 0 0) (.slice none 0 0) (.int .i64 0) (.slice none 0 0) (.slice VA s.top.length vn) (.slice none 0 0); clear hg hB hown)
  refine bodyPost_ret (results_cell_row rfl _ _ (w.heap.size + 1) 139 _ (0, 0) _ rfl HE.out.1 Tryz.underlying139 rfl (by kernel_rfl)) rfl ?_
  exact ⟨_, rfl, HE.out.2.1.S HV.out (by decide), HE.out.2.2 w.heap.size w (by omega) HBw.out⟩
#print axioms ends4_c
end Go.Proofs.YtjglbadkbhopoaaGreatDoor
