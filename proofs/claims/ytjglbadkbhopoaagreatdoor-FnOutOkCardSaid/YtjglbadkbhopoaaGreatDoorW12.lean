/- Lemmas and contracts for FnOutOk, part 12. -/
import Derived.Test.YtjglbadkbhopoaaGreatDoorW10
import Derived.Test.YtjglbadkbhopoaaGreatDoorW02
import Derived.Test.YtjglbadkbhopoaaGreatDoorW04
import Derived.BigQuiet
import Derived.OwnWalk
import Derived.Test.YtjglbadkbhopoaaGreatDoorW11
namespace Go.Proofs.YtjglbadkbhopoaaGreatDoor
open Go.RowKit
set_option maxRecDepth 100000
set_option maxHeartbeats 8000000
set_option linter.unusedVariables false
theorem ints_mem (xs : List Int) (j : Nat) (hj : j < xs.length) : ∃ x : Int, ((xs.map (Value.int .i64)).toArray)[j]? = some (.int .i64 x) ∧ x ∈ xs :=
  ⟨xs[j], by simp [hj], List.getElem_mem hj⟩
theorem strs_mem (xs : List ByteArray) (j : Nat) (hj : j < xs.length) : ∃ x : ByteArray, ((xs.map Value.string).toArray)[j]? = some (.string x) ∧ x ∈ xs :=
  ⟨xs[j], by simp [hj], List.getElem_mem hj⟩
abbrev DrP (w0 W : World) (g M : Nat) (e : Ending) (w' : World) : Prop := SpP w0 W g M e w'
theorem termOr_c {w0 W : World} {g M : Nat} (h : RQ w0 g M W) (hM : M ≤ 600000000) (n : Nat) (hn : 1 ≤ n) (hn2 : n ≤ 100000) :
    Calls Tryz.prog 35 #[.pointer (some ⟨g, 0, none⟩), .int .i64 (n : Int)] W (DrP w0 W g (M + 600)) := by
  have hsz := h.size
  have HR0 := Lib.hid h
  have HD0 := Lib.hid (Wrote.refl w0.heap.size 92 W h.size)
  clear h
  go_enter Tryz.func35, Tryz.ntmps35
  go_upto_region 2 with (first | (go_at_call_of 34 (Value.int .i64 4); refine (rq_pick (HR0.out.ext (bel_alloc (Below.refl _ _) _)) (by omega) _ (by omega) (by omega)).mono ?_; rintro e wp1 ⟨v, rfl, hv, hR, hw⟩; obtain ⟨hv0, hv1, -⟩ := hv; have hv2 := hv1 (by omega); obtain ⟨i, rfl⟩ : ∃ i : Nat, v = i := ⟨v.toNat, by omega⟩; have hi : i < 4 := (by omega); have HR1 := Lib.hid hR; have HW1 := Lib.hid hw; obtain ⟨xi, hxi, hxbi⟩ := ints_mem [3, 8, 20, 40] i (by simpa using hi); have hci := (Bx.cell (Bx.but (Bx.new _ 3 #[.int .i64 3, .int .i64 8, .int .i64 20, .int .i64 40]) hw.but (by decide)) i).trans hxi; have HD1 := Lib.hid ((DW.ext HD0.out (bel_alloc (Below.refl _ _) _) hsz).trans hw); have hxm : xi = 3 ∨ xi = 8 ∨ xi = 20 ∨ xi = 40 := (by simpa using hxbi); obtain ⟨mo, rfl, hmo⟩ : ∃ mo : Nat, xi = mo ∧ mo ≤ 100 := ⟨xi.toNat, by omega, by omega⟩; clear hv0 hv1 hv2 hR hw) | (go_at_call 71; (refine (show Calls _ _ #[_, .int .i64 (mo : Int), .int .i64 4] _ _ from term_c HR1.out (by omega) mo 4 hmo (by decide) (by decide)).mono ?_); rintro e w2 ⟨v2, t, rfl, ho, ht1, ht2, hts, hR, hw⟩; have HT2 := Lib.hid (Kd.O_read ho); have HTs := Lib.hid hts; have HR2 := Lib.hid hR; have HD2 := Lib.hid (HD1.out.trans hw); obtain ⟨TA, tn, rfl, -, -, -⟩ := Kd.O_read ho; clear ho hts hR hw) | fail)
  go_upto_region 4 with (first | (go_at_call 33; (refine (odd_c HR2.out (by omega) (n : Int) (by omega) (by omega)).mono ?_); rintro e w3 ⟨bo, rfl, hR, hw⟩; have HT3 := Lib.hid (hw.S HT2.out (by decide)); have HR3 := Lib.hid hR; have HD3 := Lib.hid (HD2.out.trans hw); clear hR hw) | (go_at_call 72; (refine (spoil_c HR3.out (by omega) t _ HT3.out ht1 ht2 HTs.out).mono ?_); rintro e w4 ⟨v4, x, rfl, hx, hx2, hxs, hR, hw⟩; have HX4 := Lib.hid hx; have HXs := Lib.hid hxs; have HR4 := Lib.hid hR; have HD4 := Lib.hid (HD3.out.trans hw); clear hx hxs hR hw) | fail)
  all_goals
    go_wp2_with (first | (go_at_call 72; (refine (spoil_c HR3.out (by omega) t _ HT3.out ht1 ht2 HTs.out).mono ?_); rintro e w4 ⟨v4, x, rfl, hx, hx2, hxs, hR, hw⟩; have HX4 := Lib.hid hx; have HXs := Lib.hid hxs; have HR4 := Lib.hid hR; have HD4 := Lib.hid (HD3.out.trans hw); clear hx hxs hR hw) | fail)
    go_ret
    first
    | exact ⟨_, x, rfl, HX4.out, hx2, HXs.out, HR4.out.mono (by omega), HD4.out⟩
    | exact ⟨_, t, rfl, HT3.out, by omega, fun c hc => (HTs.out c hc).2, HR3.out.mono (by omega), HD3.out⟩
theorem S_litn {α : Type} {d : Kd α} (hz : d.sz = 1) (e : Nat) {w : World} {xs : List α} {vs : List Value} (hl : vs.length = xs.length) (hb : xs.length ≤ maxLen) (h : ∀ (i : Nat) (x : α), xs[i]? = some x → ∃ v, vs[i]? = some v ∧ d.K w x [v]) : d.S e (w.alloc (.cells vs.toArray e)) (.slice (some ⟨w.heap.size, 0, none⟩) xs.length xs.length) xs := by
  refine ⟨_, xs.length, rfl, Nat.le_refl _, hb, fun i x hx => ?_⟩
  obtain ⟨v, hv, hk⟩ := h i x hx
  refine ⟨⟨w.heap.size, 0, none⟩, [v], vs.toArray, (0, 0), rfl, heap_alloc_new w _, Kd.ext d (bel_alloc (Below.refl _ _) _) hk, fun j u hu => ?_⟩
  cases j with
  | succ j => simp at hu
  | zero =>
    have ha : (⟨w.heap.size, 0, none⟩ : Addr).add (i * d.sz + 0) = ⟨w.heap.size, i, none⟩ := by rw [hz]; unfold Addr.add; split <;> simp_all
    rw [ha, cell_of_row (w.alloc (.cells vs.toArray e)) w.heap.size i vs.toArray e (0, 0) (heap_alloc_new w _)]
    have hu : some v = some u := hu
    rw [← hu]
    simpa using hv
theorem two_lit {w : World} {v1 v2 : Value} {t1 t2 : Trm} (h1 : Kd.cell.S 47 w v1 t1) (h2 : Kd.cell.S 47 w v2 t2) : Kd.trm.S 23 (w.alloc (.cells #[v1, v2] 23)) (.slice (some ⟨w.heap.size, 0, none⟩) 2 2) [t1, t2] :=
  S_litn (d := Kd.trm) rfl 23 (xs := [t1, t2]) (vs := [v1, v2]) rfl (by show 2 ≤ 2 ^ 63 - 1; decide) (fun i x hx => by
    match i, hx with
    | 0, hx => obtain rfl := Option.some.inj hx; exact ⟨v1, rfl, v1, rfl, h1⟩
    | 1, hx => obtain rfl := Option.some.inj hx; exact ⟨v2, rfl, v2, rfl, h2⟩
    | i + 2, hx => simp at hx)
theorem make_c (name : ByteArray) (args : List Trm) (av : Value) (w : World) (h : Kd.trm.S 23 w av args) (hl : args.length ≤ 10) (ha : ∀ t ∈ args, t.length ≤ 1000) :
    Calls Tryz.prog 97 #[.string name, av] w fun e w' => ∃ v t, e = .returned v ∧ Kd.cell.S 47 w' v t ∧ (t = [] ∨ trmOk t = true) ∧ Below w.heap.size w w' := by
  have HA := Lib.hid h
  have HL := Lib.hid ha
  obtain ⟨AA, an, rfl, -, -, -⟩ := h
  have HO0 := Lib.hid (Kd.O_lit Kd.cell 47 (w := w) (x := (⟨3, (args.length : Int), name⟩ : Cell)) (cs := [.int .i64 3, .int .i64 (args.length : Int), .string name]) rfl rfl (Nat.le_refl _))
  have HB0 := Lib.hid (bel_alloc (Below.refl w.heap.size w) (.cells #[.int .i64 3, .int .i64 (args.length : Int), .string name] 47))
  clear ha
  go_enter Tryz.func97, Tryz.ntmps97
  go_wp2
  go_loopw [5, 6] (fun v5 v6 wr => ∃ (L : Trm) (k : Nat) (OA : Option Addr) (oc : Nat), v5 = .slice OA L.length oc ∧ v6 = .int .i64 (k : Int) ∧ k ≤ args.length ∧ L.length ≤ 1 + 1000 * k ∧ Hid (Kd.cell.O 47 wr w.heap.size (.slice OA L.length oc) L) ∧ Hid (Below w.heap.size w wr)) (fun _ v6 _ => args.length - (intOf v6).toNat)
  case atStart => exact ⟨[⟨3, (args.length : Int), name⟩], 0, _, _, rfl, rfl, Nat.zero_le _, Nat.le_refl _, HO0, HB0⟩
  case round =>
    obtain ⟨L, k, OA, oc, rfl, rfl, hk, hL, HOr, HBr⟩ := hrel
    clear HO0 HB0
    by_cases hlt : k < args.length
    · obtain ⟨t, ht⟩ : ∃ t, args[k]? = some t := ⟨_, List.getElem?_eq_getElem hlt⟩
      have htl := HL.out t (List.mem_of_getElem? ht)
      obtain ⟨A', c', ev, _, _, hAC⟩ := HA.out
      injection ev with v1 v2 v3
      obtain ⟨ad, tv, hAA, tc, hS⟩ := trm_at hAC ht
      have tc := cell_keep HBr.out tc
      have HTt := Lib.hid (Kd.S_ext HBr.out hS)
      have HOk := Lib.hid (trmOkS_c t tv wr HTt.out (by omega))
      obtain ⟨TA, tn, rfl, -, -, -⟩ := hS
      obtain rfl := v1.trans hAA
      clear v2 v3 hAC ht v1 hAA
      cases hok : trmOk t with
      | false =>
        rw [hok] at HOk
        go_wp2_with (first | (go_at_call 21; (with_reducible refine HOk.out.mono ?_); rintro e w1 ⟨rfl, hb'⟩; have HB1 := Lib.hid (bel_trans HBr.out hb'); clear hb') | fail)
        go_ret
        exact ⟨_, [], rfl, S_zero Kd.cell _ _ _ _ (Nat.zero_le _), .inl rfl, bel_alloc HB1.out _⟩
      | true =>
        rw [hok] at HOk
        clear hok
        have t1 : ∀ W, Below wr.heap.size wr W → W.cell? (ad.add k) = some (.slice TA t.length tn) := fun W hb => cell_keep hb tc
        have HT1 := Lib.hid t1
        clear t1
        go_wp2_with (first | (go_at_call 21; (with_reducible refine HOk.out.mono ?_); rintro e w1 ⟨rfl, hb'⟩; have tc1 := HT1.out _ hb'; have HO1 := Lib.hid (Kd.O_ext hb' HOr.out); have HS1 := Lib.hid (Kd.S_ext hb' HTt.out); have HB1 := Lib.hid (bel_trans HBr.out hb'); clear hb') | (at_builtin; refine wp_app AppI.cell rfl rfl HO1.out rfl HS1.out rfl (by omega) HB1.out.size ?_; intro v9 w9 hg; have hO9 := hg.own; obtain ⟨L2, hL2⟩ : ∃ L2, L ++ t = L2 := ⟨_, rfl⟩; rw [hL2] at hO9; have HO9 := Lib.hid hO9; have HL2 := Lib.hid hL2; obtain ⟨OB, od, rfl, -, -, -⟩ := Kd.O_read hO9; have HB9 := Lib.hid (hg.below HB1.out HO1.out); clear hg hO9 hL2) | fail)
        have hl2 : L2.length = L.length + t.length := by rw [← HL2.out, List.length_append]
        exact ⟨⟨L2, k + 1, OB, od, rfl, by go_num, by omega, by omega, HO9, HB9⟩, by simp [intOf]; omega⟩
    · have HOk := Lib.hid (trmOkS_c L _ wr (Kd.O_read HOr.out) (by omega))
      cases hok : trmOk L with
      | false =>
        rw [hok] at HOk
        go_wp2_with (first | (go_at_call 21; (with_reducible refine HOk.out.mono ?_); rintro e w1 ⟨rfl, hb'⟩; have HB1 := Lib.hid (bel_trans HBr.out hb'); clear hb') | fail)
        go_ret
        exact ⟨_, [], rfl, S_zero Kd.cell _ _ _ _ (Nat.zero_le _), .inl rfl, bel_alloc HB1.out _⟩
      | true =>
        rw [hok] at HOk
        have HKo := Lib.hid hok
        clear hok
        go_wp2_with (first | (go_at_call 21; (with_reducible refine HOk.out.mono ?_); rintro e w1 ⟨rfl, hb'⟩; have HO1 := Lib.hid (Kd.S_ext hb' (Kd.O_read HOr.out)); have HB1 := Lib.hid (bel_trans HBr.out hb'); clear hb') | fail)
        go_ret
        exact ⟨_, L, rfl, HO1.out, .inr HKo.out, HB1.out⟩
theorem head_c {w0 W : World} {g M : Nat} (h : RQ w0 g M W) (hM : M ≤ 600000000) :
    Calls Tryz.prog 67 #[.pointer (some ⟨g, 0, none⟩)] W fun e w' => ∃ v t, e = .returned v ∧ Kd.cell.S 47 w' v t ∧ (t = [] ∨ trmOk t = true) ∧ RQ w0 g (M + 1100) w' ∧ DW w0 W w' := by
  have hsz := h.size
  have HR := Lib.hid (h.ext (bel_drew (Below.refl _ W)))
  have HD := Lib.hid (Wrote.of_below (e := 92) h.size (bel_drew (Below.refl _ W)))
  have HRz := Lib.hid (show RQ w0 g M ((W.alloc (.cells #[.string ⟨#[101]⟩, .string ⟨#[112]⟩, .string ⟨#[104]⟩] 9)).drew) from (h.ext (bel_alloc (Below.refl _ W) _)).ext (bel_drew (Below.refl _ _)))
  have HDz := Lib.hid (show DW w0 W ((W.alloc (.cells #[.string ⟨#[101]⟩, .string ⟨#[112]⟩, .string ⟨#[104]⟩] 9)).drew) from Wrote.of_below (e := 92) h.size (bel_trans (bel_alloc (Below.refl _ W) _) (bel_drew (Below.refl _ _))))
  have HPk := Lib.hid (fun (M' : Nat) (W' : World) (h : RQ w0 g M' W') (hM : M' ≤ 1000000000) => rq_pick h hM 3 (by decide) (by decide))
  have HTm := Lib.hid (fun (M' : Nat) (W' : World) (h : RQ w0 g M' W') (hM : M' ≤ 800000000) => (show Calls Tryz.prog 71 #[.pointer (some ⟨g, 0, none⟩), .int .i64 4, .int .i64 3] W' _ from term_c h hM 4 3 (by decide) (by decide) (by decide)))
  have HMk := Lib.hid (fun (nm : ByteArray) (t1 t2 : Trm) (h1 : t1.length ≤ 100) (h2 : t2.length ≤ 100) (av : Value) (W' : World) (h : Kd.trm.S 23 W' av [t1, t2]) => make_c nm [t1, t2] av W' h (show 2 ≤ 10 by decide) (fun t ht => by simp only [List.mem_cons, List.mem_nil_iff, or_false] at ht; rcases ht with rfl | rfl <;> omega))
  clear h
  go_enter Tryz.func67, Tryz.ntmps67
  go_upto_region 1 with (fail)
  go_region_with (first | (go_at_call_of 34 (Value.int .i64 3); (with_reducible refine (HPk.out _ _ (HR.out) (by omega)).mono ?_); rintro e wp ⟨v, rfl, hv, hR, hw⟩; obtain ⟨hv0, hv1, -⟩ := hv; have hv2 := hv1 (by omega); obtain ⟨i, rfl⟩ : ∃ i : Nat, v = i := ⟨v.toNat, by omega⟩; have hi : i < 3 := (by omega); have hiI : (i : Int) < 3 := (by omega); have hi0 : (0 : Int) ≤ (i : Int) := (by omega); obtain ⟨xi, hx⟩ := strs_mem [⟨#[101]⟩, ⟨#[112]⟩, ⟨#[104]⟩] i (by simpa using hi); have hxi := Lib.hid hx.1; have HD := Lib.hid ((HD.out).trans hw); have HR := Lib.hid hR; have hla : (wp.alloc (.cells #[.string ⟨#[101]⟩, .string ⟨#[112]⟩, .string ⟨#[104]⟩] 9)).cell? ⟨wp.heap.size, i, none⟩ = some (.string xi) := (Bx.cell (Bx.new wp 9 #[.string ⟨#[101]⟩, .string ⟨#[112]⟩, .string ⟨#[104]⟩]) i).trans hxi.out; clear hv0 hv1 hv2 hR hw hx) | (go_at_call_of 34 (Value.int .i64 3); (with_reducible refine (HPk.out _ _ (HRz.out) (by omega)).mono ?_); rintro e wp ⟨v, rfl, hv, hR, hw⟩; obtain ⟨hv0, hv1, -⟩ := hv; have hv2 := hv1 (by omega); obtain ⟨i, rfl⟩ : ∃ i : Nat, v = i := ⟨v.toNat, by omega⟩; have hi : i < 3 := (by omega); have hiI : (i : Int) < 3 := (by omega); have hi0 : (0 : Int) ≤ (i : Int) := (by omega); obtain ⟨xi, hx⟩ := strs_mem [⟨#[101]⟩, ⟨#[112]⟩, ⟨#[104]⟩] i (by simpa using hi); have hxi := Lib.hid hx.1; have HD := Lib.hid ((HDz.out).trans hw); have HR := Lib.hid hR; have HL := Lib.hid (Bx.but (show Bx _ W.heap.size 9 #[.string ⟨#[101]⟩, .string ⟨#[112]⟩, .string ⟨#[104]⟩] from Bx.new W 9 #[.string ⟨#[101]⟩, .string ⟨#[112]⟩, .string ⟨#[104]⟩]) hw.but (by decide)); have hlc : wp.cell? ⟨W.heap.size, i, none⟩ = some (.string xi) := (Bx.cell HL.out i).trans hxi.out; have hla : (wp.alloc (.cells #[.string ⟨#[101]⟩, .string ⟨#[112]⟩, .string ⟨#[104]⟩] 9)).cell? ⟨wp.heap.size, i, none⟩ = some (.string xi) := (Bx.cell (Bx.new wp 9 #[.string ⟨#[101]⟩, .string ⟨#[112]⟩, .string ⟨#[104]⟩]) i).trans hxi.out; clear hv0 hv1 hv2 hR hw hx) | (go_at_call 71; (with_reducible refine (HTm.out (M + 1) _ (HR.out) (by omega)).mono ?_); rintro e wa ⟨va, ta, rfl, ho, -, hta, -, hR, hw⟩; have HTa := Lib.hid (Kd.O_read ho); have HTl := Lib.hid hta; obtain ⟨A1, n1, rfl, -, -, -⟩ := Kd.O_read ho; have HD := Lib.hid ((HD.out).trans hw); have HR := Lib.hid hR; (try have HL := Lib.hid (Bx.but HL.out hw.but (by decide))); (try have hlc := (Bx.cell HL.out i).trans hxi.out); have hla : (wa.alloc (.cells #[.string ⟨#[101]⟩, .string ⟨#[112]⟩, .string ⟨#[104]⟩] 9)).cell? ⟨wa.heap.size, i, none⟩ = some (.string xi) := (Bx.cell (Bx.new wa 9 #[.string ⟨#[101]⟩, .string ⟨#[112]⟩, .string ⟨#[104]⟩]) i).trans hxi.out; clear ho hta hR hw) | (go_at_call 71; (with_reducible refine (HTm.out (M + 1) _ (HR.out.ext (bel_alloc (Below.refl _ _) _)) (by omega)).mono ?_); rintro e wa ⟨va, ta, rfl, ho, -, hta, -, hR, hw⟩; have HTa := Lib.hid (Kd.O_read ho); have HTl := Lib.hid hta; obtain ⟨A1, n1, rfl, -, -, -⟩ := Kd.O_read ho; have HD := Lib.hid ((DW.ext HD.out (bel_alloc (Below.refl _ _) _) hsz).trans hw); have HR := Lib.hid hR; have HL := Lib.hid (Bx.but (show Bx _ wp.heap.size 9 #[.string ⟨#[101]⟩, .string ⟨#[112]⟩, .string ⟨#[104]⟩] from Bx.new wp 9 #[.string ⟨#[101]⟩, .string ⟨#[112]⟩, .string ⟨#[104]⟩]) hw.but (by decide)); have hlc : wa.cell? ⟨wp.heap.size, i, none⟩ = some (.string xi) := (Bx.cell HL.out i).trans hxi.out; have hla : (wa.alloc (.cells #[.string ⟨#[101]⟩, .string ⟨#[112]⟩, .string ⟨#[104]⟩] 9)).cell? ⟨wa.heap.size, i, none⟩ = some (.string xi) := (Bx.cell (Bx.new wa 9 #[.string ⟨#[101]⟩, .string ⟨#[112]⟩, .string ⟨#[104]⟩]) i).trans hxi.out; clear ho hta hR hw) | (go_at_call 71; (with_reducible refine (HTm.out (M + 1 + 500) _ (HR.out) (by omega)).mono ?_); rintro e wb ⟨vb, tb, rfl, ho, -, htb, -, hR, hw⟩; have HTb := Lib.hid (Kd.O_read ho); have HTn := Lib.hid htb; obtain ⟨A2, n2, rfl, -, -, -⟩ := Kd.O_read ho; have HTc := Lib.hid (hw.S (HTa.out) (by decide)); have HD := Lib.hid ((HD.out).trans hw); have HR := Lib.hid hR; (try have HL := Lib.hid (Bx.but HL.out hw.but (by decide))); (try have hlc := (Bx.cell HL.out i).trans hxi.out); have hla : (wb.alloc (.cells #[.string ⟨#[101]⟩, .string ⟨#[112]⟩, .string ⟨#[104]⟩] 9)).cell? ⟨wb.heap.size, i, none⟩ = some (.string xi) := (Bx.cell (Bx.new wb 9 #[.string ⟨#[101]⟩, .string ⟨#[112]⟩, .string ⟨#[104]⟩]) i).trans hxi.out; (try have hlo := fun o => (Bx.cell (Bx.alloc HL.out o) i).trans hxi.out); have hlp : ∀ o, ((wb.alloc (.cells #[.string ⟨#[101]⟩, .string ⟨#[112]⟩, .string ⟨#[104]⟩] 9)).alloc o).cell? ⟨wb.heap.size, i, none⟩ = some (.string xi) := (fun o => (Bx.cell (Bx.alloc (Bx.new wb 9 #[.string ⟨#[101]⟩, .string ⟨#[112]⟩, .string ⟨#[104]⟩]) o) i).trans hxi.out); have hlq : ∀ o, ((wb.alloc o).alloc (.cells #[.string ⟨#[101]⟩, .string ⟨#[112]⟩, .string ⟨#[104]⟩] 9)).cell? ⟨wb.heap.size + 1, i, none⟩ = some (.string xi) := (fun o => by have h := Bx.new (wb.alloc o) 9 #[.string ⟨#[101]⟩, .string ⟨#[112]⟩, .string ⟨#[104]⟩]; rw [size_alloc] at h; exact (Bx.cell h i).trans hxi.out); have HS0 := Lib.hid (two_lit HTc.out HTb.out); have HS1 := Lib.hid (show Kd.trm.S 23 ((wb.alloc (.cells #[.string ⟨#[101]⟩, .string ⟨#[112]⟩, .string ⟨#[104]⟩] 9)).alloc (.cells #[.slice A1 ta.length n1, .slice A2 tb.length n2] 23)) (.slice (some ⟨wb.heap.size + 1, 0, none⟩) 2 2) [ta, tb] from by have h := two_lit (Kd.S_alloc (.cells #[.string ⟨#[101]⟩, .string ⟨#[112]⟩, .string ⟨#[104]⟩] 9) HTc.out) (Kd.S_alloc (.cells #[.string ⟨#[101]⟩, .string ⟨#[112]⟩, .string ⟨#[104]⟩] 9) HTb.out); rwa [size_alloc] at h); have HS2 := Lib.hid (Kd.S_alloc (.cells #[.string ⟨#[101]⟩, .string ⟨#[112]⟩, .string ⟨#[104]⟩] 9) HS0.out); clear ho htb hR hw) | (go_at_call 71; (with_reducible refine (HTm.out (M + 1 + 500) _ (HR.out.ext (bel_alloc (Below.refl _ _) _)) (by omega)).mono ?_); rintro e wb ⟨vb, tb, rfl, ho, -, htb, -, hR, hw⟩; have HTb := Lib.hid (Kd.O_read ho); have HTn := Lib.hid htb; obtain ⟨A2, n2, rfl, -, -, -⟩ := Kd.O_read ho; have HTc := Lib.hid (hw.S (Kd.S_alloc _ HTa.out) (by decide)); have HD := Lib.hid ((DW.ext HD.out (bel_alloc (Below.refl _ _) _) hsz).trans hw); have HR := Lib.hid hR; have HL := Lib.hid (Bx.but (show Bx _ wa.heap.size 9 #[.string ⟨#[101]⟩, .string ⟨#[112]⟩, .string ⟨#[104]⟩] from Bx.new wa 9 #[.string ⟨#[101]⟩, .string ⟨#[112]⟩, .string ⟨#[104]⟩]) hw.but (by decide)); have hlc : wb.cell? ⟨wa.heap.size, i, none⟩ = some (.string xi) := (Bx.cell HL.out i).trans hxi.out; have hla : (wb.alloc (.cells #[.string ⟨#[101]⟩, .string ⟨#[112]⟩, .string ⟨#[104]⟩] 9)).cell? ⟨wb.heap.size, i, none⟩ = some (.string xi) := (Bx.cell (Bx.new wb 9 #[.string ⟨#[101]⟩, .string ⟨#[112]⟩, .string ⟨#[104]⟩]) i).trans hxi.out; (try have hlo := fun o => (Bx.cell (Bx.alloc HL.out o) i).trans hxi.out); have hlp : ∀ o, ((wb.alloc (.cells #[.string ⟨#[101]⟩, .string ⟨#[112]⟩, .string ⟨#[104]⟩] 9)).alloc o).cell? ⟨wb.heap.size, i, none⟩ = some (.string xi) := (fun o => (Bx.cell (Bx.alloc (Bx.new wb 9 #[.string ⟨#[101]⟩, .string ⟨#[112]⟩, .string ⟨#[104]⟩]) o) i).trans hxi.out); have hlq : ∀ o, ((wb.alloc o).alloc (.cells #[.string ⟨#[101]⟩, .string ⟨#[112]⟩, .string ⟨#[104]⟩] 9)).cell? ⟨wb.heap.size + 1, i, none⟩ = some (.string xi) := (fun o => by have h := Bx.new (wb.alloc o) 9 #[.string ⟨#[101]⟩, .string ⟨#[112]⟩, .string ⟨#[104]⟩]; rw [size_alloc] at h; exact (Bx.cell h i).trans hxi.out); have HS0 := Lib.hid (two_lit HTc.out HTb.out); have HS1 := Lib.hid (show Kd.trm.S 23 ((wb.alloc (.cells #[.string ⟨#[101]⟩, .string ⟨#[112]⟩, .string ⟨#[104]⟩] 9)).alloc (.cells #[.slice A1 ta.length n1, .slice A2 tb.length n2] 23)) (.slice (some ⟨wb.heap.size + 1, 0, none⟩) 2 2) [ta, tb] from by have h := two_lit (Kd.S_alloc (.cells #[.string ⟨#[101]⟩, .string ⟨#[112]⟩, .string ⟨#[104]⟩] 9) HTc.out) (Kd.S_alloc (.cells #[.string ⟨#[101]⟩, .string ⟨#[112]⟩, .string ⟨#[104]⟩] 9) HTb.out); rwa [size_alloc] at h); have HS2 := Lib.hid (Kd.S_alloc (.cells #[.string ⟨#[101]⟩, .string ⟨#[112]⟩, .string ⟨#[104]⟩] 9) HS0.out); clear ho htb hR hw) | (go_at_call 97; (with_reducible refine (HMk.out _ ta tb HTl.out HTn.out _ _ (HS0.out)).mono ?_); rintro e wc ⟨vc, tc, rfl, hc, htc, hb'⟩; have HTf := Lib.hid hc; have HTo := Lib.hid htc; have HR := Lib.hid ((HR.out.ext (bel_alloc (Below.refl _ _) _)).ext hb'); have HD := Lib.hid (DW.ext (DW.ext HD.out (bel_alloc (Below.refl _ _) _) hsz) hb' hsz); clear hc htc hb') | (go_at_call 97; (with_reducible refine (HMk.out _ ta tb HTl.out HTn.out _ _ (HS1.out)).mono ?_); rintro e wc ⟨vc, tc, rfl, hc, htc, hb'⟩; have HTf := Lib.hid hc; have HTo := Lib.hid htc; have HR := Lib.hid ((HR.out.ext (bel_alloc (bel_alloc (Below.refl _ _) _) _)).ext hb'); have HD := Lib.hid (DW.ext (DW.ext HD.out (bel_alloc (bel_alloc (Below.refl _ _) _) _) hsz) hb' hsz); clear hc htc hb') | (go_at_call 97; (with_reducible refine (HMk.out _ ta tb HTl.out HTn.out _ _ (HS2.out)).mono ?_); rintro e wc ⟨vc, tc, rfl, hc, htc, hb'⟩; have HTf := Lib.hid hc; have HTo := Lib.hid htc; have HR := Lib.hid ((HR.out.ext (bel_alloc (bel_alloc (Below.refl _ _) _) _)).ext hb'); have HD := Lib.hid (DW.ext (DW.ext HD.out (bel_alloc (bel_alloc (Below.refl _ _) _) _) hsz) hb' hsz); clear hc htc hb') | fail)
  all_goals
    go_wp2
    go_ret
    exact ⟨_, tc, rfl, HTf.out, HTo.out, HR.out.mono (by omega), HD.out⟩
end Go.Proofs.YtjglbadkbhopoaaGreatDoor
namespace Go.Proofs.YtjglbadkbhopoaaGreatDoor
open Go.RowKit
set_option maxRecDepth 100000
set_option maxHeartbeats 8000000
set_option linter.unusedVariables false
theorem AppI.str : AppI Tryz.prog 41 9 Kd.str := ⟨Tryz.underlying41, ⟨.string ⟨#[]⟩, 16, by kernel_rfl, rfl, by decide⟩, by decide, fun q hq => by cases hq⟩
theorem str_at {e : Nat} {w : World} {A : Option Addr} {xs : List ByteArray} (h : Kd.str.C e w A xs) {i : Nat} {x : ByteArray} (hi : xs[i]? = some x) : ∃ ad, A = some ad ∧ w.cell? (ad.add i) = some (.string x) := by
  obtain ⟨ad, cs, _, _, ea, _, hk, hc⟩ := h i x hi
  obtain rfl : cs = [.string x] := hk
  have := hc 0 _ rfl
  rw [show i * Kd.str.sz + 0 = i from by show i * 1 + 0 = i; omega] at this
  exact ⟨ad, ea, this⟩
theorem wrd_c (s : ByteArray) (w : World) (hs : s.size ≤ 100000) :
    Calls Tryz.prog 111 #[.string s] w fun e w' => ∃ v ws, e = .returned v ∧ Kd.str.S 9 w' v ws ∧ 1 ≤ ws.length ∧ ws.length ≤ s.size + 1 ∧ (∀ x ∈ ws, x.size ≤ s.size) ∧ Below w.heap.size w w' := by
  have HO0 := Lib.hid (Kd.O_empty Kd.str 9 w (Nat.le_refl _))
  have HB0 := Lib.hid (bel_alloc (Below.refl w.heap.size w) (.cells #[] 9))
  go_enter Tryz.func111, Tryz.ntmps111
  go_wp2
  go_loopw [3, 4, 5] (fun v3 v4 v5 wr => ∃ (D : List ByteArray) (x : ByteArray) (k : Nat) (OA : Option Addr) (oc : Nat), v3 = .slice OA D.length oc ∧ v4 = .string x ∧ v5 = .int .i64 (k : Int) ∧ k ≤ s.size ∧ D.length ≤ k ∧ x.size ≤ k ∧ Hid (Kd.str.O 9 wr w.heap.size (.slice OA D.length oc) D) ∧ Hid (∀ y ∈ D, y.size ≤ s.size) ∧ Hid (Below w.heap.size w wr)) (fun _ _ v5 _ => s.size - (intOf v5).toNat)
  case atStart => exact ⟨[], ⟨#[]⟩, 0, _, _, rfl, rfl, rfl, Nat.zero_le _, Nat.zero_le _, Nat.zero_le _, HO0, Lib.hid (fun y hy => by cases hy), HB0⟩
  case round =>
    obtain ⟨D, x, k, OA, oc, rfl, rfl, rfl, hk, hD, hx, HOr, HSr, HBr⟩ := hrel
    clear HO0 HB0
    by_cases hlt : k < s.size
    · have hy := byt_at s k
      by_cases h32 : byt s k = 32
      · have f32 : (byt s k == 32) = true := beq_iff_eq.2 h32
        clear h32
        go_wp2_with (first | (at_builtin; refine wp_app AppI.str rfl rfl (Kd.O_alloc _ HOr.out) rfl (Kd.S_lit Kd.str _ (x := x) (cs := [.string x]) rfl rfl) rfl (by simp only [List.length_singleton]; omega) (Nat.le_trans HBr.out.size (bel_alloc (Below.refl _ _) _).size) ?_; intro v9 w9 hg; have hO9 := hg.own; obtain ⟨D2, hD2⟩ : ∃ D2, D ++ [x] = D2 := ⟨_, rfl⟩; rw [hD2] at hO9; have HO9 := Lib.hid hO9; have HD2 := Lib.hid hD2; obtain ⟨OB, od, rfl, -, -, -⟩ := Kd.O_read hO9; have HB9 := Lib.hid (hg.below (bel_alloc HBr.out (.cells #[.string x] 9)) (Kd.O_alloc _ HOr.out)); clear hg hO9 hD2) | fail)
        have hd2 : D2.length = D.length + 1 := by rw [← HD2.out, List.length_append, List.length_singleton]
        exact ⟨⟨D2, ⟨#[]⟩, k + 1, OB, od, rfl, rfl, by go_num, by omega, by omega, Nat.zero_le _, HO9, Lib.hid (fun y hy => by
          rw [← HD2.out, List.mem_append, List.mem_singleton] at hy
          rcases hy with hy | rfl
          · exact HSr.out y hy
          · omega), HB9⟩, by simp [intOf]; omega⟩
      · have f32 : (byt s k == 32) = false := beq_eq_false_iff_ne.2 h32
        clear h32
        obtain ⟨nx, hnx⟩ : ∃ nx, x ++ s.extract k (k + 1) = nx := ⟨_, rfl⟩
        have hns : nx.size ≤ k + 1 := by rw [← hnx, ByteArray.size_append, ByteArray.size_extract]; omega
        have hsz : ¬ 9223372036854775807 < x.size + (s.extract k (k + 1)).size := by rw [ByteArray.size_extract]; omega
        go_wp2
        exact ⟨⟨D, nx, k + 1, OA, oc, rfl, by first | rfl | rw [← hnx] | simp [hnx], by go_num, by omega, by omega, by omega, HOr, HSr, HBr⟩, by simp [intOf]; omega⟩
    · go_wp2_with (first | (at_builtin; refine wp_app AppI.str rfl rfl (Kd.O_alloc _ HOr.out) rfl (Kd.S_lit Kd.str _ (x := x) (cs := [.string x]) rfl rfl) rfl (by simp only [List.length_singleton]; omega) (Nat.le_trans HBr.out.size (bel_alloc (Below.refl _ _) _).size) ?_; intro v9 w9 hg; have hO9 := hg.own; obtain ⟨D2, hD2⟩ : ∃ D2, D ++ [x] = D2 := ⟨_, rfl⟩; rw [hD2] at hO9; have HO9 := Lib.hid hO9; have HD2 := Lib.hid hD2; obtain ⟨OB, od, rfl, -, -, -⟩ := Kd.O_read hO9; have HB9 := Lib.hid (hg.below (bel_alloc HBr.out (.cells #[.string x] 9)) (Kd.O_alloc _ HOr.out)); clear hg hO9 hD2) | fail)
      have hd2 : D2.length = D.length + 1 := by rw [← HD2.out, List.length_append, List.length_singleton]
      go_ret
      exact ⟨_, D2, rfl, Kd.O_read HO9.out, by omega, by omega, fun y hy => by
          rw [← HD2.out, List.mem_append, List.mem_singleton] at hy
          rcases hy with hy | rfl
          · exact HSr.out y hy
          · omega, HB9.out⟩
theorem cut_c (s u : ByteArray) (w : World) (hs : s.size ≤ 100000) (hu : u.size ≤ 1000) :
    Calls Tryz.prog 113 #[.string s, .string u] w fun e w' => ∃ (x y : ByteArray) (q : Bool), e = .returned (.tuple #[.string x, .string y, .bool q]) ∧ x.size ≤ s.size ∧ y.size ≤ s.size ∧ (q = true → y.size < s.size) ∧ Below w.heap.size w w' := by
  obtain ⟨z, hz⟩ : ∃ z, ⟨#[32]⟩ ++ u ++ ⟨#[32]⟩ = z := ⟨_, rfl⟩
  have hzs : z.size = u.size + 2 := by rw [← hz, ByteArray.size_append, ByteArray.size_append]; show 1 + u.size + 1 = _; omega
  have hz1 : z.size ≤ 1002 := by omega
  have hz2 : 2 ≤ z.size := by omega
  have hs1 : ¬ 9223372036854775807 < 1 + u.size := by omega
  have hs2 : ¬ 9223372036854775807 < 1 + u.size + 1 := by omega
  go_enter Tryz.func113, Tryz.ntmps113
  go_wp2
  clear hz hzs
  go_loopw [8] (fun v8 wr => ∃ k : Nat, v8 = .int .i64 (k : Int) ∧ k ≤ s.size ∧ Hid (Below w.heap.size w wr)) (fun v8 _ => s.size + 1 - (intOf v8).toNat)
  case atStart => exact ⟨0, rfl, Nat.zero_le _, Lib.hid (Below.refl _ _)⟩
  case round =>
    obtain ⟨k, rfl, hk, HBr⟩ := hrel
    by_cases hle : k + z.size ≤ s.size
    · have hq : (((s.extract k (k + z.size)).toList == z.toList) = true) ∨ (((s.extract k (k + z.size)).toList == z.toList) = false) := by cases ((s.extract k (k + z.size)).toList == z.toList) <;> simp
      have hkI : (k : Int) ≤ (s.size : Int) := by omega
      have hkz : (k : Int) + (z.size : Int) ≤ (s.size : Int) := by omega
      rcases hq with hq | hq
      · have hwr : IntKind.i64.wrap ((k : Int) + (z.size : Int)) = (k : Int) + (z.size : Int) := IntWalk.i64_in _ (by omega)
        go_upto_region 6 with fail
        go_quiet (fail)
        go_wp2
        go_ret3
        exact ⟨_, _, _, rfl, by rw [ByteArray.size_extract]; omega, by rw [ByteArray.size_extract]; omega, fun _ => by rw [ByteArray.size_extract]; omega, bel_drewN HBr.out _⟩
      · go_wp2
        exact ⟨⟨k + 1, by go_num, by omega, HBr⟩, by simp [intOf]; omega⟩
    · go_wp2
      go_ret3
      exact ⟨s, _, _, rfl, Nat.le_refl _, Nat.zero_le _, (fun h => by cases h), HBr.out⟩
theorem read3_c (ws : List ByteArray) (wv : Value) (w : World) (h : Kd.str.S 9 w wv ws) (hl : ws.length ≤ 10) (hs : ∀ x ∈ ws, x.size ≤ 100000) :
    Calls Tryz.prog 138 #[wv] w fun e w' => ∃ v ts q, e = .returned (.tuple #[v, .bool q]) ∧ Kd.trm.S 23 w' v ts ∧ ts.length ≤ ws.length ∧ (q = true → ts.length = ws.length) ∧ (∀ t ∈ ts, t.length ≤ 40 ∧ ∀ c ∈ t, c.s.size ≤ 1000000) ∧ Below w.heap.size w w' := by
  have HW := Lib.hid h
  have HS := Lib.hid hs
  obtain ⟨WA, wn, rfl, -, -, -⟩ := h
  have HO0 := Lib.hid (Kd.O_empty Kd.trm 23 w (Nat.le_refl _))
  have HB0 := Lib.hid (bel_alloc (Below.refl w.heap.size w) (.cells #[] 23))
  clear hs
  go_enter Tryz.func138, Tryz.ntmps138
  go_wp2
  go_loopw [4, 5] (fun v4 v5 wr => ∃ (D : List Trm) (k : Nat) (OA : Option Addr) (oc : Nat), v4 = .slice OA D.length oc ∧ v5 = .int .i64 (k : Int) ∧ k ≤ ws.length ∧ D.length = k ∧ Hid (Kd.trm.O 23 wr w.heap.size (.slice OA D.length oc) D) ∧ Hid (∀ t ∈ D, t.length ≤ 40 ∧ ∀ c ∈ t, c.s.size ≤ 1000000) ∧ Hid (Below w.heap.size w wr)) (fun _ v5 _ => ws.length - (intOf v5).toNat)
  case atStart => exact ⟨[], 0, _, _, rfl, rfl, Nat.zero_le _, rfl, HO0, Lib.hid (fun y hy => by cases hy), HB0⟩
  case round =>
    obtain ⟨D, k, OA, oc, rfl, rfl, hk, hD, HOr, HSr, HBr⟩ := hrel
    clear HO0 HB0
    have HDk := Lib.hid hD
    have hDb : D.length ≤ 10 := by omega
    clear hD
    by_cases hlt : k < ws.length
    · obtain ⟨x, hx⟩ : ∃ x, ws[k]? = some x := ⟨_, List.getElem?_eq_getElem hlt⟩
      have hxs := HS.out x (List.mem_of_getElem? hx)
      obtain ⟨A', c', ev, _, _, hC⟩ := HW.out
      injection ev with v1 v2 v3
      obtain ⟨ad, hAA, xc⟩ := str_at hC hx
      have xc := cell_keep HBr.out xc
      obtain rfl := v1.trans hAA
      have HRd := Lib.hid (read_c x wr (by omega))
      clear v1 v2 v3 hC hx hAA
      go_upto_region 6 with (first | (go_at_call 69; (with_reducible refine HRd.out.mono ?_); rintro e w1 ⟨tv, t, ok, rfl, ht, ht40, hts, hb'⟩; have HT1 := Lib.hid ht; have HTs := Lib.hid (And.intro ht40 hts); have HO1 := Lib.hid (Kd.O_ext hb' HOr.out); have HB1 := Lib.hid (bel_trans HBr.out hb'); obtain ⟨TA, tn, rfl, -, -, -⟩ := ht; clear ht40 hts hb') | fail)
      cases ok with
      | false =>
        go_wp2
        go_ret2
        exact ⟨_, D, _, rfl, Kd.O_read HO1.out, by have := HDk.out; omega, (fun h => by cases h), HSr.out, HB1.out⟩
      | true =>
        go_wp2_with (first | (at_builtin; refine wp_app AppI.trm rfl rfl (Kd.O_alloc _ HO1.out) rfl (Kd.S_lit Kd.trm _ (x := t) (cs := [.slice TA t.length tn]) ⟨_, rfl, HT1.out⟩ rfl) rfl (by simp only [List.length_singleton]; omega) (Nat.le_trans HB1.out.size (bel_alloc (Below.refl _ _) _).size) ?_; intro v9 w9 hg; have hO9 := hg.own; obtain ⟨D2, hD2⟩ : ∃ D2, D ++ [t] = D2 := ⟨_, rfl⟩; rw [hD2] at hO9; have HO9 := Lib.hid hO9; have HD2 := Lib.hid hD2; obtain ⟨OB, od, rfl, -, -, -⟩ := Kd.O_read hO9; have HB9 := Lib.hid (hg.below (bel_alloc HB1.out (.cells #[.slice TA t.length tn] 23)) (Kd.O_alloc _ HO1.out)); clear hg hO9 hD2) | fail)
        have hd2 : D2.length = D.length + 1 := by rw [← HD2.out, List.length_append, List.length_singleton]
        have hDk := HDk.out
        exact ⟨⟨D2, k + 1, OB, od, rfl, by go_num, by omega, by omega, HO9, Lib.hid (fun y hy => by
          rw [← HD2.out, List.mem_append, List.mem_singleton] at hy
          rcases hy with hy | rfl
          · exact HSr.out y hy
          · exact HTs.out), HB9⟩, by simp [intOf]; omega⟩
    · go_wp2
      go_ret2
      exact ⟨_, D, _, rfl, Kd.O_read HOr.out, by have := HDk.out; omega, (fun _ => by have := HDk.out; omega), HSr.out, HBr.out⟩
end Go.Proofs.YtjglbadkbhopoaaGreatDoor
