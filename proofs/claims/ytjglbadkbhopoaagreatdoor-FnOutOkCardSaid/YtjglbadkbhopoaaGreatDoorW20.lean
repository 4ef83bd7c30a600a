/- Lemmas and contracts for FnOutOk, part 20. -/
import Derived.Test.YtjglbadkbhopoaaGreatDoorW16
import Derived.Test.YtjglbadkbhopoaaGreatDoorW17
import Derived.Test.YtjglbadkbhopoaaGreatDoorW07
import Derived.Test.YtjglbadkbhopoaaGreatDoorW19
namespace Go.Proofs.YtjglbadkbhopoaaGreatDoor
open Go.RowKit
set_option maxRecDepth 100000
set_option maxHeartbeats 8000000
set_option linter.unusedVariables false
theorem fit_canon {t : Trm} (h : fitT t) : fitT (canon t) := ⟨by unfold canon; rw [List.length_map]; exact h.1, fun c hc => by
  unfold canon at hc
  obtain ⟨c', hc', rfl⟩ := List.mem_map.1 hc
  have := h.2 c' hc'
  split <;> exact this⟩
theorem fit_okT {t : Trm} (h : t = [] ∨ trmOk t = true) : fitT t := by
  rcases h with rfl | h
  · exact ⟨Nat.zero_le _, fun c hc => by cases hc⟩
  · obtain ⟨-, h2, h3⟩ := trmOk_iff.1 h
    exact ⟨Nat.le_trans h2 (by decide), fun c hc => Nat.le_trans (cell_fit (List.all_eq_true.1 h3 c hc)) (by decide)⟩
theorem progO_c {w0 W : World} {g M : Nat} (h : RQ w0 g M W) (hM : M ≤ 400000000) :
    Calls Tryz.prog 30 #[.pointer (some ⟨g, 0, none⟩)] W fun e w' => ∃ p p1 p2, e = .returned (.agg #[p1, p2]) ∧ PrR w' p p1 p2 ∧ prgOk p = true ∧ fitP p ∧ RQ w0 g (M + 200000) w' ∧ DW w0 W w' ∧ Kd.clause.O 126 w' w0.heap.size p1 p.cl ∧ Kd.place.O 121 w' w0.heap.size p2 p.pl := by
  have hsz := h.size
  have HR0 := Lib.hid (h.ext (bel_alloc (Below.refl _ _) (.cells #[.slice none 0 0, .slice none 0 0] 58)))
  have HD0 := Lib.hid (show DW w0 W (W.alloc (.cells #[.slice none 0 0, .slice none 0 0] 58)) from Wrote.of_below (e := 92) h.size (bel_alloc (Below.refl _ _) _))
  have HB0 := Lib.hid (Bx.new W 58 #[.slice none 0 0, .slice none 0 0])
  have HLn := Lib.hid (fun (M' : Nat) (W' : World) (h : RQ w0 g M' W') (hM : M' ≤ 400000000) => lines_c h hM)
  clear h
  go_enter Tryz.func30, Tryz.ntmps30
  go_upto_region 2 with (first | (go_at_call 65; (with_reducible refine HPc.out.mono ?_); rintro e w2 ⟨p, p1, p2, n, rfl, hP, hok, hfit, hb', hoc, hop⟩; have HU2 := Lib.hid (Kd.O_base hoc HR1.out.size); have HV2 := Lib.hid (Kd.O_base hop HR1.out.size); have HP2 := Lib.hid hP; have HK2 := Lib.hid (And.intro hok hfit); obtain ⟨CA, cn, rfl, -, -, -⟩ := hP.c; obtain ⟨PA, pn, rfl, -, -, -⟩ := hP.p; have HB2 := Lib.hid (Bx.below HB1.out hb'); have HR2 := Lib.hid (HR1.out.ext hb'); have HD2 := Lib.hid (DW.ext HD1.out hb' hsz); clear hP hok hfit hb' hoc hop) | (go_at_call 66; (with_reducible refine (HLn.out _ _ HR0.out (by omega)).mono ?_); rintro e w1 ⟨v, ls, rfl, hs, hlen, hz, hR, hw⟩; have HB1 := Lib.hid (Bx.but HB0.out hw.but (by decide)); have HPc := Lib.hid (parse_c ls v w1 hs (by omega) (fun x hx => Nat.le_trans (hz x hx) (by decide))); have HR1 := Lib.hid hR; have HD1 := Lib.hid (HD0.out.trans hw); clear hs hz hR hw) | fail)
  have hb3 : Below w2.heap.size w2 (w2.alloc (.cells #[.slice CA p.cl.length cn, .slice PA p.pl.length pn] 58)) := bel_alloc (Below.refl _ _) _
  have hx3 : Bx (w2.alloc (.cells #[.slice CA p.cl.length cn, .slice PA p.pl.length pn] 58)) w2.heap.size 58 #[.slice CA p.cl.length cn, .slice PA p.pl.length pn] := Bx.new w2 58 _
  generalize (w2.alloc (.cells #[.slice CA p.cl.length cn, .slice PA p.pl.length pn] 58)) = w3 at *
  have HB3 := Lib.hid (Bx.below HB2.out hb3)
  have HR3 := Lib.hid (HR2.out.ext hb3)
  have HD3 := Lib.hid (DW.ext HD2.out hb3 hsz)
  have HP3 := Lib.hid (HP2.out.ext hb3)
  have HU3 := Lib.hid (Kd.O_ext hb3 HU2.out)
  have HV3 := Lib.hid (Kd.O_ext hb3 HV2.out)
  have x0 := Bx.at' hx3 0 (.slice CA p.cl.length cn) rfl
  have x1 := Bx.at' hx3 1 (.slice PA p.pl.length pn) rfl
  clear hx3 hb3
  obtain ⟨m0, m1, m2, m3, HE⟩ := put_2 HB3.out (.slice CA p.cl.length cn) (.slice PA p.pl.length pn)
  go_wp2
  refine bodyPost_ret (results_cell_row rfl _ _ (W.heap.size) 58 _ (0, 0) _ rfl HE.out.1 Tryz.underlying58 rfl (by kernel_rfl)) rfl ?_
  exact ⟨p, _, _, rfl, ⟨HE.out.2.1.S HP3.out.c (by decide), HE.out.2.1.S HP3.out.p (by decide)⟩, HK2.out.1, HK2.out.2, HR3.out.wrote (b := w0.heap.size) ⟨HE.out.2.2 w0.heap.size _ hsz (Below.refl _ _), HE.out.2.1⟩ (Nat.le_refl _) (by decide), DW.own HD3.out (HE.out.2.2 W.heap.size _ (Nat.le_refl _) (Below.refl _ _)) hsz, HE.out.2.1.O HU3.out (by decide), HE.out.2.1.O HV3.out (by decide)⟩
theorem prog_c {w0 W : World} {g M : Nat} (h : RQ w0 g M W) (hM : M ≤ 400000000) :
    Calls Tryz.prog 30 #[.pointer (some ⟨g, 0, none⟩)] W fun e w' => ∃ p p1 p2, e = .returned (.agg #[p1, p2]) ∧ PrR w' p p1 p2 ∧ prgOk p = true ∧ fitP p ∧ RQ w0 g (M + 200000) w' ∧ DW w0 W w' := (progO_c h hM).mono (by
  rintro e w' ⟨p, p1, p2, rfl, hP, hok, hf, hR, hw, -, -⟩
  exact ⟨p, p1, p2, rfl, hP, hok, hf, hR, hw⟩)
theorem ints6 {i z : Nat} (hi : i < 18) (hz : z < 6) : ∃ j : Nat, (#[Value.int .i64 (i : Int), .int .i64 10, .int .i64 4, .int .i64 2, .int .i64 15, .int .i64 3] : Array Value)[z]? = some (.int .i64 (j : Int)) ∧ j < 18 := by
  match z, hz with
  | 0, _ => exact ⟨i, rfl, hi⟩
  | 1, _ => exact ⟨10, rfl, by decide⟩
  | 2, _ => exact ⟨4, rfl, by decide⟩
  | 3, _ => exact ⟨2, rfl, by decide⟩
  | 4, _ => exact ⟨15, rfl, by decide⟩
  | 5, _ => exact ⟨3, rfl, by decide⟩
theorem str_in {w : World} {A : Option Addr} {n c : Nat} {xs : List ByteArray} (h : Kd.str.S 9 w (.slice A n c) xs) {i : Nat} (hi : i < xs.length) : ∃ ad x, A = some ad ∧ w.cell? (ad.add i) = some (.string x) ∧ x ∈ xs := by
  obtain ⟨A', c', ev, -, -, hC⟩ := h
  injection ev with v1 v2 v3
  subst v1
  obtain ⟨ad, ea, hc⟩ := str_at hC (List.getElem?_eq_getElem hi)
  exact ⟨ad, _, ea, hc, List.getElem_mem hi⟩
def TpP (w0 W : World) (g M : Nat) (e : Ending) (w' : World) : Prop := ∃ v t, e = .returned v ∧ T0 w' v t ∧ fitT t ∧ RQ w0 g M w' ∧ DW w0 W w'
theorem topD_c {w0 W : World} {g M : Nat} (h : RQ w0 g M W) (hM : M ≤ 500000000) :
    Calls Tryz.prog 31 #[.pointer (some ⟨g, 0, none⟩)] W (TpP w0 W g (M + 2000)) := by
  have hsz := h.size
  have HR0 := Lib.hid h
  have HD0 := Lib.hid (Wrote.refl w0.heap.size 92 W h.size)
  clear h
  go_enter Tryz.func31, Tryz.ntmps31
  go_upto_region 4 with (first | (go_at_call_of 34 (Value.int .i64 5); refine (rq_pick HR0.out (by omega) _ (by omega) (by omega)).mono ?_; rintro e wp1 ⟨v, rfl, hv, hR, hw⟩; obtain ⟨hv0, hv1, -⟩ := hv; have hv2 := hv1 (by omega); obtain ⟨k, rfl⟩ : ∃ i : Nat, v = i := ⟨v.toNat, by omega⟩; have hk : k < 5 := (by omega); have HR1 := Lib.hid hR; have HW1 := Lib.hid hw; have HD1 := Lib.hid (HD0.out.trans hw); clear hv0 hv1 hv2 hR hw) | (go_at_call 67; (refine (head_c HR1.out (by omega)).mono ?_); rintro e w2 ⟨v, t, rfl, ht, hto, hR, hw⟩; have htf := fit_okT hto; have HF := Lib.hid (fit_canon htf); have HCn := Lib.hid (canonS_c t v w2 ht (fit_len htf)); have HR2 := Lib.hid hR; have HD2 := Lib.hid (HD1.out.trans hw); clear ht hto hR hw htf) | (go_at_call 23; (with_reducible refine HCn.out.mono ?_); rintro e w3 ⟨v3, rfl, h3, hb'⟩; have HT3 := Lib.hid h3; have HR3 := Lib.hid (HR2.out.ext hb'); have HD3 := Lib.hid (DW.ext HD2.out hb' hsz); clear h3 hb') | (go_at_call 68; (with_reducible refine (quest_c _).mono ?_); rintro e w2 ⟨v, qs, rfl, hS, hl, hz, hb'⟩; have HS2 := Lib.hid hS; have HL2 := Lib.hid hl; have HZ2 := Lib.hid hz; obtain ⟨QA, qn, rfl, -, -, -⟩ := hS; rw [hl]; have HR2 := Lib.hid (HR1.out.ext hb'); have HD2 := Lib.hid (DW.ext HD1.out hb' hsz); clear hl hz hb') | fail)
  · go_ret
    exact ⟨_, _, rfl, HT3.out, HF.out, HR3.out.mono (by omega), HD3.out⟩
  · go_wp2_with (first | (go_at_call_of 34 (Value.int .i64 18); refine (rq_pick HR2.out (by omega) _ (by omega) (by omega)).mono ?_; rintro e wp3 ⟨v, rfl, hv, hR, hw⟩; obtain ⟨hv0, hv1, -⟩ := hv; have hv2 := hv1 (by omega); obtain ⟨i, rfl⟩ : ∃ i : Nat, v = i := ⟨v.toNat, by omega⟩; have hi : i < 18 := (by omega); have HR3 := Lib.hid hR; have HW3 := Lib.hid hw; have HS3 := Lib.hid (hw.S HS2.out (by decide)); have HD3 := Lib.hid (HD2.out.trans hw); clear hv0 hv1 hv2 hR hw) | (go_at_call_of 34 (Value.int .i64 6); refine (rq_pick (HR3.out.ext (bel_alloc (Below.refl _ _) (.cells #[.int .i64 (i : Int), .int .i64 10, .int .i64 4, .int .i64 2, .int .i64 15, .int .i64 3] 3))) (by omega) _ (by omega) (by omega)).mono ?_; rintro e wp4 ⟨v, rfl, hv, hR, hw⟩; obtain ⟨hv0, hv1, -⟩ := hv; have hv2 := hv1 (by omega); obtain ⟨z, rfl⟩ : ∃ i : Nat, v = i := ⟨v.toNat, by omega⟩; have hz : z < 6 := (by omega); have hz1 : (z : Int) < 6 := (by omega); obtain ⟨j, hj, hj18⟩ := ints6 hi hz; have hj1 : (j : Int) < 18 := (by omega); have hcz := (Bx.cell (Bx.but (Bx.new wp3 3 #[.int .i64 (i : Int), .int .i64 10, .int .i64 4, .int .i64 2, .int .i64 15, .int .i64 3]) hw.but (by decide)) z).trans hj; have hS4 := hw.S (Kd.S_alloc (.cells #[.int .i64 (i : Int), .int .i64 10, .int .i64 4, .int .i64 2, .int .i64 15, .int .i64 3] 3) HS3.out) (by decide); obtain ⟨ad, x, rfl, hcx, hxm⟩ := str_in hS4 (i := j) (by rw [HL2.out]; exact hj18); have hx100 := HZ2.out x hxm; have HR4 := Lib.hid hR; have HD4 := Lib.hid ((DW.ext HD3.out (bel_alloc (Below.refl _ _) (.cells #[.int .i64 (i : Int), .int .i64 10, .int .i64 4, .int .i64 2, .int .i64 15, .int .i64 3] 3)) hsz).trans hw); clear hv0 hv1 hv2 hR hw hj hS4 hxm) | (go_at_call 69; (refine (read_c x _ (by omega)).mono ?_); rintro e w5 ⟨v5, t, ok, rfl, ht, htl, hts, hb'⟩; have HT5 := Lib.hid ht; have HF5 := Lib.hid (show fitT t from ⟨by omega, fun c hc => Nat.le_trans (hts c hc) (by decide)⟩); have HR5 := Lib.hid (HR4.out.ext hb'); have HD5 := Lib.hid (DW.ext HD4.out hb' hsz); clear ht htl hts hb') | fail)
    go_ret
    exact ⟨_, t, rfl, HT5.out, HF5.out, HR5.out.mono (by omega), HD5.out⟩
theorem cell_one (w : World) (k n : Int) (s : ByteArray) : Kd.cell.S 47 (w.alloc (.cells #[.int .i64 k, .int .i64 n, .string s] 47)) (.slice (some ⟨w.heap.size, 0, none⟩) 1 1) [⟨k, n, s⟩] := Kd.S_lit Kd.cell 47 (x := ⟨k, n, s⟩) (cs := [.int .i64 k, .int .i64 n, .string s]) rfl rfl
theorem cell_two (w : World) (k n k' n' : Int) (s s' : ByteArray) : Kd.cell.S 47 (w.alloc (.cells #[.int .i64 k, .int .i64 n, .string s, .int .i64 k', .int .i64 n', .string s'] 47)) (.slice (some ⟨w.heap.size, 0, none⟩) 2 2) [⟨k, n, s⟩, ⟨k', n', s'⟩] := by
  have hb := Bx.new w 47 #[.int .i64 k, .int .i64 n, .string s, .int .i64 k', .int .i64 n', .string s']
  refine ⟨_, 2, rfl, Nat.le_refl _, by unfold maxLen; show 2 ≤ _; decide, fun i x hx => ?_⟩
  match i, hx with
  | 0, hx =>
    obtain rfl := Option.some.inj hx
    refine ⟨⟨w.heap.size, 0, none⟩, [.int .i64 k, .int .i64 n, .string s], _, (0, 0), rfl, hb, rfl, fun j u hu => ?_⟩
    rw [addr0]
    match j, hu with
    | 0, hu => exact (Bx.cell hb 0).trans hu
    | 1, hu => exact (Bx.cell hb 1).trans hu
    | 2, hu => exact (Bx.cell hb 2).trans hu
    | j + 3, hu => simp at hu
  | 1, hx =>
    obtain rfl := Option.some.inj hx
    refine ⟨⟨w.heap.size, 0, none⟩, [.int .i64 k', .int .i64 n', .string s'], _, (0, 0), rfl, hb, rfl, fun j u hu => ?_⟩
    rw [addr0]
    match j, hu with
    | 0, hu => exact (Bx.cell hb 3).trans hu
    | 1, hu => exact (Bx.cell hb 4).trans hu
    | 2, hu => exact (Bx.cell hb 5).trans hu
    | j + 3, hu => simp at hu
  | i + 2, hx => simp at hx
theorem tops5 (w : World) : Bx ((((((w.alloc (.cells #[] 47)).alloc (.cells #[.int .i64 1, .int .i64 0, .string ⟨#[]⟩] 47)).alloc (.cells #[.int .i64 2, .int .i64 3, .string ⟨#[]⟩] 47)).alloc (.cells #[.int .i64 3, .int .i64 1, .string ⟨#[101]⟩, .int .i64 1, .int .i64 1, .string ⟨#[]⟩] 47)).alloc (.cells #[.int .i64 3, .int .i64 1, .string ⟨#[101]⟩] 47)).alloc (.cells #[.slice (some ⟨w.heap.size, 0, none⟩) 0 0, .slice (some ⟨w.heap.size + 1, 0, none⟩) 1 1, .slice (some ⟨w.heap.size + 1 + 1, 0, none⟩) 1 1, .slice (some ⟨w.heap.size + 1 + 1 + 1, 0, none⟩) 2 2, .slice (some ⟨w.heap.size + 1 + 1 + 1 + 1, 0, none⟩) 1 1] 23)) (w.heap.size + 1 + 1 + 1 + 1 + 1) 23 #[.slice (some ⟨w.heap.size, 0, none⟩) 0 0, .slice (some ⟨w.heap.size + 1, 0, none⟩) 1 1, .slice (some ⟨w.heap.size + 1 + 1, 0, none⟩) 1 1, .slice (some ⟨w.heap.size + 1 + 1 + 1, 0, none⟩) 2 2, .slice (some ⟨w.heap.size + 1 + 1 + 1 + 1, 0, none⟩) 1 1] ∧ ∀ z, z < 5 → ∃ (A : Option Addr) (n : Nat) (t : Trm), (#[.slice (some ⟨w.heap.size, 0, none⟩) 0 0, .slice (some ⟨w.heap.size + 1, 0, none⟩) 1 1, .slice (some ⟨w.heap.size + 1 + 1, 0, none⟩) 1 1, .slice (some ⟨w.heap.size + 1 + 1 + 1, 0, none⟩) 2 2, .slice (some ⟨w.heap.size + 1 + 1 + 1 + 1, 0, none⟩) 1 1] : Array Value)[z]? = some (.slice A t.length n) ∧ T0 ((((((w.alloc (.cells #[] 47)).alloc (.cells #[.int .i64 1, .int .i64 0, .string ⟨#[]⟩] 47)).alloc (.cells #[.int .i64 2, .int .i64 3, .string ⟨#[]⟩] 47)).alloc (.cells #[.int .i64 3, .int .i64 1, .string ⟨#[101]⟩, .int .i64 1, .int .i64 1, .string ⟨#[]⟩] 47)).alloc (.cells #[.int .i64 3, .int .i64 1, .string ⟨#[101]⟩] 47)).alloc (.cells #[.slice (some ⟨w.heap.size, 0, none⟩) 0 0, .slice (some ⟨w.heap.size + 1, 0, none⟩) 1 1, .slice (some ⟨w.heap.size + 1 + 1, 0, none⟩) 1 1, .slice (some ⟨w.heap.size + 1 + 1 + 1, 0, none⟩) 2 2, .slice (some ⟨w.heap.size + 1 + 1 + 1 + 1, 0, none⟩) 1 1] 23)) (.slice A t.length n) t ∧ fitT t := by
  refine ⟨by have h := Bx.new (((((w.alloc (.cells #[] 47)).alloc (.cells #[.int .i64 1, .int .i64 0, .string ⟨#[]⟩] 47)).alloc (.cells #[.int .i64 2, .int .i64 3, .string ⟨#[]⟩] 47)).alloc (.cells #[.int .i64 3, .int .i64 1, .string ⟨#[101]⟩, .int .i64 1, .int .i64 1, .string ⟨#[]⟩] 47)).alloc (.cells #[.int .i64 3, .int .i64 1, .string ⟨#[101]⟩] 47)) 23 #[.slice (some ⟨w.heap.size, 0, none⟩) 0 0, .slice (some ⟨w.heap.size + 1, 0, none⟩) 1 1, .slice (some ⟨w.heap.size + 1 + 1, 0, none⟩) 1 1, .slice (some ⟨w.heap.size + 1 + 1 + 1, 0, none⟩) 2 2, .slice (some ⟨w.heap.size + 1 + 1 + 1 + 1, 0, none⟩) 1 1]; simp only [size_alloc] at h; exact h, fun z hz => ?_⟩
  match z, hz with
  | 0, _ =>
    refine ⟨_, _, [], rfl, ?_, ⟨by decide, by decide⟩⟩
    have h := Kd.O_read (Kd.O_empty Kd.cell 47 w (Nat.le_refl _))
    try simp only [size_alloc] at h
    exact Kd.S_alloc _ (Kd.S_alloc _ (Kd.S_alloc _ (Kd.S_alloc _ (Kd.S_alloc _ (h)))))
  | 1, _ =>
    refine ⟨_, _, [⟨1, 0, ⟨#[]⟩⟩], rfl, ?_, ⟨by decide, by decide⟩⟩
    have h := cell_one (w.alloc (.cells #[] 47)) 1 0 ⟨#[]⟩
    try simp only [size_alloc] at h
    exact Kd.S_alloc _ (Kd.S_alloc _ (Kd.S_alloc _ (Kd.S_alloc _ (h))))
  | 2, _ =>
    refine ⟨_, _, [⟨2, 3, ⟨#[]⟩⟩], rfl, ?_, ⟨by decide, by decide⟩⟩
    have h := cell_one ((w.alloc (.cells #[] 47)).alloc (.cells #[.int .i64 1, .int .i64 0, .string ⟨#[]⟩] 47)) 2 3 ⟨#[]⟩
    try simp only [size_alloc] at h
    exact Kd.S_alloc _ (Kd.S_alloc _ (Kd.S_alloc _ (h)))
  | 3, _ =>
    refine ⟨_, _, [⟨3, 1, ⟨#[101]⟩⟩, ⟨1, 1, ⟨#[]⟩⟩], rfl, ?_, ⟨by decide, by decide⟩⟩
    have h := cell_two (((w.alloc (.cells #[] 47)).alloc (.cells #[.int .i64 1, .int .i64 0, .string ⟨#[]⟩] 47)).alloc (.cells #[.int .i64 2, .int .i64 3, .string ⟨#[]⟩] 47)) 3 1 1 1 ⟨#[101]⟩ ⟨#[]⟩
    try simp only [size_alloc] at h
    exact Kd.S_alloc _ (Kd.S_alloc _ (h))
  | 4, _ =>
    refine ⟨_, _, [⟨3, 1, ⟨#[101]⟩⟩], rfl, ?_, ⟨by decide, by decide⟩⟩
    have h := cell_one ((((w.alloc (.cells #[] 47)).alloc (.cells #[.int .i64 1, .int .i64 0, .string ⟨#[]⟩] 47)).alloc (.cells #[.int .i64 2, .int .i64 3, .string ⟨#[]⟩] 47)).alloc (.cells #[.int .i64 3, .int .i64 1, .string ⟨#[101]⟩, .int .i64 1, .int .i64 1, .string ⟨#[]⟩] 47)) 3 1 ⟨#[101]⟩
    try simp only [size_alloc] at h
    exact Kd.S_alloc _ (h)
theorem topOr_c {w0 W : World} {g M : Nat} (h : RQ w0 g M W) (hM : M ≤ 450000000) (n : Nat) (hn : 1 ≤ n) (hn2 : n ≤ 100000) :
    Calls Tryz.prog 36 #[.pointer (some ⟨g, 0, none⟩), .int .i64 (n : Int)] W (TpP w0 W g (M + 3000)) := by
  have hsz := h.size
  have HR0 := Lib.hid h
  have HD0 := Lib.hid (Wrote.refl w0.heap.size 92 W h.size)
  clear h
  go_enter Tryz.func36, Tryz.ntmps36
  go_wp2_with (first | (go_at_call 33; (refine (odd_c HR0.out (by omega) (n : Int) (by omega) (by omega)).mono ?_); rintro e w1 ⟨bo, rfl, hR, hw⟩; have HR1 := Lib.hid hR; have HD1 := Lib.hid (HD0.out.trans hw); clear hR hw) | (go_at_call_of 34 (Value.int .i64 5); refine (rq_pick (HR1.out.ext (bel_alloc (bel_alloc (bel_alloc (bel_alloc (bel_alloc (bel_alloc (Below.refl _ _) _) _) _) _) _) _)) (by omega) _ (by omega) (by omega)).mono ?_; rintro e wp ⟨v, rfl, hv, hR, hw⟩; obtain ⟨hv0, hv1, -⟩ := hv; have hv2 := hv1 (by omega); obtain ⟨z, rfl⟩ : ∃ i : Nat, v = i := ⟨v.toNat, by omega⟩; have hz : z < 5 := (by omega); have hz1 : (z : Int) < 5 := (by omega); obtain ⟨hbx, hro⟩ := tops5 w1; obtain ⟨A, c, t, hrow, hT, hF⟩ := hro z hz; have hcz := (Bx.cell (Bx.but hbx hw.but (by decide)) z).trans hrow; have HT := Lib.hid (hw.S hT (by decide)); have HF := Lib.hid hF; have HR2 := Lib.hid hR; have HD2 := Lib.hid ((DW.ext HD1.out (bel_alloc (bel_alloc (bel_alloc (bel_alloc (bel_alloc (bel_alloc (Below.refl _ _) _) _) _) _) _) _) hsz).trans hw); clear hv0 hv1 hv2 hR hw hbx hro hrow hT hF) | (go_at_call 31; (refine (topD_c HR1.out (by omega)).mono ?_); rintro e w2 ⟨v, t, rfl, ht, hF, hR, hw⟩; have HT := Lib.hid ht; have HF := Lib.hid hF; have HR2 := Lib.hid hR; have HD2 := Lib.hid (HD1.out.trans hw); clear ht hF hR hw) | fail)
  all_goals
    go_ret
    exact ⟨_, t, rfl, HT.out, HF.out, HR2.out.mono (by omega), HD2.out⟩
end Go.Proofs.YtjglbadkbhopoaaGreatDoor
namespace Go.Proofs.YtjglbadkbhopoaaGreatDoor
open Go.RowKit
set_option maxRecDepth 100000
set_option maxHeartbeats 8000000
set_option linter.unusedVariables false
theorem meet_keep {s : TSt} {s' : Binds} {rest : List SGoal} (hst : s.st = 1) (hou : s.out = []) : ({ s with st := 1, binds := s', goals := rest, vars := s.vars + 0, out := [] } : TSt) = { s with binds := s', goals := rest } := by
  obtain ⟨a, b, c, d, e, f, g⟩ := s
  simp only at hst hou
  subst hst
  subst hou
  simp
theorem same4_c {q : Bool} {n : Nat} {p : Prog} (s r : TSt) (a b : Trm) (rest : List SGoal) (p1 p2 gv bv cv tv ov av xv hv : Value) (B L : Nat) (w : World) (hr : tMeet (tBack n p) s a b rest 0 = some r) (hst1 : s.st = 1) (hou : s.out = []) (hT : Tinv q p (-1) s) (hp : PrR w p p1 p2) (hs : StV B w s gv bv cv tv ov) (hB : B ≤ w.heap.size) (hL : ChB L s) (hL9 : L ≤ 900000000)
    (ha : termV s.vars a = true) (hb : termV s.vars b = true) (h1 : T0 w av a) (h2 : T0 w xv b) (h3 : G0 w hv rest) :
    Calls Tryz.prog 122 #[.agg #[p1, p2], .agg #[.int .i64 s.st, gv, bv, .int .i64 s.vars, cv, tv, ov], av, xv, hv] w (Post4 B w r) := by
  have HT := Lib.hid hT
  have HPr := Lib.hid hp
  have HSt := Lib.hid hs
  have HLL := Lib.hid hL
  have hsl := sub_len4 hT.sub
  have htl := isQ_len4 hT.top
  have hvv := hT.v
  have H1 := Lib.hid h1
  have H2 := Lib.hid h2
  have H3 := Lib.hid h3
  have HCp := Lib.hid (fun W (hb' : Below w.heap.size w W) => copyS_c s.binds bv W (Kd.S_ext hb' hs.b) hsl.1 hsl.2)
  have HMt := fun W b0 v (hb' : Below w.heap.size w W) (hO : Kd.bind.O 107 W b0 v s.binds) (h0 : b0 ≤ W.heap.size) => meetS_c (Vn s.vars) b0 s.binds v av xv a b W (binv_n hT.sub hT.bb) (termV_pok ha hb) (by rw [Vn_len]; omega) hO (Kd.S_ext hb' h1) (Kd.S_ext hb' h2) h0
  have HMk := fun s' hm => marks_meet hT (more := 0) (s' := s') (a := a) (b := b) (by decide) (by omega) (by simpa using ha) (by simpa using hb) hm
  have HBk := Lib.hid (fun W (hrb : tBack n p s = some r) (hb' : Below w.heap.size w W) => back4_c p n s r p1 p2 gv bv cv tv ov B L W hrb hT (hp.ext hb') (hs.ext hb') (Nat.le_trans hB hb'.size) hL hL9)
  have HEn := Lib.hid (fun W (hb' : Below w.heap.size w W) => ends4_c s 4 gv bv cv tv ov W (hs.ext hb') (by omega))
  obtain ⟨P1, q1, rfl, -, -, -⟩ := hp.c
  obtain ⟨P2, q2, rfl, -, -, -⟩ := hp.p
  obtain ⟨GA, gn, rfl, -, -, -⟩ := hs.g
  obtain ⟨BA, bn, rfl, -, -, -⟩ := hs.b
  obtain ⟨CA, cn, ec, -, -, -⟩ := Kd.O_read hs.c
  rw [List.length_map] at ec
  obtain rfl := ec
  obtain ⟨TA, tn, rfl, -, -, -⟩ := hs.t
  obtain ⟨OA, on, rfl, -, -, -⟩ := hs.o
  obtain ⟨XA, xn, rfl, -, -, -⟩ := h1
  obtain ⟨YA, yn, rfl, -, -, -⟩ := h2
  obtain ⟨HA, hn, rfl, -, -, -⟩ := h3
  have HB0 := Lib.hid (show Below w.heap.size w (((w.alloc (.cells #[.slice P1 p.cl.length q1, .slice P2 p.pl.length q2] 58)).alloc (.cells #[.int .i64 s.st, .slice GA s.goals.length gn, .slice BA s.binds.length bn, .int .i64 s.vars, .slice CA s.ch.length cn, .slice TA s.top.length tn, .slice OA s.out.length on] 139)).alloc (.cells #[.int .i64 0, .slice none 0 0, .slice none 0 0, .int .i64 0, .slice none 0 0, .slice none 0 0, .slice none 0 0] 139)) from bel_alloc (bel_alloc (bel_alloc (Below.refl _ _) _) _) _)
  have HP0 := Lib.hid (show Bx (((w.alloc (.cells #[.slice P1 p.cl.length q1, .slice P2 p.pl.length q2] 58)).alloc (.cells #[.int .i64 s.st, .slice GA s.goals.length gn, .slice BA s.binds.length bn, .int .i64 s.vars, .slice CA s.ch.length cn, .slice TA s.top.length tn, .slice OA s.out.length on] 139)).alloc (.cells #[.int .i64 0, .slice none 0 0, .slice none 0 0, .int .i64 0, .slice none 0 0, .slice none 0 0, .slice none 0 0] 139)) (w.heap.size) 58 #[.slice P1 p.cl.length q1, .slice P2 p.pl.length q2] from by have h := Bx.alloc (Bx.alloc (Bx.new w 58 #[.slice P1 p.cl.length q1, .slice P2 p.pl.length q2]) (.cells #[.int .i64 s.st, .slice GA s.goals.length gn, .slice BA s.binds.length bn, .int .i64 s.vars, .slice CA s.ch.length cn, .slice TA s.top.length tn, .slice OA s.out.length on] 139)) (.cells #[.int .i64 0, .slice none 0 0, .slice none 0 0, .int .i64 0, .slice none 0 0, .slice none 0 0, .slice none 0 0] 139); simpa only [size_alloc] using h)
  have HS0 := Lib.hid (show Bx (((w.alloc (.cells #[.slice P1 p.cl.length q1, .slice P2 p.pl.length q2] 58)).alloc (.cells #[.int .i64 s.st, .slice GA s.goals.length gn, .slice BA s.binds.length bn, .int .i64 s.vars, .slice CA s.ch.length cn, .slice TA s.top.length tn, .slice OA s.out.length on] 139)).alloc (.cells #[.int .i64 0, .slice none 0 0, .slice none 0 0, .int .i64 0, .slice none 0 0, .slice none 0 0, .slice none 0 0] 139)) (w.heap.size + 1) 139 #[.int .i64 s.st, .slice GA s.goals.length gn, .slice BA s.binds.length bn, .int .i64 s.vars, .slice CA s.ch.length cn, .slice TA s.top.length tn, .slice OA s.out.length on] from by have h := Bx.alloc (Bx.new (w.alloc (.cells #[.slice P1 p.cl.length q1, .slice P2 p.pl.length q2] 58)) 139 #[.int .i64 s.st, .slice GA s.goals.length gn, .slice BA s.binds.length bn, .int .i64 s.vars, .slice CA s.ch.length cn, .slice TA s.top.length tn, .slice OA s.out.length on]) (.cells #[.int .i64 0, .slice none 0 0, .slice none 0 0, .int .i64 0, .slice none 0 0, .slice none 0 0, .slice none 0 0] 139); simpa only [size_alloc] using h)
  have HR0 := Lib.hid (show Bx (((w.alloc (.cells #[.slice P1 p.cl.length q1, .slice P2 p.pl.length q2] 58)).alloc (.cells #[.int .i64 s.st, .slice GA s.goals.length gn, .slice BA s.binds.length bn, .int .i64 s.vars, .slice CA s.ch.length cn, .slice TA s.top.length tn, .slice OA s.out.length on] 139)).alloc (.cells #[.int .i64 0, .slice none 0 0, .slice none 0 0, .int .i64 0, .slice none 0 0, .slice none 0 0, .slice none 0 0] 139)) (w.heap.size + 1 + 1) 139 #[.int .i64 0, .slice none 0 0, .slice none 0 0, .int .i64 0, .slice none 0 0, .slice none 0 0, .slice none 0 0] from by have h := Bx.new ((w.alloc (.cells #[.slice P1 p.cl.length q1, .slice P2 p.pl.length q2] 58)).alloc (.cells #[.int .i64 s.st, .slice GA s.goals.length gn, .slice BA s.binds.length bn, .int .i64 s.vars, .slice CA s.ch.length cn, .slice TA s.top.length tn, .slice OA s.out.length on] 139)) 139 #[.int .i64 0, .slice none 0 0, .slice none 0 0, .int .i64 0, .slice none 0 0, .slice none 0 0, .slice none 0 0]; simpa only [size_alloc] using h)
  rcases meet_cases s.binds a b with ⟨s', hm⟩ | hm | hm
  · have HMk := Lib.hid (HMk s' hm)
    rw [hm] at HMt
    have HMt := Lib.hid HMt
    unfold tMeet at hr
    rw [hm, if_neg (show ¬ (1 : Int) = 3 by decide), if_neg (show ¬ (1 : Int) = 2 by decide)] at hr
    obtain rfl : { s with binds := s', goals := rest } = r := (meet_keep hst1 hou).symm.trans (Option.some.inj hr)
    clear hst1 hou hr hm hT hp hs hL ha hb
    go_enter Tryz.func122, Tryz.ntmps122
    go_wp2_with (first | (go_at_call 144; (with_reducible refine (HCp.out _ HB0.out).mono ?_); rintro e w1 ⟨v1, rfl, ho, hb'⟩; have HO1 := Lib.hid ho; obtain ⟨VA1, vn1, rfl, -, -, -⟩ := Kd.O_read ho; have hsz1 := Lib.hid hb'.size; have HB01 := Lib.hid hb'; have HB1 := Lib.hid (bel_trans HB0.out hb'); have HP1 := Lib.hid (Bx.below HP0.out hb'); have p1_0 := Bx.at' HP1.out 0 (.slice P1 p.cl.length q1) rfl; have p1_1 := Bx.at' HP1.out 1 (.slice P2 p.pl.length q2) rfl; have HS1 := Lib.hid (Bx.below HS0.out hb'); have s1_0 := Bx.at' HS1.out 0 (.int .i64 s.st) rfl; have s1_1 := Bx.at' HS1.out 1 (.slice GA s.goals.length gn) rfl; have s1_2 := Bx.at' HS1.out 2 (.slice BA s.binds.length bn) rfl; have s1_3 := Bx.at' HS1.out 3 (.int .i64 s.vars) rfl; have s1_4 := Bx.at' HS1.out 4 (.slice CA s.ch.length cn) rfl; have s1_5 := Bx.at' HS1.out 5 (.slice TA s.top.length tn) rfl; have s1_6 := Bx.at' HS1.out 6 (.slice OA s.out.length on) rfl; have HR1 := Lib.hid (Bx.below HR0.out hb'); clear ho hb') | (go_at_call 143; (with_reducible refine (HMt.out _ _ _ HB1.out HO1.out hsz1.out).mono ?_); rintro e w2 ⟨v2, rfl, ho, hw⟩; have HO2 := Lib.hid ho; obtain ⟨VA, vn, rfl, -, -, -⟩ := Kd.O_read ho; have hb' := HB01.out.trans hw.bel; have HB2 := Lib.hid (bel_trans HB0.out hb'); have HP2 := Lib.hid (Bx.below HP0.out hb'); have p2_0 := Bx.at' HP2.out 0 (.slice P1 p.cl.length q1) rfl; have p2_1 := Bx.at' HP2.out 1 (.slice P2 p.pl.length q2) rfl; have HS2 := Lib.hid (Bx.below HS0.out hb'); have s2_0 := Bx.at' HS2.out 0 (.int .i64 s.st) rfl; have s2_1 := Bx.at' HS2.out 1 (.slice GA s.goals.length gn) rfl; have s2_2 := Bx.at' HS2.out 2 (.slice BA s.binds.length bn) rfl; have s2_3 := Bx.at' HS2.out 3 (.int .i64 s.vars) rfl; have s2_4 := Bx.at' HS2.out 4 (.slice CA s.ch.length cn) rfl; have s2_5 := Bx.at' HS2.out 5 (.slice TA s.top.length tn) rfl; have s2_6 := Bx.at' HS2.out 6 (.slice OA s.out.length on) rfl; have HR2 := Lib.hid (Bx.below HR0.out hb'); clear ho hw hb'; have HWr := Lib.hid (Wrote.of_below (e := 196) hB HB2.out); have s3_1 := Bx.at' HS2.out 2 (.slice BA s.binds.length bn) rfl; have f3_1 := Bx.free HS2.out 2; have K3_1 := Lib.hid (bx_but (j := 2) (u := .slice VA (List.length s') vn) HS2.out); have S3_1 : Hid (Bx _ _ _ #[.int .i64 s.st, .slice GA s.goals.length gn, .slice VA (List.length s') vn, .int .i64 s.vars, .slice CA s.ch.length cn, .slice TA s.top.length tn, .slice OA s.out.length on]) := Lib.hid (Bx.put HS2.out 2 (.slice VA (List.length s') vn)); have R3_1 := Lib.hid (Bx.far HR2.out (g' := w.heap.size + 1) (by omega) 2 (.slice VA (List.length s') vn)); have B3_1 := Lib.hid (wrote_own HWr.out (setc4 (g := w.heap.size + 1) (Below.refl _ _) (by omega) 2 (.slice VA (List.length s') vn)) hB); have s3_2 := Bx.at' S3_1.out 1 (.slice GA s.goals.length gn) rfl; have f3_2 := Bx.free S3_1.out 1; have K3_2 := Lib.hid (KeepBut.trans K3_1.out (bx_but (j := 1) (u := .slice HA rest.length hn) S3_1.out)); have S3_2 : Hid (Bx _ _ _ #[.int .i64 s.st, .slice HA rest.length hn, .slice VA (List.length s') vn, .int .i64 s.vars, .slice CA s.ch.length cn, .slice TA s.top.length tn, .slice OA s.out.length on]) := Lib.hid (Bx.put S3_1.out 1 (.slice HA rest.length hn)); have R3_2 := Lib.hid (Bx.far R3_1.out (g' := w.heap.size + 1) (by omega) 1 (.slice HA rest.length hn)); have B3_2 := Lib.hid (wrote_own B3_1.out (setc4 (g := w.heap.size + 1) (Below.refl _ _) (by omega) 1 (.slice HA rest.length hn)) hB); have l3_0 := Bx.at' S3_2.out 0 (.int .i64 s.st) rfl; have l3_1 := Bx.at' S3_2.out 1 (.slice HA rest.length hn) rfl; have l3_2 := Bx.at' S3_2.out 2 (.slice VA (List.length s') vn) rfl; have l3_3 := Bx.at' S3_2.out 3 (.int .i64 s.vars) rfl; have l3_4 := Bx.at' S3_2.out 4 (.slice CA s.ch.length cn) rfl; have l3_5 := Bx.at' S3_2.out 5 (.slice TA s.top.length tn) rfl; have l3_6 := Bx.at' S3_2.out 6 (.slice OA s.out.length on) rfl; obtain ⟨m0, m1, m2, m3, m4, m5, m6, m7, m8, m9, m10, m11, m12, m13, HE⟩ := put_7 R3_2.out (.int .i64 s.st) (.slice HA rest.length hn) (.slice VA (List.length s') vn) (.int .i64 s.vars) (.slice CA s.ch.length cn) (.slice TA s.top.length tn) (.slice OA s.out.length on); have HV2 := Lib.hid (HSt.out.ext HB2.out); have HOT := Lib.hid (show Kd.sch.O 196 w2 B (.slice CA s.ch.length cn) (List.map (viewC { s with binds := s', goals := rest }) s.ch) from (view_move (s := s) (s2 := { s with binds := s', goals := rest }) HMk.out).symm ▸ HV2.out.c); have HSTf := Lib.hid (StV.mk (s := { s with binds := s', goals := rest }) (B := B) (K3_2.out.S (Kd.S_ext HB2.out H3.out) (by decide)) (K3_2.out.S (Kd.O_read HO2.out) (by decide)) (K3_2.out.O HOT.out (by decide)) (K3_2.out.S HV2.out.t (by decide)) (K3_2.out.S HV2.out.o (by decide)))) | fail)
    refine bodyPost_ret (results_cell_row rfl _ _ (w.heap.size + 1 + 1) 139 _ (0, 0) _ rfl HE.out.1 Tryz.underlying139 rfl (by kernel_rfl)) rfl ?_
    exact ⟨_, _, _, _, _, rfl, HSTf.out.but HE.out.2.1, wrote_own (B3_2.out) (HE.out.2.2 w.heap.size _ (by omega) (Below.refl _ _)) hB⟩
  · rw [hm] at HMt
    have HMt := Lib.hid HMt
    unfold tMeet at hr
    rw [hm, if_neg (show ¬ (2 : Int) = 3 by decide), if_pos rfl] at hr
    have hr2 := Lib.hid (show tBack n p s = some r from hr)
    clear hst1 hou hr hm HMk hT hp hs hL ha hb
    go_enter Tryz.func122, Tryz.ntmps122
    go_wp2_with (first | (go_at_call 144; (with_reducible refine (HCp.out _ HB0.out).mono ?_); rintro e w1 ⟨v1, rfl, ho, hb'⟩; have HO1 := Lib.hid ho; obtain ⟨VA1, vn1, rfl, -, -, -⟩ := Kd.O_read ho; have hsz1 := Lib.hid hb'.size; have HB01 := Lib.hid hb'; have HB1 := Lib.hid (bel_trans HB0.out hb'); have HP1 := Lib.hid (Bx.below HP0.out hb'); have p1_0 := Bx.at' HP1.out 0 (.slice P1 p.cl.length q1) rfl; have p1_1 := Bx.at' HP1.out 1 (.slice P2 p.pl.length q2) rfl; have HS1 := Lib.hid (Bx.below HS0.out hb'); have s1_0 := Bx.at' HS1.out 0 (.int .i64 s.st) rfl; have s1_1 := Bx.at' HS1.out 1 (.slice GA s.goals.length gn) rfl; have s1_2 := Bx.at' HS1.out 2 (.slice BA s.binds.length bn) rfl; have s1_3 := Bx.at' HS1.out 3 (.int .i64 s.vars) rfl; have s1_4 := Bx.at' HS1.out 4 (.slice CA s.ch.length cn) rfl; have s1_5 := Bx.at' HS1.out 5 (.slice TA s.top.length tn) rfl; have s1_6 := Bx.at' HS1.out 6 (.slice OA s.out.length on) rfl; have HR1 := Lib.hid (Bx.below HR0.out hb'); clear ho hb') | (go_at_call 143; (with_reducible refine (HMt.out _ _ _ HB1.out HO1.out hsz1.out).mono ?_); rintro e w2 ⟨v2, rfl, ho, hw⟩; have HO2 := Lib.hid ho; obtain ⟨VA, vn, rfl, -, -, -⟩ := Kd.O_read ho; have hb' := HB01.out.trans hw.bel; have HB2 := Lib.hid (bel_trans HB0.out hb'); have HP2 := Lib.hid (Bx.below HP0.out hb'); have p2_0 := Bx.at' HP2.out 0 (.slice P1 p.cl.length q1) rfl; have p2_1 := Bx.at' HP2.out 1 (.slice P2 p.pl.length q2) rfl; have HS2 := Lib.hid (Bx.below HS0.out hb'); have s2_0 := Bx.at' HS2.out 0 (.int .i64 s.st) rfl; have s2_1 := Bx.at' HS2.out 1 (.slice GA s.goals.length gn) rfl; have s2_2 := Bx.at' HS2.out 2 (.slice BA s.binds.length bn) rfl; have s2_3 := Bx.at' HS2.out 3 (.int .i64 s.vars) rfl; have s2_4 := Bx.at' HS2.out 4 (.slice CA s.ch.length cn) rfl; have s2_5 := Bx.at' HS2.out 5 (.slice TA s.top.length tn) rfl; have s2_6 := Bx.at' HS2.out 6 (.slice OA s.out.length on) rfl; have HR2 := Lib.hid (Bx.below HR0.out hb'); clear ho hw hb') | (go_at_call 119; (with_reducible refine (HBk.out _ hr2.out HB2.out).mono ?_); rintro e w3 ⟨rg, rb, rc, rt, ro, rfl, hst, hw⟩; have HW3 := Lib.hid hw; have HST3 := Lib.hid hst; obtain ⟨RG, rgn, rfl, -, -, -⟩ := hst.g; obtain ⟨RB, rbn, rfl, -, -, -⟩ := hst.b; obtain ⟨RC, rcn, erc, -, -, -⟩ := Kd.O_read hst.c; rw [List.length_map] at erc; obtain rfl := erc; obtain ⟨RT, rtn, rfl, -, -, -⟩ := hst.t; obtain ⟨RO, ron, rfl, -, -, -⟩ := hst.o; have HR3 := Lib.hid (Bx.but HR2.out hw.but (by decide)); obtain ⟨m0, m1, m2, m3, m4, m5, m6, m7, m8, m9, m10, m11, m12, m13, HE⟩ := put_7 HR3.out (.int .i64 r.st) (.slice RG r.goals.length rgn) (.slice RB r.binds.length rbn) (.int .i64 r.vars) (.slice RC r.ch.length rcn) (.slice RT r.top.length rtn) (.slice RO r.out.length ron); clear hw hst) | fail)
    refine bodyPost_ret (results_cell_row rfl _ _ (w.heap.size + 1 + 1) 139 _ (0, 0) _ rfl HE.out.1 Tryz.underlying139 rfl (by kernel_rfl)) rfl ?_
    exact ⟨_, _, _, _, _, rfl, HST3.out.but HE.out.2.1, wrote_own ((Wrote.of_below hB HB2.out).trans HW3.out) (HE.out.2.2 w.heap.size _ (by omega) (Below.refl _ _)) hB⟩
  · rw [hm] at HMt
    have HMt := Lib.hid HMt
    unfold tMeet at hr
    rw [hm, if_pos rfl] at hr
    obtain rfl := Option.some.inj hr
    clear hst1 hou hr hm HMk hT hp hs hL ha hb
    go_enter Tryz.func122, Tryz.ntmps122
    go_wp2_with (first | (go_at_call 144; (with_reducible refine (HCp.out _ HB0.out).mono ?_); rintro e w1 ⟨v1, rfl, ho, hb'⟩; have HO1 := Lib.hid ho; obtain ⟨VA1, vn1, rfl, -, -, -⟩ := Kd.O_read ho; have hsz1 := Lib.hid hb'.size; have HB01 := Lib.hid hb'; have HB1 := Lib.hid (bel_trans HB0.out hb'); have HP1 := Lib.hid (Bx.below HP0.out hb'); have p1_0 := Bx.at' HP1.out 0 (.slice P1 p.cl.length q1) rfl; have p1_1 := Bx.at' HP1.out 1 (.slice P2 p.pl.length q2) rfl; have HS1 := Lib.hid (Bx.below HS0.out hb'); have s1_0 := Bx.at' HS1.out 0 (.int .i64 s.st) rfl; have s1_1 := Bx.at' HS1.out 1 (.slice GA s.goals.length gn) rfl; have s1_2 := Bx.at' HS1.out 2 (.slice BA s.binds.length bn) rfl; have s1_3 := Bx.at' HS1.out 3 (.int .i64 s.vars) rfl; have s1_4 := Bx.at' HS1.out 4 (.slice CA s.ch.length cn) rfl; have s1_5 := Bx.at' HS1.out 5 (.slice TA s.top.length tn) rfl; have s1_6 := Bx.at' HS1.out 6 (.slice OA s.out.length on) rfl; have HR1 := Lib.hid (Bx.below HR0.out hb'); clear ho hb') | (go_at_call 143; (with_reducible refine (HMt.out _ _ _ HB1.out HO1.out hsz1.out).mono ?_); rintro e w2 ⟨v2, rfl, ho, hw⟩; have HO2 := Lib.hid ho; obtain ⟨VA, vn, rfl, -, -, -⟩ := Kd.O_read ho; have hb' := HB01.out.trans hw.bel; have HB2 := Lib.hid (bel_trans HB0.out hb'); have HP2 := Lib.hid (Bx.below HP0.out hb'); have p2_0 := Bx.at' HP2.out 0 (.slice P1 p.cl.length q1) rfl; have p2_1 := Bx.at' HP2.out 1 (.slice P2 p.pl.length q2) rfl; have HS2 := Lib.hid (Bx.below HS0.out hb'); have s2_0 := Bx.at' HS2.out 0 (.int .i64 s.st) rfl; have s2_1 := Bx.at' HS2.out 1 (.slice GA s.goals.length gn) rfl; have s2_2 := Bx.at' HS2.out 2 (.slice BA s.binds.length bn) rfl; have s2_3 := Bx.at' HS2.out 3 (.int .i64 s.vars) rfl; have s2_4 := Bx.at' HS2.out 4 (.slice CA s.ch.length cn) rfl; have s2_5 := Bx.at' HS2.out 5 (.slice TA s.top.length tn) rfl; have s2_6 := Bx.at' HS2.out 6 (.slice OA s.out.length on) rfl; have HR2 := Lib.hid (Bx.below HR0.out hb'); clear ho hw hb') | (go_at_call 125; (with_reducible refine (HEn.out _ HB2.out).mono ?_); rintro e w3 ⟨t', rfl, ht', hb'⟩; have HT3 := Lib.hid ht'; obtain ⟨VT, vt, rfl, -, -, -⟩ := ht'; have HB3 := Lib.hid (bel_trans HB2.out hb'); have HR3 := Lib.hid (Bx.below HR2.out hb'); obtain ⟨m0, m1, m2, m3, m4, m5, m6, m7, m8, m9, m10, m11, m12, m13, HE⟩ := put_7 HR3.out (.int .i64 4) (.slice none 0 0) (.slice none 0 0) (.int .i64 0) (.slice none 0 0) (.slice VT s.top.length vt) (.slice none 0 0); clear hb') | fail)
    refine bodyPost_ret (results_cell_row rfl _ _ (w.heap.size + 1 + 1) 139 _ (0, 0) _ rfl HE.out.1 Tryz.underlying139 rfl (by kernel_rfl)) rfl ?_
    exact ⟨_, _, _, _, _, rfl, (StV.mk (s := tEnd s 4) (Kd.S_nil _ _ _) (Kd.S_nil _ _ _) (Kd.O_nil _ _ _ _) HT3.out (Kd.S_nil _ _ _)).but HE.out.2.1, wrote_own (Wrote.of_below hB HB3.out) (HE.out.2.2 w.heap.size _ (by omega) (Below.refl _ _)) hB⟩
#print axioms same4_c
end Go.Proofs.YtjglbadkbhopoaaGreatDoor
