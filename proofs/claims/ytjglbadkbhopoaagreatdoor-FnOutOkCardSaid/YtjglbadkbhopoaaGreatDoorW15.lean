/- Lemmas and contracts for FnOutOk, part 15. -/
import Derived.Deep.RegionWith
import Derived.Test.YtjglbadkbhopoaaGreatDoorW13
import Derived.Test.YtjglbadkbhopoaaGreatDoorW09
import Derived.Test.YtjglbadkbhopoaaGreatDoorW14
import Derived.Test.YtjglbadkbhopoaaGreatDoorW12
namespace Go.Proofs.YtjglbadkbhopoaaGreatDoor
open Go.RowKit
set_option maxRecDepth 100000
set_option maxHeartbeats 8000000
set_option linter.unusedVariables false
def PlP (w : World) (e : Ending) (w' : World) : Prop := ∃ (x : Place) (q : Bool), e = .returned (.tuple #[.agg #[.string x.name, .int .i64 x.n, .int .i64 x.node], .bool q]) ∧ x.name.size ≤ 1000000 ∧ Below w.heap.size w w'
theorem rplace_c (s : ByteArray) (w : World) (hs : s.size ≤ 100000) : Calls Tryz.prog 92 #[.string s] w (PlP w) := by
  have HB0 := Lib.hid (bel_alloc (Below.refl w.heap.size w) (.cells #[.string ⟨#[]⟩, .int .i64 0, .int .i64 0] 121))
  have HR0 := Lib.hid (Bx.new w 121 #[.string ⟨#[]⟩, .int .i64 0, .int .i64 0])
  have HWd := Lib.hid (fun W => wrd_c s W hs)
  go_enter Tryz.func92, Tryz.ntmps92
  go_upto_region 2 with (first | (go_at_call 111; (with_reducible refine (HWd.out _).mono ?_); rintro e w1 ⟨wv, ws, rfl, hws, hw1, hw2, hwz, hb'⟩; have HW1 := Lib.hid hws; have HWz := Lib.hid hwz; have HB1 := Lib.hid (bel_trans HB0.out hb'); have HR1 := Lib.hid (Bx.below HR0.out hb'); obtain ⟨WA, wn, rfl, -, -, -⟩ := hws; clear hwz hb') | fail)
  by_cases h4 : ws.length = 4
  · rw [h4] at HW1 ⊢
    obtain ⟨x0, x1, x2, x3, rfl⟩ : ∃ x0 x1 x2 x3, ws = [x0, x1, x2, x3] := by
      match ws, h4 with
      | [x, y, z, u], _ => exact ⟨x, y, z, u, rfl⟩
    clear h4 hw1 hw2
    obtain ⟨A2, c2', ev2, _, _, hC2⟩ := HW1.out
    injection ev2 with v4 v5 v6
    obtain ⟨ad, hAA, c0⟩ := str_at hC2 (i := 0) (x := x0) rfl
    rw [add_zero'] at c0
    obtain rfl := v4.trans hAA
    obtain ⟨ad1, hA1, c1⟩ := str_at hC2 (i := 1) (x := x1) rfl
    obtain rfl : ad = ad1 := Option.some.inj (hAA.symm.trans hA1)
    obtain ⟨ad2, hA2, c2⟩ := str_at hC2 (i := 2) (x := x2) rfl
    obtain rfl : ad = ad2 := Option.some.inj (hAA.symm.trans hA2)
    obtain ⟨ad3, hA3, c3⟩ := str_at hC2 (i := 3) (x := x3) rfl
    obtain rfl : ad = ad3 := Option.some.inj (hAA.symm.trans hA3)
    clear hC2 v4 v5 v6 hAA hA1 hA2 hA3
    have d1 : w1.cell? ⟨ad.block, ad.off + 1, none⟩ = some (.string x1) := c1
    have d2 : w1.cell? ⟨ad.block, ad.off + 2, none⟩ = some (.string x2) := c2
    have d3 : w1.cell? ⟨ad.block, ad.off + 3, none⟩ = some (.string x3) := c3
    clear c1 c2 c3
    by_cases q0 : ¬ x0 = ⟨#[97, 116]⟩
    · have e0 : (x0.toList == [97, 116]) = false := by have := str_ne' q0; rwa [show (⟨#[97, 116]⟩ : ByteArray).toList = [97, 116] from by rw [Lib.toList_data]] at this
      obtain ⟨m0, m1, m2, m3, m4, m5, HE⟩ := put_3 HR1.out (.string ⟨#[]⟩) (.int .i64 0) (.int .i64 0)
      go_wp2
      refine ret_cell_tmp rfl rfl HE.out.1 Tryz.underlying121 rfl (by kernel_rfl) rfl ?_
      exact ⟨⟨⟨#[]⟩, 0, 0⟩, _, rfl, Nat.zero_le _, HE.out.2.2.2 w.heap.size w (Nat.le_refl _) HB1.out⟩
    obtain rfl : x0 = ⟨#[97, 116]⟩ := Decidable.of_not_not q0
    clear q0
    by_cases q1 : ¬ x1.size = 1
    · have e1 : ((x1.size : Int) != 1) = true := bne_iff_ne.2 (by omega)
      obtain ⟨m0, m1, m2, m3, m4, m5, HE⟩ := put_3 HR1.out (.string ⟨#[]⟩) (.int .i64 0) (.int .i64 0)
      go_wp2
      refine ret_cell_tmp rfl rfl HE.out.1 Tryz.underlying121 rfl (by kernel_rfl) rfl ?_
      exact ⟨⟨⟨#[]⟩, 0, 0⟩, _, rfl, Nat.zero_le _, HE.out.2.2.2 w.heap.size w (Nat.le_refl _) HB1.out⟩
    have q1 : x1.size = 1 := Decidable.of_not_not q1
    have e1 : ((x1.size : Int) != 1) = false := by rw [q1]; rfl
    by_cases q3 : ¬ x3.size = 1
    · have e3 : ((x3.size : Int) != 1) = true := bne_iff_ne.2 (by omega)
      clear q1
      obtain ⟨m0, m1, m2, m3, m4, m5, HE⟩ := put_3 HR1.out (.string ⟨#[]⟩) (.int .i64 0) (.int .i64 0)
      go_wp2
      refine ret_cell_tmp rfl rfl HE.out.1 Tryz.underlying121 rfl (by kernel_rfl) rfl ?_
      exact ⟨⟨⟨#[]⟩, 0, 0⟩, _, rfl, Nat.zero_le _, HE.out.2.2.2 w.heap.size w (Nat.le_refl _) HB1.out⟩
    have q3 : x3.size = 1 := Decidable.of_not_not q3
    have e3 : ((x3.size : Int) != 1) = false := by rw [q3]; rfl
    have hn2 : x2.size ≤ 100000 := Nat.le_trans (HWz.out x2 (by simp)) hs
    have r1 : (0 : Int) < (x1.size : Int) := by omega
    have r3 : (0 : Int) < (x3.size : Int) := by omega
    have b1 := byt_at x1 0
    have b3 := byt_at x3 0
    have g1 : 0 < x1.size := by omega
    have g3 : 0 < x3.size := by omega
    obtain ⟨z1, hz1⟩ : ∃ z, IntKind.i64.wrap (byt x1 0 - 48) = z := ⟨_, rfl⟩
    obtain ⟨z3, hz3⟩ : ∃ z, IntKind.i64.wrap (byt x3 0 - 48) = z := ⟨_, rfl⟩
    clear q1 q3
    have o1 : ∀ o, (w1.alloc o).cell? ⟨ad.block, ad.off + 1, none⟩ = some (.string x1) := fun o => cell_keep (bel_alloc (Below.refl _ _) o) d1
    have o2 : ∀ o, (w1.alloc o).cell? ⟨ad.block, ad.off + 2, none⟩ = some (.string x2) := fun o => cell_keep (bel_alloc (Below.refl _ _) o) d2
    have o3 : ∀ o, (w1.alloc o).cell? ⟨ad.block, ad.off + 3, none⟩ = some (.string x3) := fun o => cell_keep (bel_alloc (Below.refl _ _) o) d3
    go_upto_region 4 with (fail)
    go_region
    generalize wrap64 (wrap64 (byt x3 0) - 48) = nn at *
    generalize wrap64 (wrap64 (byt x1 0) - 48) = nd at *
    have HB2 := Lib.hid (show Below w.heap.size w ((w1.alloc (.cells #[.string x2, .int .i64 nn, .int .i64 nd] 121)).drew).drew from bel_trans (bel_trans (bel_alloc HB1.out _) (bel_drew (Below.refl _ _))) (bel_drew (Below.refl _ _)))
    have HR2 := Lib.hid (show Bx ((w1.alloc (.cells #[.string x2, .int .i64 nn, .int .i64 nd] 121)).drew).drew w.heap.size 121 #[.string ⟨#[]⟩, .int .i64 0, .int .i64 0] from Bx.alloc HR1.out _)
    have HX2 := Lib.hid (show Bx ((w1.alloc (.cells #[.string x2, .int .i64 nn, .int .i64 nd] 121)).drew).drew w1.heap.size 121 #[.string x2, .int .i64 nn, .int .i64 nd] from Bx.new w1 121 #[.string x2, .int .i64 nn, .int .i64 nd])
    clear o1 o2 o3 d1 d2 d3 c0 b1 b3 hz1 hz3 e1 e3 r1 r3 g1 g3
    have hz : w.heap.size < w1.heap.size := (Array.getElem?_eq_some_iff.1 HR1.out).1
    have HPl := Lib.hid (fun W => placeS_c ⟨x2, nn, nd⟩ W)
    go_upto_region 5 with (fail)
    generalize (w1.alloc (.cells #[.string x2, .int .i64 nn, .int .i64 nd] 121)).drew = w2 at *
    have y0 : w2.drew.cell? ⟨w1.heap.size, 0, none⟩ = some (.string x2) := Bx.at' HX2.out 0 (.string x2) rfl
    have y1 : w2.drew.cell? ⟨w1.heap.size, 1, none⟩ = some (.int .i64 nn) := Bx.at' HX2.out 1 (.int .i64 nn) rfl
    have y2 : w2.drew.cell? ⟨w1.heap.size, 2, none⟩ = some (.int .i64 nd) := Bx.at' HX2.out 2 (.int .i64 nd) rfl
    have v0 : w2.cell? ⟨w1.heap.size, 0, none⟩ = some (.string x2) := Bx.at' HX2.out 0 (.string x2) rfl
    have v1 : w2.cell? ⟨w1.heap.size, 1, none⟩ = some (.int .i64 nn) := Bx.at' HX2.out 1 (.int .i64 nn) rfl
    have v2 : w2.cell? ⟨w1.heap.size, 2, none⟩ = some (.int .i64 nd) := Bx.at' HX2.out 2 (.int .i64 nd) rfl
    obtain ⟨m0, m1, m2, m3, m4, m5, HE⟩ := put_3 HR2.out (.string x2) (.int .i64 nn) (.int .i64 nd)
    go_region_with (first | (go_at_call 112; (with_reducible refine (HPl.out w2.drew).mono ?_); rintro e w3 ⟨rfl, hb'⟩; obtain ⟨n0, n1, n2, n3, n4, n5, HEa⟩ := put_3 (Bx.below HR2.out hb') (.string x2) (.int .i64 nn) (.int .i64 nd); have HBa := Lib.hid (bel_trans HB2.out hb'); have HX3 := Lib.hid (Bx.below HX2.out hb'); have x3_0 := Bx.at' HX3.out 0 (.string x2) rfl; have x3_1 := Bx.at' HX3.out 1 (.int .i64 nn) rfl; have x3_2 := Bx.at' HX3.out 2 (.int .i64 nd) rfl; clear hb') | (go_at_call 112; (with_reducible refine (HPl.out _).mono ?_); rintro e w3 ⟨rfl, hb'⟩; have HRb := Lib.hid (Bx.below HE.out.1 hb'); have HBb := Lib.hid (bel_trans (HE.out.2.2.2 w.heap.size w (Nat.le_refl _) HB2.out) hb'); clear hb'))
    all_goals
      go_wp2
      first | (refine ret_cell_tmp rfl rfl HEa.out.1 Tryz.underlying121 rfl (by kernel_rfl) rfl ?_; exact ⟨⟨x2, nn, nd⟩, _, rfl, by show x2.size ≤ _; omega, HEa.out.2.2.2 w.heap.size w (Nat.le_refl _) HBa.out⟩) | (refine ret_cell_tmp rfl rfl HRb.out Tryz.underlying121 rfl (by kernel_rfl) rfl ?_; exact ⟨⟨x2, nn, nd⟩, _, rfl, by show x2.size ≤ _; omega, HBb.out⟩)
  · have n4 : ((ws.length : Int) != 4) = true := bne_iff_ne.2 (by omega)
    clear h4
    obtain ⟨m0, m1, m2, m3, m4, m5, HE⟩ := put_3 HR1.out (.string ⟨#[]⟩) (.int .i64 0) (.int .i64 0)
    go_wp2
    refine ret_cell_tmp rfl rfl HE.out.1 Tryz.underlying121 rfl (by kernel_rfl) rfl ?_
    exact ⟨⟨⟨#[]⟩, 0, 0⟩, _, rfl, Nat.zero_le _, HE.out.2.2.2 w.heap.size w (Nat.le_refl _) HB1.out⟩
end Go.Proofs.YtjglbadkbhopoaaGreatDoor
namespace Go.Proofs.YtjglbadkbhopoaaGreatDoor
open Go.RowKit
set_option maxRecDepth 100000
set_option maxHeartbeats 8000000
set_option linter.unusedVariables false
def CrP (w : World) (e : Ending) (w' : World) : Prop := ∃ (x : Clause) (hv bv : Value) (q : Bool), e = .returned (.tuple #[.agg #[hv, bv], .bool q]) ∧ T0 w' hv x.head ∧ Kd.goal.S 160 w' bv x.body ∧ fitC x ∧ Below w.heap.size w w'
theorem crP_zero {w W : World} {v : Value} (hv : v = .agg #[.slice none 0 0, .slice none 0 0]) (hb : Below w.heap.size w W) : CrP w (.returned (.tuple #[v, .bool false])) W := by
  subst hv
  exact ⟨⟨[], []⟩, _, _, _, rfl, Kd.S_nil _ _ _, Kd.S_nil _ _ _, ⟨fit0, Nat.zero_le _, fun g hg => by cases hg⟩, hb⟩
def strN : Value → Nat
  | .string s => s.size
  | _ => 0
def boolN : Value → Nat
  | .bool true => 1
  | _ => 0
theorem pread_c (s : ByteArray) (w : World) (hs : s.size ≤ 100000) : Calls Tryz.prog 93 #[.string s] w (CrP w) := by
  have HB0 := Lib.hid (bel_alloc (Below.refl w.heap.size w) (.cells #[.slice none 0 0, .slice none 0 0] 126))
  have HR0 := Lib.hid (Bx.new w 126 #[.slice none 0 0, .slice none 0 0])
  have HCt := Lib.hid (fun (u x : ByteArray) (hu : u.size ≤ 100000) (hx : x.size ≤ 1000) W => cut_c u x W hu hx)
  have HRd := Lib.hid (fun (u : ByteArray) (hu : u.size ≤ 1000000) W => read_c u W hu)
  have HGr := Lib.hid (fun (u : ByteArray) (hu : u.size ≤ 100000) W => gread_c u W hu)
  go_enter Tryz.func93, Tryz.ntmps93
  go_upto_region 4 with (first | (go_at_call 113; (with_reducible refine (HCt.out _ _ hs (by decide) _).mono ?_); rintro e w1 ⟨hd, rs, q1, rfl, hh, hr, hq, hb'⟩; have HB1 := Lib.hid (bel_trans HB0.out hb'); have HR1 := Lib.hid (Bx.below HR0.out hb'); clear hb' hq) | (go_at_call 69; (with_reducible refine (HRd.out _ (by omega) _).mono ?_); rintro e w2 ⟨tv, t, ok, rfl, ht, ht40, hts, hb'⟩; have HT2 := Lib.hid ht; have HF2 := Lib.hid (fit40 ⟨ht40, hts⟩); obtain ⟨TA, tn, rfl, -, -, -⟩ := ht; have HB2 := Lib.hid (bel_alloc (bel_trans HB1.out hb') (.cells #[.slice TA t.length tn, .slice none 0 0] 126)); have HR2 := Lib.hid (Bx.alloc (Bx.below HR1.out hb') (.cells #[.slice TA t.length tn, .slice none 0 0] 126)); have HC2 := Lib.hid (Bx.new w2 126 #[.slice TA t.length tn, .slice none 0 0]); have HT3 := Lib.hid (Kd.S_alloc (.cells #[.slice TA t.length tn, .slice none 0 0] 126) HT2.out); have hz2 : w.heap.size < w2.heap.size := Nat.lt_of_lt_of_le (Array.getElem?_eq_some_iff.1 HR1.out).1 hb'.size; clear ht40 hts hb') | fail)
  generalize w2.alloc (.cells #[.slice TA t.length tn, .slice none 0 0] 126) = w3 at *
  cases ok with
  | false =>
    obtain ⟨m0, m1, m2, m3, HE⟩ := put_2 HR2.out (.slice none 0 0) (.slice none 0 0)
    go_wp2
    refine ret_cell_tmp rfl rfl HE.out.1 Tryz.underlying126 rfl (by kernel_rfl) rfl ?_
    exact crP_zero rfl (HE.out.2.2 w.heap.size w (Nat.le_refl _) HB2.out)
  | true =>
    go_wp2
    go_loopw [5, 6] (fun v5 v6 wr => ∃ (rest : ByteArray) (q : Bool) (body : List Goal) (BA : Option Addr) (bn : Nat), v5 = .string rest ∧ v6 = .bool q ∧ rest.size ≤ s.size ∧ body.length ≤ 5 ∧ Hid (Kd.goal.O 160 wr w.heap.size (.slice BA body.length bn) body) ∧ Hid (∀ g ∈ body, fitG g) ∧ Hid (T0 wr (.slice TA t.length tn) t) ∧ Hid (Bx wr w2.heap.size 126 #[.slice TA t.length tn, .slice BA body.length bn]) ∧ Hid (Bx wr w.heap.size 126 #[.slice none 0 0, .slice none 0 0]) ∧ Hid (Below w.heap.size w wr)) (fun v5 v6 _ => 2 * strN v5 + boolN v6)
    case atStart => exact ⟨rs, q1, [], _, _, rfl, rfl, hr, Nat.zero_le _, Lib.hid (Kd.O_nil _ _ _ _), Lib.hid (fun g hg => by cases hg), HT3, HC2, HR2, HB2⟩
    case round =>
      obtain ⟨rest, q, body, BA, bn, rfl, rfl, hrs, hbl, HOr, HFr, HTr, HCr, HRr, HBr⟩ := hrel
      clear HB0 HR0 HB1 HR1 HB2 HR2 HC2 HT2 HT3
      have c0 := Bx.at' HCr.out 0 (.slice TA t.length tn) rfl
      have c1 := Bx.at' HCr.out 1 (.slice BA body.length bn) rfl
      cases q with
      | false =>
        have HFc := Lib.hid (show fitC ⟨t, body⟩ from ⟨HF2.out, by show body.length ≤ _; omega, HFr.out⟩)
        have HCk := Lib.hid (clauseS_c ⟨t, body⟩ _ _ wr HTr.out (Kd.O_read HOr.out) HFc.out)
        obtain ⟨qc, hqc⟩ : ∃ qc, clauseOk ⟨t, body⟩ = qc := ⟨_, rfl⟩
        rw [hqc] at HCk
        clear hqc
        cases qc with
        | false =>
          go_upto_region 15 with (first | (go_at_call 115; (with_reducible refine HCk.out.mono ?_); rintro e w4 ⟨rfl, hb'⟩; have HBz := Lib.hid (bel_trans HBr.out hb'); have HRz := Lib.hid (Bx.below HRr.out hb'); have HCz := Lib.hid (Bx.below HCr.out hb'); have HTz := Lib.hid (Kd.S_ext hb' HTr.out); have HOz := Lib.hid (Kd.S_ext hb' (Kd.O_read HOr.out)); clear hb') | fail)
          obtain ⟨m0, m1, m2, m3, HE⟩ := put_2 HRz.out (.slice none 0 0) (.slice none 0 0)
          go_wp2
          refine ret_cell_tmp rfl rfl HE.out.1 Tryz.underlying126 rfl (by kernel_rfl) rfl ?_
          exact crP_zero rfl (HE.out.2.2 w.heap.size w (Nat.le_refl _) HBz.out)
        | true =>
          go_upto_region 16 with (first | (go_at_call 115; (with_reducible refine HCk.out.mono ?_); rintro e w4 ⟨rfl, hb'⟩; have HBz := Lib.hid (bel_trans HBr.out hb'); have HRz := Lib.hid (Bx.below HRr.out hb'); have HCz := Lib.hid (Bx.below HCr.out hb'); have HTz := Lib.hid (Kd.S_ext hb' HTr.out); have HOz := Lib.hid (Kd.S_ext hb' (Kd.O_read HOr.out)); clear hb') | fail)
          have d0 := Bx.at' HCz.out 0 (.slice TA t.length tn) rfl
          have d1 := Bx.at' HCz.out 1 (.slice BA body.length bn) rfl
          obtain ⟨m0, m1, m2, m3, HE⟩ := put_2 HRz.out (.slice TA t.length tn) (.slice BA body.length bn)
          go_wp2
          refine ret_cell_tmp rfl rfl HE.out.1 Tryz.underlying126 rfl (by kernel_rfl) rfl ?_
          exact ⟨⟨t, body⟩, _, _, _, rfl, HE.out.2.1.S HTz.out (by decide), HE.out.2.1.S HOz.out (by decide), HFc.out, HE.out.2.2 w.heap.size w (Nat.le_refl _) HBz.out⟩
      | true =>
        by_cases h4 : ¬ body.length ≤ 4
        · have f4 : decide ((body.length : Int) ≤ 4) = false := decide_eq_false (by omega)
          have HFc := Lib.hid (show fitC ⟨t, body⟩ from ⟨HF2.out, by show body.length ≤ _; omega, HFr.out⟩)
          have HCk := Lib.hid (clauseS_c ⟨t, body⟩ _ _ wr HTr.out (Kd.O_read HOr.out) HFc.out)
          obtain ⟨qc, hqc⟩ : ∃ qc, clauseOk ⟨t, body⟩ = qc := ⟨_, rfl⟩
          rw [hqc] at HCk
          clear hqc
          cases qc with
          | false =>
            go_upto_region 15 with (first | (go_at_call 115; (with_reducible refine HCk.out.mono ?_); rintro e w4 ⟨rfl, hb'⟩; have HBz := Lib.hid (bel_trans HBr.out hb'); have HRz := Lib.hid (Bx.below HRr.out hb'); have HCz := Lib.hid (Bx.below HCr.out hb'); have HTz := Lib.hid (Kd.S_ext hb' HTr.out); have HOz := Lib.hid (Kd.S_ext hb' (Kd.O_read HOr.out)); clear hb') | fail)
            obtain ⟨m0, m1, m2, m3, HE⟩ := put_2 HRz.out (.slice none 0 0) (.slice none 0 0)
            go_wp2
            refine ret_cell_tmp rfl rfl HE.out.1 Tryz.underlying126 rfl (by kernel_rfl) rfl ?_
            exact crP_zero rfl (HE.out.2.2 w.heap.size w (Nat.le_refl _) HBz.out)
          | true =>
            go_upto_region 16 with (first | (go_at_call 115; (with_reducible refine HCk.out.mono ?_); rintro e w4 ⟨rfl, hb'⟩; have HBz := Lib.hid (bel_trans HBr.out hb'); have HRz := Lib.hid (Bx.below HRr.out hb'); have HCz := Lib.hid (Bx.below HCr.out hb'); have HTz := Lib.hid (Kd.S_ext hb' HTr.out); have HOz := Lib.hid (Kd.S_ext hb' (Kd.O_read HOr.out)); clear hb') | fail)
            have d0 := Bx.at' HCz.out 0 (.slice TA t.length tn) rfl
            have d1 := Bx.at' HCz.out 1 (.slice BA body.length bn) rfl
            obtain ⟨m0, m1, m2, m3, HE⟩ := put_2 HRz.out (.slice TA t.length tn) (.slice BA body.length bn)
            go_wp2
            refine ret_cell_tmp rfl rfl HE.out.1 Tryz.underlying126 rfl (by kernel_rfl) rfl ?_
            exact ⟨⟨t, body⟩, _, _, _, rfl, HE.out.2.1.S HTz.out (by decide), HE.out.2.1.S HOz.out (by decide), HFc.out, HE.out.2.2 w.heap.size w (Nat.le_refl _) HBz.out⟩
        have h4 : body.length ≤ 4 := Decidable.of_not_not h4
        have f4 : decide ((body.length : Int) ≤ 4) = true := decide_eq_true (by omega)
        go_upto_region 9 with (first | (go_at_call 113; (with_reducible refine (HCt.out _ _ (by omega) (by decide) _).mono ?_); rintro e w4 ⟨fs, bh, ag, rfl, hf1, hb1, hq1, hb'⟩; have HQ4 := Lib.hid hq1; have HX4 := Lib.hid hb'; clear hb' hq1) | (go_at_call 114; (with_reducible refine (HGr.out _ (by omega) _).mono ?_); rintro e w5 ⟨g, av, bv, cv, fi, rfl, ha, hb, hc, hfg, hb'⟩; have hbb := bel_trans HX4.out hb'; have HFg := Lib.hid hfg; have HGa := Lib.hid ha; have HGb := Lib.hid hb; have HGc := Lib.hid hc; obtain ⟨GA, ga, rfl, -, -, -⟩ := ha; obtain ⟨GB, gb, rfl, -, -, -⟩ := hb; obtain ⟨GC, gc, rfl, -, -, -⟩ := hc; have HO5 := Lib.hid (Kd.O_alloc (.cells #[.int .i64 g.k, .slice GA g.a.length ga, .slice GB g.b.length gb, .slice GC g.c.length gc] 160) (Kd.O_ext hbb HOr.out)); have HT5 := Lib.hid (Kd.S_alloc (.cells #[.int .i64 g.k, .slice GA g.a.length ga, .slice GB g.b.length gb, .slice GC g.c.length gc] 160) (Kd.S_ext hbb HTr.out)); have HC5 := Lib.hid (Bx.alloc (Bx.below HCr.out hbb) (.cells #[.int .i64 g.k, .slice GA g.a.length ga, .slice GB g.b.length gb, .slice GC g.c.length gc] 160)); have HR5 := Lib.hid (Bx.alloc (Bx.below HRr.out hbb) (.cells #[.int .i64 g.k, .slice GA g.a.length ga, .slice GB g.b.length gb, .slice GC g.c.length gc] 160)); have HB5 := Lib.hid (bel_alloc (bel_trans HBr.out hbb) (.cells #[.int .i64 g.k, .slice GA g.a.length ga, .slice GB g.b.length gb, .slice GC g.c.length gc] 160)); have HG5 := Lib.hid (Bx.new w5 160 #[.int .i64 g.k, .slice GA g.a.length ga, .slice GB g.b.length gb, .slice GC g.c.length gc]); have HS5 := Lib.hid (show T0 (w5.alloc (.cells #[.int .i64 g.k, .slice GA g.a.length ga, .slice GB g.b.length gb, .slice GC g.c.length gc] 160)) (.slice GA g.a.length ga) g.a ∧ T0 (w5.alloc (.cells #[.int .i64 g.k, .slice GA g.a.length ga, .slice GB g.b.length gb, .slice GC g.c.length gc] 160)) (.slice GB g.b.length gb) g.b ∧ T0 (w5.alloc (.cells #[.int .i64 g.k, .slice GA g.a.length ga, .slice GB g.b.length gb, .slice GC g.c.length gc] 160)) (.slice GC g.c.length gc) g.c from ⟨Kd.S_alloc _ HGa.out, Kd.S_alloc _ HGb.out, Kd.S_alloc _ HGc.out⟩); clear hfg hb' hbb) | fail)
        generalize w5.alloc (.cells #[.int .i64 g.k, .slice GA g.a.length ga, .slice GB g.b.length gb, .slice GC g.c.length gc] 160) = w6 at *
        clear c0 c1 HOr HTr HCr HRr HBr
        cases fi with
        | false =>
          obtain ⟨m0, m1, m2, m3, HE⟩ := put_2 HR5.out (.slice none 0 0) (.slice none 0 0)
          go_wp2
          refine ret_cell_tmp rfl rfl HE.out.1 Tryz.underlying126 rfl (by kernel_rfl) rfl ?_
          exact crP_zero rfl (HE.out.2.2 w.heap.size w (Nat.le_refl _) HB5.out)
        | true =>
          have g5_0 := Bx.at' HG5.out 0 (.int .i64 g.k) rfl
          have g5_1 := Bx.at' HG5.out 1 (.slice GA g.a.length ga) rfl
          have g5_2 := Bx.at' HG5.out 2 (.slice GB g.b.length gb) rfl
          have g5_3 := Bx.at' HG5.out 3 (.slice GC g.c.length gc) rfl
          have c0 := Bx.at' HC5.out 0 (.slice TA t.length tn) rfl
          have c1 := Bx.at' HC5.out 1 (.slice BA body.length bn) rfl
          go_wp2_with (first | (at_builtin; refine wp_app AppI.goal rfl rfl (Kd.O_alloc _ HO5.out) rfl (Kd.S_lit Kd.goal _ (x := g) (cs := [.int .i64 g.k, .slice GA g.a.length ga, .slice GB g.b.length gb, .slice GC g.c.length gc]) ⟨_, _, _, rfl, HS5.out.1, HS5.out.2.1, HS5.out.2.2⟩ rfl) rfl (by simp only [List.length_singleton]; omega) (Nat.le_trans HB5.out.size (bel_alloc (Below.refl _ _) _).size) ?_; intro v7 w7 hg; have hwg := Wrote.grew hg (Kd.O_alloc _ HO5.out) (Nat.le_trans HB5.out.size (bel_alloc (Below.refl _ _) _).size); have hO7 := hg.own; obtain ⟨B2, hB2⟩ : ∃ B2, body ++ [g] = B2 := ⟨_, rfl⟩; rw [hB2] at hO7; have HO7 := Lib.hid hO7; have HY2 := Lib.hid hB2; obtain ⟨BB, bm, rfl, -, -, -⟩ := Kd.O_read hO7; have HC7 := Lib.hid (Bx.but (Bx.alloc HC5.out (.cells #[.int .i64 g.k, .slice GA g.a.length ga, .slice GB g.b.length gb, .slice GC g.c.length gc] 160)) hwg.but (by decide)); have HR7 := Lib.hid (Bx.but (Bx.alloc HR5.out (.cells #[.int .i64 g.k, .slice GA g.a.length ga, .slice GB g.b.length gb, .slice GC g.c.length gc] 160)) hwg.but (by decide)); have HT7 := Lib.hid (hwg.S (Kd.S_alloc (.cells #[.int .i64 g.k, .slice GA g.a.length ga, .slice GB g.b.length gb, .slice GC g.c.length gc] 160) HT5.out) (by decide)); have HB7 := Lib.hid ((bel_alloc HB5.out (.cells #[.int .i64 g.k, .slice GA g.a.length ga, .slice GB g.b.length gb, .slice GC g.c.length gc] 160)).trans hwg.bel); have s7 := Bx.at' HC7.out 1 (.slice BA body.length bn) rfl; have f7 := Bx.free HC7.out 1; have HC8 : Hid (Bx _ w2.heap.size 126 #[.slice TA t.length tn, .slice BB B2.length bm]) := Lib.hid (Bx.put HC7.out 1 (.slice BB B2.length bm)); have hk8 := bx_but (j := 1) (u := .slice BB B2.length bm) HC7.out; have HR8 := Lib.hid (Bx.far HR7.out (g' := w2.heap.size) (by omega) 1 (.slice BB B2.length bm)); have HO8 := Lib.hid (hk8.O HO7.out (by decide)); have HT8 := Lib.hid (hk8.S HT7.out (by decide)); have HB8 := Lib.hid (show Below w.heap.size w (w7.setCell ⟨w2.heap.size, 1, none⟩ (.slice BB B2.length bm)) from HB7.out.setCell (Nat.le_of_lt hz2) _); clear hg hwg hO7 hB2 hk8) | fail)
          have hl2 : B2.length = body.length + 1 := by rw [← HY2.out, List.length_append, List.length_singleton]
          exact ⟨⟨bh, ag, B2, BB, bm, rfl, rfl, by omega, by omega, HO8, Lib.hid (fun x hx => by
            rw [← HY2.out, List.mem_append, List.mem_singleton] at hx
            rcases hx with hx | rfl
            · exact HFr.out x hx
            · exact HFg.out), HT8, HC8, HR8, HB8⟩, by cases ag with
            | true => have := HQ4.out rfl; simp only [strN, boolN]; omega
            | false => simp only [strN, boolN]; omega⟩
end Go.Proofs.YtjglbadkbhopoaaGreatDoor
namespace Go.Proofs.YtjglbadkbhopoaaGreatDoor
open Go.RowKit
set_option maxRecDepth 100000
set_option maxHeartbeats 8000000
set_option linter.unusedVariables false
theorem line3_c (x : Clause) (hv bv : Value) (w : World) (h1 : T0 w hv x.head) (h2 : Kd.goal.S 160 w bv x.body) (l1 : x.head.length ≤ 1000000) (l2 : x.body.length ≤ 5) (l3 : ∀ g ∈ x.body, g.a.length ≤ 1000000 ∧ g.b.length ≤ 1000000 ∧ g.c.length ≤ 1000000) :
    Calls Tryz.prog 116 #[.agg #[hv, bv]] w fun e w' => ∃ s : ByteArray, e = .returned (.string s) ∧ s.size ≤ 20000 ∧ Below w.heap.size w w' := by
  have HT1 := Lib.hid (fun W (hb : Below w.heap.size w W) => textW_c x.head hv W (Kd.S_ext hb h1) l1)
  have HG := Lib.hid h2
  have HL := Lib.hid l3
  obtain ⟨HA, hn, rfl, -, -, -⟩ := h1
  obtain ⟨BA, bn, rfl, -, -, -⟩ := h2
  have HB0 := Lib.hid (show Below w.heap.size w (w.alloc (.cells #[.slice HA x.head.length hn, .slice BA x.body.length bn] 126)) from bel_alloc (Below.refl _ _) _)
  have HC0 := Lib.hid (Bx.new w 126 #[.slice HA x.head.length hn, .slice BA x.body.length bn])
  clear l3 l1
  go_enter Tryz.func116, Tryz.ntmps116
  go_upto_region 3 with (first | (go_at_call 18; (with_reducible refine (HT1.out _ HB0.out).mono ?_); rintro e w1 ⟨s0, rfl, hs0, hb'⟩; have HB1 := Lib.hid (bel_trans HB0.out hb'); have HC1 := Lib.hid (Bx.below HC0.out hb'); clear hb') | fail)
  go_loopw [3, 4] (fun v3 v4 wr => ∃ (u : ByteArray) (k : Nat), v3 = .string u ∧ v4 = .int .i64 (k : Int) ∧ k ≤ x.body.length ∧ u.size ≤ 400 + 2005 * k ∧ Hid (Bx wr w.heap.size 126 #[.slice HA x.head.length hn, .slice BA x.body.length bn]) ∧ Hid (Below w.heap.size w wr)) (fun _ v4 _ => x.body.length - (intOf v4).toNat)
  case atStart => exact ⟨s0, 0, rfl, rfl, Nat.zero_le _, by omega, HC1, HB1⟩
  case round =>
    obtain ⟨u, k, rfl, rfl, hk, hu, HCr, HBr⟩ := hrel
    clear HB1 HC1 HB0 HC0
    have c1 := Bx.at' HCr.out 1 (.slice BA x.body.length bn) rfl
    by_cases hlt : k < x.body.length
    · obtain ⟨g, hg⟩ : ∃ g, x.body[k]? = some g := ⟨_, List.getElem?_eq_getElem hlt⟩
      obtain ⟨p1, p2, p3⟩ := HL.out g (List.mem_of_getElem? hg)
      obtain ⟨A', c', ev, _, _, hC⟩ := HG.out
      injection ev with v1 v2 v3
      obtain ⟨ad, av, bv2, cv, hAA, t0, t1, t2, t3, y1, y2, y3⟩ := goal_at hC hg
      obtain rfl := v1.trans hAA
      have HGt := Lib.hid (gtext_c g av bv2 cv wr (Kd.S_ext HBr.out y1) (Kd.S_ext HBr.out y2) (Kd.S_ext HBr.out y3) p1 p2 p3)
      obtain ⟨A1, n1, rfl, -, -, -⟩ := y1
      obtain ⟨A2, n2, rfl, -, -, -⟩ := y2
      obtain ⟨A3, n3, rfl, -, -, -⟩ := y3
      have t0 := cell_keep HBr.out t0
      have t1 := cell_keep HBr.out t1
      have t2 := cell_keep HBr.out t2
      have t3 := cell_keep HBr.out t3
      clear v1 v2 v3 hC hg hAA p1 p2 p3
      obtain ⟨y4, hy4⟩ : ∃ y, u ++ ⟨#[32, 105, 102, 32]⟩ = y := ⟨_, rfl⟩
      obtain ⟨y5, hy5⟩ : ∃ y, u ++ ⟨#[32, 97, 110, 100, 32]⟩ = y := ⟨_, rfl⟩
      have h4s : y4.size ≤ u.size + 5 := by rw [← hy4, ByteArray.size_append]; show u.size + 4 ≤ _; omega
      have h5s : y5.size ≤ u.size + 5 := by rw [← hy5, ByteArray.size_append]; show u.size + 5 ≤ _; omega
      have q4 : ¬ 9223372036854775807 < u.size + 4 := by omega
      have q5 : ¬ 9223372036854775807 < u.size + 5 := by omega
      by_cases k0 : k = 0
      · have e0 : ((k : Int) == 0) = true := beq_iff_eq.2 (by omega)
        clear k0
        go_wp2_with (first | (go_at_call 141; (with_reducible refine HGt.out.mono ?_); rintro e w2 ⟨sg, rfl, hsg, hb'⟩; have HB2 := Lib.hid (bel_trans HBr.out hb'); have HC2 := Lib.hid (Bx.below HCr.out hb'); have q6 : ¬ 9223372036854775807 < y4.size + sg.size := (by omega); obtain ⟨y6, hy6⟩ : ∃ y, y4 ++ sg = y := ⟨_, rfl⟩; have h6s : y6.size = y4.size + sg.size := (by rw [← hy6, ByteArray.size_append]); have H6 := Lib.hid h6s; clear hb' h6s) | fail)
        exact ⟨⟨y6, k + 1, by first | rfl | simp_all, by go_num, by omega, by have := H6.out; omega, HC2, HB2⟩, by simp [intOf]; omega⟩
      · have e0 : ((k : Int) == 0) = false := beq_eq_false_iff_ne.2 (by omega)
        clear k0
        go_wp2_with (first | (go_at_call 141; (with_reducible refine HGt.out.mono ?_); rintro e w2 ⟨sg, rfl, hsg, hb'⟩; have HB2 := Lib.hid (bel_trans HBr.out hb'); have HC2 := Lib.hid (Bx.below HCr.out hb'); have q6 : ¬ 9223372036854775807 < y5.size + sg.size := (by omega); obtain ⟨y6, hy6⟩ : ∃ y, y5 ++ sg = y := ⟨_, rfl⟩; have h6s : y6.size = y5.size + sg.size := (by rw [← hy6, ByteArray.size_append]); have H6 := Lib.hid h6s; clear hb' h6s) | fail)
        exact ⟨⟨y6, k + 1, by first | rfl | simp_all, by go_num, by omega, by have := H6.out; omega, HC2, HB2⟩, by simp [intOf]; omega⟩
    · go_wp2
      go_ret
      exact ⟨u, rfl, by omega, HBr.out⟩
theorem O_goal_put {b gb : Nat} {w w' : World} {v : Value} {xs : List Goal} (h : Kd.goal.O 160 w b v xs) (hlt : ∀ k, v.ownBlock = some k → k < gb) (hk : KeepBut 160 w w') (hb : Below gb w w') : Kd.goal.O 160 w' b v xs :=
  Kd.O_mov (hk.keep (fun q hq => by
    have : q = 47 := by simpa [Kd.goal] using hq
    rw [this]; decide)) (fun k hk' => hb.block k (hlt k hk')) h
theorem clause_c {w0 W : World} {g M : Nat} (h : RQ w0 g M W) (hM : M ≤ 500000000) :
    Calls Tryz.prog 96 #[.pointer (some ⟨g, 0, none⟩)] W fun e w' => ∃ s : ByteArray, e = .returned (.string s) ∧ s.size ≤ 20000 ∧ RQ w0 g (M + 10000) w' ∧ DW w0 W w' := by
  have hsz := h.size
  have HR0 := Lib.hid h
  have HHd := Lib.hid (fun (M' : Nat) (W' : World) (h : RQ w0 g M' W') (hM : M' ≤ 600000000) => head_c h hM)
  have HTm := Lib.hid (fun (M' : Nat) (W' : World) (h : RQ w0 g M' W') (hM : M' ≤ 800000000) => (show Calls Tryz.prog 71 #[.pointer (some ⟨g, 0, none⟩), .int .i64 5, .int .i64 4] W' _ from term_c h hM 5 4 (by decide) (by decide) (by decide)))
  clear h
  go_enter Tryz.func96, Tryz.ntmps96
  go_upto_region 3 with (first | (go_at_call 67; (with_reducible refine (HHd.out M _ HR0.out (by omega)).mono ?_); rintro e w1 ⟨tv, t, rfl, ht, ht2, hR, hw⟩; have htl : t.length ≤ 100 := (by rcases ht2 with rfl | ht2; exact Nat.zero_le _; have := (trmOk_iff.1 ht2).2.1; omega); have HT0 := Lib.hid ht; obtain ⟨HA, hn, rfl, -, -, -⟩ := ht; have HT1 := Lib.hid (Kd.S_alloc (.cells #[.slice HA t.length hn, .slice none 0 0] 126) HT0.out); have HC1 := Lib.hid (Bx.new w1 126 #[.slice HA t.length hn, .slice none 0 0]); have HR1 := Lib.hid (hR.ext (bel_alloc (Below.refl _ _) (.cells #[.slice HA t.length hn, .slice none 0 0] 126))); have HD1 := Lib.hid (DW.ext hw (bel_alloc (Below.refl _ _) (.cells #[.slice HA t.length hn, .slice none 0 0] 126)) hsz); have hzw : W.heap.size ≤ w1.heap.size := hw.bel.size; clear ht2 hR hw) | (go_at_call_of 34 (Value.int .i64 3); refine (rq_pick HR1.out (by omega) _ (by omega) (by omega)).mono ?_; rintro e wp2 ⟨v, rfl, hv, hR, hw⟩; obtain ⟨hv0, hv1, -⟩ := hv; have hv2 := hv1 (by omega); obtain ⟨k, rfl⟩ : ∃ i : Nat, v = i := ⟨v.toNat, by omega⟩; have hk : k < 3 := (by omega); have HR2 := Lib.hid hR; have HW2 := Lib.hid hw; have HT2 := Lib.hid (hw.S HT1.out (by decide)); have HC2 := Lib.hid (Bx.but HC1.out hw.but (by decide)); have HD2 := Lib.hid (HD1.out.trans hw); clear hv0 hv1 hv2 hR hw) | fail)
  go_loopw [4] (fun v4 wr => ∃ (k : Nat) (body : List Goal) (BA : Option Addr) (bn : Nat), v4 = .int .i64 (k : Int) ∧ k + body.length ≤ 2 ∧ Hid (Kd.goal.O 160 wr W.heap.size (.slice BA body.length bn) body) ∧ Hid (∀ g ∈ body, g.a.length ≤ 1000000 ∧ g.b.length ≤ 1000000 ∧ g.c.length ≤ 1000000) ∧ Hid (T0 wr (.slice HA t.length hn) t) ∧ Hid (Bx wr w1.heap.size 126 #[.slice HA t.length hn, .slice BA body.length bn]) ∧ Hid (RQ w0 g (M + 1102 + 2300 * body.length) wr) ∧ Hid (DW w0 W wr)) (fun v4 _ => (intOf v4).toNat)
  case atStart => exact ⟨k, [], _, _, rfl, by simp only [List.length_nil]; omega, Lib.hid (Kd.O_nil _ _ _ _), Lib.hid (fun g hg => by cases hg), HT2, HC2, Lib.hid (HR2.out.mono (by simp only [List.length_nil]; omega)), HD2⟩
  case round =>
    clear HR0 HT0 HT1 HC1 HR1 HD1 HT2 HC2 HR2 HD2 HW2 hk
    obtain ⟨k, body, BA, bn, rfl, hkb, HOr, HFr, HTr, HCr, HRr, HDr⟩ := hrel
    have c0 := Bx.at' HCr.out 0 (.slice HA t.length hn) rfl
    have c1 := Bx.at' HCr.out 1 (.slice BA body.length bn) rfl
    have hb2 : body.length ≤ 2 := by omega
    by_cases hk0 : k = 0
    · have f0 : decide ((0 : Int) < (k : Int)) = false := decide_eq_false (by omega)
      have fn : ¬ 0 < k := by omega
      clear hk0
      have HLn := Lib.hid (line3_c ⟨t, body⟩ _ _ wr HTr.out (Kd.O_read HOr.out) (by show t.length ≤ _; omega) (by show body.length ≤ _; omega) HFr.out)
      go_wp2_with (first | (go_at_call 116; (with_reducible refine HLn.out.mono ?_); rintro e w4 ⟨sl, rfl, hsl, hb'⟩; have HR4 := Lib.hid (HRr.out.ext hb'); have HD4 := Lib.hid (DW.ext HDr.out hb' hsz); clear hb') | fail)
      go_ret
      exact ⟨_, rfl, hsl, HR4.out.mono (by omega), HD4.out⟩
    obtain ⟨m, rfl⟩ : ∃ m, k = m + 1 := ⟨k - 1, by omega⟩
    have f0 : decide ((0 : Int) < ((m + 1 : Nat) : Int)) = true := decide_eq_true (by omega)
    clear hk0
    go_upto_region 7 with (first | (go_at_call 67; (with_reducible refine (HHd.out _ _ HRr.out (by omega)).mono ?_); rintro e w5 ⟨tv2, t2, rfl, ht, ht2, hR, hw⟩; have htl2 : t2.length ≤ 100 := (by rcases ht2 with rfl | ht2; exact Nat.zero_le _; have := (trmOk_iff.1 ht2).2.1; omega); have HY5 := Lib.hid ht; obtain ⟨GA, ga, rfl, -, -, -⟩ := ht; have HOx := Lib.hid (hw.O HOr.out (by decide)); have HLt := Lib.hid (show ∀ k, (Value.slice BA body.length bn).ownBlock = some k → k < w5.heap.size from fun k hk => (Kd.O_lt HOx.out k hk).2); have HO5 := Lib.hid (Kd.O_alloc (.cells #[.int .i64 1, .slice GA t2.length ga, .slice none 0 0, .slice none 0 0] 160) HOx.out); have HT5 := Lib.hid (Kd.S_alloc (.cells #[.int .i64 1, .slice GA t2.length ga, .slice none 0 0, .slice none 0 0] 160) (hw.S HTr.out (by decide))); have HY6 := Lib.hid (Kd.S_alloc (.cells #[.int .i64 1, .slice GA t2.length ga, .slice none 0 0, .slice none 0 0] 160) HY5.out); have HC5 := Lib.hid (Bx.alloc (Bx.but HCr.out hw.but (by decide)) (.cells #[.int .i64 1, .slice GA t2.length ga, .slice none 0 0, .slice none 0 0] 160)); have HG5 := Lib.hid (Bx.new w5 160 #[.int .i64 1, .slice GA t2.length ga, .slice none 0 0, .slice none 0 0]); have HR5 := Lib.hid (hR.ext (bel_alloc (Below.refl _ _) (.cells #[.int .i64 1, .slice GA t2.length ga, .slice none 0 0, .slice none 0 0] 160))); have HD5 := Lib.hid (DW.ext (HDr.out.trans hw) (bel_alloc (Below.refl _ _) (.cells #[.int .i64 1, .slice GA t2.length ga, .slice none 0 0, .slice none 0 0] 160)) hsz); have hz5 : w1.heap.size < w5.heap.size := Nat.lt_of_lt_of_le (Array.getElem?_eq_some_iff.1 HCr.out).1 hw.bel.size; have hz6 : w0.heap.size ≤ w5.heap.size := hR.size; clear ht2 hR hw) | (go_at_call_of 34 (Value.int .i64 5); refine (rq_pick HR5.out (by omega) _ (by omega) (by omega)).mono ?_; rintro e wp6 ⟨v, rfl, hv, hR, hw⟩; obtain ⟨hv0, hv1, -⟩ := hv; have hv2 := hv1 (by omega); obtain ⟨j, rfl⟩ : ∃ i : Nat, v = i := ⟨v.toNat, by omega⟩; have hj : j < 5 := (by omega); have HR6 := Lib.hid hR; have HW6 := Lib.hid hw; have HO6 := Lib.hid (hw.O HO5.out (by decide)); have HT6 := Lib.hid (hw.S HT5.out (by decide)); have HY7 := Lib.hid (hw.S HY6.out (by decide)); have HC6 := Lib.hid (Bx.but HC5.out hw.but (by decide)); have HG6 := Lib.hid (Bx.but HG5.out hw.but (by decide)); have HD6 := Lib.hid (HD5.out.trans hw); clear hv0 hv1 hv2 hR hw) | fail)
    clear HOr HTr HCr HRr HDr HOx HO5 HT5 HY5 HY6 HC5 HG5 HR5 HD5 HW6 c0 c1
    have hjs : (j : Int) = 0 ∨ (j : Int) = 1 ∨ ((j : Int) ≠ 0 ∧ (j : Int) ≠ 1) := by omega
    clear hj
    generalize (j : Int) = jz at *
    rcases hjs with rfl | rfl | ⟨j0, j1⟩
    · obtain ⟨m0, m1, m2, m3, m4, m5, m6, m7, HE⟩ := put_4 HG6.out (.int .i64 3) (.slice none 0 0) (.slice none 0 0) (.slice none 0 0)
      go_upto_region 11 with (fail)
      have hbE := HE.out.2.2 w5.heap.size wp6 (Nat.le_refl _) (Below.refl _ _)
      have HO8 := Lib.hid (O_goal_put HO6.out HLt.out HE.out.2.1 hbE)
      have HT8 := Lib.hid (HE.out.2.1.S HT6.out (by decide))
      have HC8 := Lib.hid (Bx.but HC6.out HE.out.2.1 (by decide))
      have HG8 := Lib.hid HE.out.1
      have HR8 := Lib.hid (HR6.out.wrote (b := w5.heap.size) ⟨hbE, HE.out.2.1⟩ hz6 (by decide))
      have HD8 := Lib.hid (DW.own HD6.out (hbE.mono (Nat.le_trans hzw (Nat.le_of_lt hz5))) hsz)
      clear m0 m1 m2 m3 m4 m5 m6 m7 HE hbE
      generalize ((((wp6.setCell ⟨w5.heap.size, 0, none⟩ (.int .i64 3)).setCell ⟨w5.heap.size, 1, none⟩ (.slice none 0 0)).setCell ⟨w5.heap.size, 2, none⟩ (.slice none 0 0)).setCell ⟨w5.heap.size, 3, none⟩ (.slice none 0 0)) = w8 at *
      have g0 := Bx.at' HG8.out 0 (.int .i64 3) rfl
      have g1 := Bx.at' HG8.out 1 (.slice none 0 0) rfl
      have g2 := Bx.at' HG8.out 2 (.slice none 0 0) rfl
      have g3 := Bx.at' HG8.out 3 (.slice none 0 0) rfl
      have c0 := Bx.at' HC8.out 0 (.slice HA t.length hn) rfl
      have c1 := Bx.at' HC8.out 1 (.slice BA body.length bn) rfl
      go_wp2_with (first | (at_builtin; refine wp_app AppI.goal rfl rfl (Kd.O_alloc _ HO8.out) rfl (Kd.S_lit Kd.goal _ (x := (⟨3, [], [], []⟩ : Goal)) (cs := [.int .i64 3, .slice none 0 0, .slice none 0 0, .slice none 0 0]) ⟨_, _, _, rfl, Kd.S_nil _ _ _, Kd.S_nil _ _ _, Kd.S_nil _ _ _⟩ rfl) rfl (by simp only [List.length_singleton]; omega) (Nat.le_trans HD8.out.bel.size (bel_alloc (Below.refl _ _) _).size) ?_; intro v7 w7 hg; have hwg := Wrote.grew hg (Kd.O_alloc _ HO8.out) (Nat.le_trans HD8.out.bel.size (bel_alloc (Below.refl _ _) _).size); have hO7 := hg.own; obtain ⟨B2, hB2⟩ : ∃ B2, body ++ [(⟨3, [], [], []⟩ : Goal)] = B2 := ⟨_, rfl⟩; rw [hB2] at hO7; have HZ2 := Lib.hid hB2; obtain ⟨BB, bm, rfl, -, -, -⟩ := Kd.O_read hO7; have HC7 := Lib.hid (Bx.but (Bx.alloc HC8.out (.cells #[.int .i64 3, .slice none 0 0, .slice none 0 0, .slice none 0 0] 160)) hwg.but (by decide)); have HT7 := Lib.hid (hwg.S (Kd.S_alloc (.cells #[.int .i64 3, .slice none 0 0, .slice none 0 0, .slice none 0 0] 160) HT8.out) (by decide)); have HR7 := Lib.hid ((HR8.out.ext (bel_alloc (Below.refl _ _) (.cells #[.int .i64 3, .slice none 0 0, .slice none 0 0, .slice none 0 0] 160))).wrote hwg hsz (by decide)); have HD7 := Lib.hid (DW.own (DW.ext HD8.out (bel_alloc (Below.refl _ _) (.cells #[.int .i64 3, .slice none 0 0, .slice none 0 0, .slice none 0 0] 160)) hsz) hwg.bel hsz); have s7 := Bx.at' HC7.out 1 (.slice BA body.length bn) rfl; have f7 := Bx.free HC7.out 1; have HC8n : Hid (Bx _ w1.heap.size 126 #[.slice HA t.length hn, .slice BB B2.length bm]) := Lib.hid (Bx.put HC7.out 1 (.slice BB B2.length bm)); have hk8 := bx_but (j := 1) (u := .slice BB B2.length bm) HC7.out; have hb8 : Below W.heap.size w7 (w7.setCell ⟨w1.heap.size, 1, none⟩ (.slice BB B2.length bm)) := (Below.refl _ _).setCell hzw _; have HO8n := Lib.hid (hk8.O hO7 (by decide)); have HT8n := Lib.hid (hk8.S HT7.out (by decide)); have HR8n := Lib.hid (HR7.out.wrote (b := W.heap.size) ⟨hb8, hk8⟩ hsz (by decide)); have HD8n := Lib.hid (DW.own HD7.out hb8 hsz); clear hg hwg hO7 hB2 hk8 hb8) | fail)
      have hl2 : B2.length = body.length + 1 := by rw [← HZ2.out, List.length_append, List.length_singleton]
      exact ⟨⟨m, B2, BB, bm, by go_num, by omega, HO8n, Lib.hid (fun x hx => by
        rw [← HZ2.out, List.mem_append, List.mem_singleton] at hx
        rcases hx with hx | rfl
        · exact HFr.out x hx
        · exact ⟨by first | exact Nat.zero_le _ | (dsimp only; omega), by first | exact Nat.zero_le _ | (dsimp only; omega), by first | exact Nat.zero_le _ | (dsimp only; omega)⟩), HT8n, HC8n, Lib.hid (HR8n.out.mono (by rw [hl2]; omega)), HD8n⟩, by first | (simp [intOf]; done) | (simp [intOf]; omega)⟩
    · go_upto_region 11 with (first | (go_at_call 71; (with_reducible refine (HTm.out _ _ HR6.out (by omega)).mono ?_); rintro e wa ⟨va, ta, rfl, ho, -, hta, -, hR, hw⟩; have HTa := Lib.hid (Kd.O_read ho); obtain ⟨TA1, tn1, rfl, -, -, -⟩ := Kd.O_read ho; have HOa := Lib.hid (hw.O HO6.out (by decide)); have HTh := Lib.hid (hw.S HT6.out (by decide)); have HCa := Lib.hid (Bx.but HC6.out hw.but (by decide)); have HGa := Lib.hid (Bx.but HG6.out hw.but (by decide)); have HRa := Lib.hid hR; have HDa := Lib.hid (HD6.out.trans hw); clear ho hR hw) | (go_at_call 71; (with_reducible refine (HTm.out _ _ HRa.out (by omega)).mono ?_); rintro e wb ⟨vb, tb, rfl, ho, -, htb, -, hR, hw⟩; have HTb := Lib.hid (Kd.O_read ho); obtain ⟨TB1, tn2, rfl, -, -, -⟩ := Kd.O_read ho; have HTc := Lib.hid (hw.S HTa.out (by decide)); have HOb := Lib.hid (hw.O HOa.out (by decide)); have HTi := Lib.hid (hw.S HTh.out (by decide)); have HCb := Lib.hid (Bx.but HCa.out hw.but (by decide)); have HGb := Lib.hid (Bx.but HGa.out hw.but (by decide)); have HRb := Lib.hid hR; have HDb := Lib.hid (HDa.out.trans hw); obtain ⟨m0, m1, m2, m3, m4, m5, m6, m7, HE⟩ := put_4 HGb.out (.int .i64 2) (.slice TA1 ta.length tn1) (.slice TB1 tb.length tn2) (.slice none 0 0); clear ho hR hw) | fail)
      have hbE := HE.out.2.2 w5.heap.size wb (Nat.le_refl _) (Below.refl _ _)
      have HO8 := Lib.hid (O_goal_put HOb.out HLt.out HE.out.2.1 hbE)
      have HT8 := Lib.hid (HE.out.2.1.S HTi.out (by decide))
      have HC8 := Lib.hid (Bx.but HCb.out HE.out.2.1 (by decide))
      have HG8 := Lib.hid HE.out.1
      have HR8 := Lib.hid (HRb.out.wrote (b := w5.heap.size) ⟨hbE, HE.out.2.1⟩ hz6 (by decide))
      have HD8 := Lib.hid (DW.own HDb.out (hbE.mono (Nat.le_trans hzw (Nat.le_of_lt hz5))) hsz)
      have HX1 := Lib.hid (HE.out.2.1.S HTc.out (by decide))
      have HX2 := Lib.hid (HE.out.2.1.S HTb.out (by decide))
      clear m0 m1 m2 m3 m4 m5 m6 m7 HE hbE
      generalize ((((wb.setCell ⟨w5.heap.size, 0, none⟩ (.int .i64 2)).setCell ⟨w5.heap.size, 1, none⟩ (.slice TA1 ta.length tn1)).setCell ⟨w5.heap.size, 2, none⟩ (.slice TB1 tb.length tn2)).setCell ⟨w5.heap.size, 3, none⟩ (.slice none 0 0)) = w8 at *
      have g0 := Bx.at' HG8.out 0 (.int .i64 2) rfl
      have g1 := Bx.at' HG8.out 1 (.slice TA1 ta.length tn1) rfl
      have g2 := Bx.at' HG8.out 2 (.slice TB1 tb.length tn2) rfl
      have g3 := Bx.at' HG8.out 3 (.slice none 0 0) rfl
      have c0 := Bx.at' HC8.out 0 (.slice HA t.length hn) rfl
      have c1 := Bx.at' HC8.out 1 (.slice BA body.length bn) rfl
      go_wp2_with (first | (at_builtin; refine wp_app AppI.goal rfl rfl (Kd.O_alloc _ HO8.out) rfl (Kd.S_lit Kd.goal _ (x := (⟨2, ta, tb, []⟩ : Goal)) (cs := [.int .i64 2, .slice TA1 ta.length tn1, .slice TB1 tb.length tn2, .slice none 0 0]) ⟨_, _, _, rfl, HX1.out, HX2.out, Kd.S_nil _ _ _⟩ rfl) rfl (by simp only [List.length_singleton]; omega) (Nat.le_trans HD8.out.bel.size (bel_alloc (Below.refl _ _) _).size) ?_; intro v7 w7 hg; have hwg := Wrote.grew hg (Kd.O_alloc _ HO8.out) (Nat.le_trans HD8.out.bel.size (bel_alloc (Below.refl _ _) _).size); have hO7 := hg.own; obtain ⟨B2, hB2⟩ : ∃ B2, body ++ [(⟨2, ta, tb, []⟩ : Goal)] = B2 := ⟨_, rfl⟩; rw [hB2] at hO7; have HZ2 := Lib.hid hB2; obtain ⟨BB, bm, rfl, -, -, -⟩ := Kd.O_read hO7; have HC7 := Lib.hid (Bx.but (Bx.alloc HC8.out (.cells #[.int .i64 2, .slice TA1 ta.length tn1, .slice TB1 tb.length tn2, .slice none 0 0] 160)) hwg.but (by decide)); have HT7 := Lib.hid (hwg.S (Kd.S_alloc (.cells #[.int .i64 2, .slice TA1 ta.length tn1, .slice TB1 tb.length tn2, .slice none 0 0] 160) HT8.out) (by decide)); have HR7 := Lib.hid ((HR8.out.ext (bel_alloc (Below.refl _ _) (.cells #[.int .i64 2, .slice TA1 ta.length tn1, .slice TB1 tb.length tn2, .slice none 0 0] 160))).wrote hwg hsz (by decide)); have HD7 := Lib.hid (DW.own (DW.ext HD8.out (bel_alloc (Below.refl _ _) (.cells #[.int .i64 2, .slice TA1 ta.length tn1, .slice TB1 tb.length tn2, .slice none 0 0] 160)) hsz) hwg.bel hsz); have s7 := Bx.at' HC7.out 1 (.slice BA body.length bn) rfl; have f7 := Bx.free HC7.out 1; have HC8n : Hid (Bx _ w1.heap.size 126 #[.slice HA t.length hn, .slice BB B2.length bm]) := Lib.hid (Bx.put HC7.out 1 (.slice BB B2.length bm)); have hk8 := bx_but (j := 1) (u := .slice BB B2.length bm) HC7.out; have hb8 : Below W.heap.size w7 (w7.setCell ⟨w1.heap.size, 1, none⟩ (.slice BB B2.length bm)) := (Below.refl _ _).setCell hzw _; have HO8n := Lib.hid (hk8.O hO7 (by decide)); have HT8n := Lib.hid (hk8.S HT7.out (by decide)); have HR8n := Lib.hid (HR7.out.wrote (b := W.heap.size) ⟨hb8, hk8⟩ hsz (by decide)); have HD8n := Lib.hid (DW.own HD7.out hb8 hsz); clear hg hwg hO7 hB2 hk8 hb8) | fail)
      have hl2 : B2.length = body.length + 1 := by rw [← HZ2.out, List.length_append, List.length_singleton]
      exact ⟨⟨m, B2, BB, bm, by go_num, by omega, HO8n, Lib.hid (fun x hx => by
        rw [← HZ2.out, List.mem_append, List.mem_singleton] at hx
        rcases hx with hx | rfl
        · exact HFr.out x hx
        · exact ⟨by first | exact Nat.zero_le _ | (dsimp only; omega), by first | exact Nat.zero_le _ | (dsimp only; omega), by first | exact Nat.zero_le _ | (dsimp only; omega)⟩), HT8n, HC8n, Lib.hid (HR8n.out.mono (by rw [hl2]; omega)), HD8n⟩, by first | (simp [intOf]; done) | (simp [intOf]; omega)⟩
    · have e0 : (jz == 0) = false := beq_eq_false_iff_ne.2 j0
      have e1 : (jz == 1) = false := beq_eq_false_iff_ne.2 j1
      clear j0 j1
      go_upto_region 11 with (fail)
      have g0 := Bx.at' HG6.out 0 (.int .i64 1) rfl
      have g1 := Bx.at' HG6.out 1 (.slice GA t2.length ga) rfl
      have g2 := Bx.at' HG6.out 2 (.slice none 0 0) rfl
      have g3 := Bx.at' HG6.out 3 (.slice none 0 0) rfl
      have c0 := Bx.at' HC6.out 0 (.slice HA t.length hn) rfl
      have c1 := Bx.at' HC6.out 1 (.slice BA body.length bn) rfl
      go_wp2_with (first | (at_builtin; refine wp_app AppI.goal rfl rfl (Kd.O_alloc _ HO6.out) rfl (Kd.S_lit Kd.goal _ (x := (⟨1, t2, [], []⟩ : Goal)) (cs := [.int .i64 1, .slice GA t2.length ga, .slice none 0 0, .slice none 0 0]) ⟨_, _, _, rfl, HY7.out, Kd.S_nil _ _ _, Kd.S_nil _ _ _⟩ rfl) rfl (by simp only [List.length_singleton]; omega) (Nat.le_trans HD6.out.bel.size (bel_alloc (Below.refl _ _) _).size) ?_; intro v7 w7 hg; have hwg := Wrote.grew hg (Kd.O_alloc _ HO6.out) (Nat.le_trans HD6.out.bel.size (bel_alloc (Below.refl _ _) _).size); have hO7 := hg.own; obtain ⟨B2, hB2⟩ : ∃ B2, body ++ [(⟨1, t2, [], []⟩ : Goal)] = B2 := ⟨_, rfl⟩; rw [hB2] at hO7; have HZ2 := Lib.hid hB2; obtain ⟨BB, bm, rfl, -, -, -⟩ := Kd.O_read hO7; have HC7 := Lib.hid (Bx.but (Bx.alloc HC6.out (.cells #[.int .i64 1, .slice GA t2.length ga, .slice none 0 0, .slice none 0 0] 160)) hwg.but (by decide)); have HT7 := Lib.hid (hwg.S (Kd.S_alloc (.cells #[.int .i64 1, .slice GA t2.length ga, .slice none 0 0, .slice none 0 0] 160) HT6.out) (by decide)); have HR7 := Lib.hid ((HR6.out.ext (bel_alloc (Below.refl _ _) (.cells #[.int .i64 1, .slice GA t2.length ga, .slice none 0 0, .slice none 0 0] 160))).wrote hwg hsz (by decide)); have HD7 := Lib.hid (DW.own (DW.ext HD6.out (bel_alloc (Below.refl _ _) (.cells #[.int .i64 1, .slice GA t2.length ga, .slice none 0 0, .slice none 0 0] 160)) hsz) hwg.bel hsz); have s7 := Bx.at' HC7.out 1 (.slice BA body.length bn) rfl; have f7 := Bx.free HC7.out 1; have HC8 : Hid (Bx _ w1.heap.size 126 #[.slice HA t.length hn, .slice BB B2.length bm]) := Lib.hid (Bx.put HC7.out 1 (.slice BB B2.length bm)); have hk8 := bx_but (j := 1) (u := .slice BB B2.length bm) HC7.out; have hb8 : Below W.heap.size w7 (w7.setCell ⟨w1.heap.size, 1, none⟩ (.slice BB B2.length bm)) := (Below.refl _ _).setCell hzw _; have HO8 := Lib.hid (hk8.O hO7 (by decide)); have HT8 := Lib.hid (hk8.S HT7.out (by decide)); have HR8 := Lib.hid (HR7.out.wrote (b := W.heap.size) ⟨hb8, hk8⟩ hsz (by decide)); have HD8 := Lib.hid (DW.own HD7.out hb8 hsz); clear hg hwg hO7 hB2 hk8 hb8) | fail)
      have hl2 : B2.length = body.length + 1 := by rw [← HZ2.out, List.length_append, List.length_singleton]
      exact ⟨⟨m, B2, BB, bm, by go_num, by omega, HO8, Lib.hid (fun x hx => by
        rw [← HZ2.out, List.mem_append, List.mem_singleton] at hx
        rcases hx with hx | rfl
        · exact HFr.out x hx
        · exact ⟨by first | exact Nat.zero_le _ | (dsimp only; omega), by first | exact Nat.zero_le _ | (dsimp only; omega), by first | exact Nat.zero_le _ | (dsimp only; omega)⟩), HT8, HC8, Lib.hid (HR8.out.mono (by rw [hl2]; omega)), HD8⟩, by first | (simp [intOf]; done) | (simp [intOf]; omega)⟩
end Go.Proofs.YtjglbadkbhopoaaGreatDoor
namespace Go.Proofs.YtjglbadkbhopoaaGreatDoor
open Go.RowKit
set_option maxRecDepth 100000
set_option maxHeartbeats 8000000
set_option linter.unusedVariables false
def strOf : Value → ByteArray
  | .string s => s
  | _ => ⟨#[]⟩
def isS (n : Nat) : Value → Bool
  | .string s => decide (s.size ≤ n)
  | _ => false
theorem isS_eq {n : Nat} {v : Value} (h : isS n v = true) : v = .string (strOf v) ∧ (strOf v).size ≤ n := by
  cases v <;> simp [isS, strOf] at h ⊢
  exact h
theorem S_texts {w : World} {cs : List Value} (n : Nat) (h : cs.all (isS n) = true) (hl : cs.length ≤ 1000) : Kd.str.S 9 (w.alloc (.cells cs.toArray 9)) (.slice (some ⟨w.heap.size, 0, none⟩) cs.length cs.length) (cs.map strOf) ∧ ∀ x ∈ cs.map strOf, x.size ≤ n := by
  refine ⟨?_, fun x hx => ?_⟩
  · have h1 := S_litn (d := Kd.str) rfl 9 (w := w) (xs := cs.map strOf) (vs := cs) (by rw [List.length_map]) (by rw [List.length_map]; exact Nat.le_trans hl (by decide)) (fun i x hx => by
      rw [List.getElem?_map] at hx
      cases hc : cs[i]? with
      | none => rw [hc] at hx; cases hx
      | some v =>
        rw [hc] at hx
        have hx : some (strOf v) = some x := hx
        have hv := (isS_eq (List.all_eq_true.1 h v (List.mem_of_getElem? hc))).1
        obtain rfl := Option.some.inj hx
        exact ⟨v, rfl, by show [v] = _; rw [← hv]⟩)
    rwa [List.length_map] at h1
  · obtain ⟨v, hv, rfl⟩ := List.mem_map.1 hx
    exact (isS_eq (List.all_eq_true.1 h v hv)).2
theorem quest_c (w : World) : Calls Tryz.prog 68 #[] w fun e w' => ∃ (v : Value) (qs : List ByteArray), e = .returned v ∧ Kd.str.S 9 w' v qs ∧ qs.length = 18 ∧ (∀ x ∈ qs, x.size ≤ 100) ∧ Below w.heap.size w w' := by
  go_enter Tryz.func68, Tryz.ntmps68
  go_wp2
  go_ret
  exact ⟨_, _, rfl, (S_texts (cs := [_, _, _, _, _, _, _, _, _, _, _, _, _, _, _, _, _, _]) 100 (by rfl) (by decide)).1, rfl, (S_texts (w := w) 100 (by rfl) (by decide)).2, bel_alloc (Below.refl _ _) _⟩
def okL (c : List Value) : Bool := c.all (isS 300) && decide (1 ≤ c.length) && decide (c.length ≤ 10)
theorem okL_iff {c : List Value} (h : okL c = true) : c.all (isS 300) = true ∧ 1 ≤ c.length ∧ c.length ≤ 10 := by
  unfold okL at h
  simp only [Bool.and_eq_true, decide_eq_true_eq] at h
  exact ⟨h.1.1, h.1.2, h.2⟩
end Go.Proofs.YtjglbadkbhopoaaGreatDoor
